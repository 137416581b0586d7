/- Part of the proof of VrfsPuts: printed mirrors of the functions, or their contracts. No conditions. -/
import Derived.Test.YtcclngfmkodgjaaGreatMAK8
set_option linter.unusedVariables false
set_option maxRecDepth 100000
namespace Go.Eng
open Go Go.Proofs
theorem k_palingref15_tops_L1 {a1 : Api_Net} {a2 : Api_Net} : LoopOK Tryz.prog UU 0 115 (subC (codeOf Tryz.f55) [1, 1, 0, 1, 0, 0]) (ρ := Unit ⊕ Unit) (palingref15_tops_L1 a1 a2)
  (fun v7 : Int => ([(2, .o 0), (3, .o 1), (4, .y false), (5, .j v7)] : Fr DD)) (fun v7 : Int => ([.box 31 (c31 a1) false, .box 31 (c31 a2) false] : Heap DD)) (fun r => match r with | Sum.inl _ => .ret | Sum.inr _ => .exit 0) (fun r => match r with | Sum.inl _ => [(4, .y false)] | Sum.inr _ => [(2, .o 0), (3, .o 1), (4, .y false)]) (fun r => match r with | Sum.inl _ => [] | Sum.inr _ => [.box 31 (c31 a1) false, .box 31 (c31 a2) false]) := by
 refine loop_sound3 (fun s q h => ?_) (fun r => ?_)
 ·replace h : palingref15_tops_L1 a1 a2 s = some q := h; revert h; revert s; intro v7 h
  unfold palingref15_tops_L1 at h
  obtain ⟨h8, h⟩|⟨h8, h⟩ := ite_out h
  ·obtain ⟨x9, h10, h⟩ := bo h
   obtain ⟨x11, h12, h⟩ := bo h
   obtain ⟨h13, h⟩|⟨h13, h⟩ := ite_out h
   ·obtain rfl := oi h; exact rl [4] [] [.t, .row (c56 x9), .row (c56 x11), .t] (pc h8<|pc (ob56 h10)<|pc (ob56 h12)<|pc h13<|pn)
   ·obtain rfl := oi h; exact rl [2, 3, 4, 5] [0, 1] [.t, .row (c56 x9), .row (c56 x11), .f] (pc h8<|pc (ob56 h10)<|pc (ob56 h12)<|pc h13<|pn)
  ·obtain rfl := oi h; exact rl [2, 3, 4] [0, 1] [.f] (pc h8<|pn)
 ·rcases r with _ | _ <;> exact Ex.noConfusion

theorem k_palingref15_tops_L2 {a1 : Api_Net} {a2 : Api_Net} : LoopOK Tryz.prog UU 0 115 (subC (codeOf Tryz.f55) [1, 1, 1, 0, 1, 0, 0]) (ρ := Unit ⊕ Unit) (palingref15_tops_L2 a1 a2)
  (fun v16 : Int => ([(2, .o 0), (3, .o 1), (4, .y false), (6, .j v16)] : Fr DD)) (fun v16 : Int => ([.box 31 (c31 a1) false, .box 31 (c31 a2) false] : Heap DD)) (fun r => match r with | Sum.inl _ => .ret | Sum.inr _ => .exit 2) (fun r => match r with | Sum.inl _ => [(4, .y false)] | Sum.inr _ => [(2, .o 0), (3, .o 1), (4, .y false)]) (fun r => match r with | Sum.inl _ => [] | Sum.inr _ => [.box 31 (c31 a1) false, .box 31 (c31 a2) false]) := by
 refine loop_sound3 (fun s q h => ?_) (fun r => ?_)
 ·replace h : palingref15_tops_L2 a1 a2 s = some q := h; revert h; revert s; intro v16 h
  unfold palingref15_tops_L2 at h
  obtain ⟨h17, h⟩|⟨h17, h⟩ := ite_out h
  ·obtain ⟨x18, h19, h⟩ := bo h
   obtain ⟨x20, h21, h⟩ := bo h
   obtain ⟨h22, h⟩|⟨h22, h⟩ := ite_out h
   ·obtain rfl := oi h; exact rl [4] [] [.t, .row (c174 x18), .row (c174 x20), .t] (pc h17<|pc (ob174 h19)<|pc (ob174 h21)<|pc h22<|pn)
   ·obtain rfl := oi h; exact rl [2, 3, 4, 6] [0, 1] [.t, .row (c174 x18), .row (c174 x20), .f] (pc h17<|pc (ob174 h19)<|pc (ob174 h21)<|pc h22<|pn)
  ·obtain rfl := oi h; exact rl [2, 3, 4] [0, 1] [.f] (pc h17<|pn)
 ·rcases r with _ | _ <;> exact Ex.noConfusion

theorem k_palingref15_tops_L3 {a1 : Api_Net} {a2 : Api_Net} : LoopOK Tryz.prog UU 0 115 (subC (codeOf Tryz.f55) [1, 1, 1, 1, 0, 1, 0, 0]) (ρ := Unit ⊕ Unit) (palingref15_tops_L3 a1 a2)
  (fun v25 : Int => ([(2, .o 0), (3, .o 1), (4, .y false), (7, .j v25)] : Fr DD)) (fun v25 : Int => ([.box 31 (c31 a1) false, .box 31 (c31 a2) false] : Heap DD)) (fun r => match r with | Sum.inl _ => .ret | Sum.inr _ => .exit 4) (fun r => match r with | Sum.inl _ => [(4, .y false)] | Sum.inr _ => [(2, .o 0), (3, .o 1), (4, .y false)]) (fun r => match r with | Sum.inl _ => [] | Sum.inr _ => [.box 31 (c31 a1) false, .box 31 (c31 a2) false]) := by
 refine loop_sound3 (fun s q h => ?_) (fun r => ?_)
 ·replace h : palingref15_tops_L3 a1 a2 s = some q := h; revert h; revert s; intro v25 h
  unfold palingref15_tops_L3 at h
  obtain ⟨h26, h⟩|⟨h26, h⟩ := ite_out h
  ·obtain ⟨x27, h28, h⟩ := bo h
   obtain ⟨x29, h30, h⟩ := bo h
   obtain ⟨h31, h⟩|⟨h31, h⟩ := ite_out h
   ·obtain rfl := oi h; exact rl [4] [] [.t, .row (c178 x27), .row (c178 x29), .t] (pc h26<|pc (ob178 h28)<|pc (ob178 h30)<|pc h31<|pn)
   ·obtain rfl := oi h; exact rl [2, 3, 4, 7] [0, 1] [.t, .row (c178 x27), .row (c178 x29), .f] (pc h26<|pc (ob178 h28)<|pc (ob178 h30)<|pc h31<|pn)
  ·obtain rfl := oi h; exact rl [2, 3, 4] [0, 1] [.f] (pc h26<|pn)
 ·rcases r with _ | _ <;> exact Ex.noConfusion

theorem k_palingref15_tops_L4 {a1 : Api_Net} {a2 : Api_Net} : LoopOK Tryz.prog UU 0 115 (subC (codeOf Tryz.f55) [1, 1, 1, 1, 1, 0, 1, 0, 0]) (ρ := Unit ⊕ Unit) (palingref15_tops_L4 a1 a2)
  (fun v34 : Int => ([(2, .o 0), (3, .o 1), (4, .y false), (8, .j v34)] : Fr DD)) (fun v34 : Int => ([.box 31 (c31 a1) false, .box 31 (c31 a2) false] : Heap DD)) (fun r => match r with | Sum.inl _ => .ret | Sum.inr _ => .exit 6) (fun r => match r with | Sum.inl _ => [(4, .y false)] | Sum.inr _ => [(4, .y false)]) (fun r => match r with | Sum.inl _ => [] | Sum.inr _ => []) := by
 refine loop_sound3 (fun s q h => ?_) (fun r => ?_)
 ·replace h : palingref15_tops_L4 a1 a2 s = some q := h; revert h; revert s; intro v34 h
  unfold palingref15_tops_L4 at h
  obtain ⟨h35, h⟩|⟨h35, h⟩ := ite_out h
  ·obtain ⟨x36, h37, h⟩ := bo h
   obtain ⟨x38, h39, h⟩ := bo h
   obtain ⟨h40, h⟩|⟨h40, h⟩ := ite_out h
   ·obtain rfl := oi h; exact rl [4] [] [.t, .row (c105 x36), .row (c105 x38), .t] (pc h35<|pc (ob105 h37)<|pc (ob105 h39)<|pc h40<|pn)
   ·obtain rfl := oi h; exact rl [2, 3, 4, 8] [0, 1] [.t, .row (c105 x36), .row (c105 x38), .f] (pc h35<|pc (ob105 h37)<|pc (ob105 h39)<|pc h40<|pn)
  ·obtain rfl := oi h; exact rl [4] [] [.f] (pc h35<|pn)
 ·rcases r with _ | _ <;> exact Ex.noConfusion

theorem k_palingref15_tops {a1 : Api_Net} {a2 : Api_Net} {r : Bool} (h : palingref15_tops a1 a2 = some r) :
  CallsOK Tryz.prog UU 55 [.agg (c31 a1), .agg (c31 a2)] [] (.y r) [] := by
 unfold palingref15_tops at h
 obtain ⟨h3, h⟩|⟨h3, h⟩ := ite_out h
 ·obtain rfl := oi h; exact rf Tryz.func55 none [.t] (pc h3<|pn)
 ·obtain ⟨h4, h⟩|⟨h4, h⟩ := ite_out h
  ·obtain rfl := oi h; exact rf Tryz.func55 none [.f, .t] (pc h3<|pc h4<|pn)
  ·obtain ⟨h5, h⟩|⟨h5, h⟩ := ite_out h
   ·obtain rfl := oi h; exact rf Tryz.func55 none [.f, .f, .t] (pc h3<|pc h4<|pc h5<|pn)
   ·obtain ⟨h6, h⟩|⟨h6, h⟩ := ite_out h
    ·obtain rfl := oi h; exact rf Tryz.func55 none [.f, .f, .f, .t] (pc h3<|pc h4<|pc h5<|pc h6<|pn)
    ·obtain ⟨r15, h14, h⟩ := bo h
     rcases r15 with _ | _
     ·obtain rfl := oi h; exact rf Tryz.func55 none [.f, .f, .f, .f, .sum [2, 3, 4, 5] [0, 1] .ret [(4, .y false)] []] (pc h3<|pc h4<|pc h5<|pc h6<|pc (k_palingref15_tops_L1 _ _ h14)<|pn)
     ·obtain ⟨r24, h23, h⟩ := bo h
      rcases r24 with _ | _
      ·obtain rfl := oi h; exact rf Tryz.func55 none [.f, .f, .f, .f, .sum [2, 3, 4, 5] [0, 1] (.exit 0) [(2, .o 0), (3, .o 1), (4, .y false)] [.box 31 (c31 a1) false, .box 31 (c31 a2) false], .sum [2, 3, 4, 6] [0, 1] .ret [(4, .y false)] []] (pc h3<|pc h4<|pc h5<|pc h6<|pc (k_palingref15_tops_L1 _ _ h14)<|pc (k_palingref15_tops_L2 _ _ h23)<|pn)
      ·obtain ⟨r33, h32, h⟩ := bo h
       rcases r33 with _ | _
       ·obtain rfl := oi h; exact rf Tryz.func55 none [.f, .f, .f, .f, .sum [2, 3, 4, 5] [0, 1] (.exit 0) [(2, .o 0), (3, .o 1), (4, .y false)] [.box 31 (c31 a1) false, .box 31 (c31 a2) false], .sum [2, 3, 4, 6] [0, 1] (.exit 2) [(2, .o 0), (3, .o 1), (4, .y false)] [.box 31 (c31 a1) false, .box 31 (c31 a2) false], .sum [2, 3, 4, 7] [0, 1] .ret [(4, .y false)] []] (pc h3<|pc h4<|pc h5<|pc h6<|pc (k_palingref15_tops_L1 _ _ h14)<|pc (k_palingref15_tops_L2 _ _ h23)<|pc (k_palingref15_tops_L3 _ _ h32)<|pn)
       ·obtain ⟨r42, h41, h⟩ := bo h
        rcases r42 with _ | _
        ·obtain rfl := oi h; exact rf Tryz.func55 none [.f, .f, .f, .f, .sum [2, 3, 4, 5] [0, 1] (.exit 0) [(2, .o 0), (3, .o 1), (4, .y false)] [.box 31 (c31 a1) false, .box 31 (c31 a2) false], .sum [2, 3, 4, 6] [0, 1] (.exit 2) [(2, .o 0), (3, .o 1), (4, .y false)] [.box 31 (c31 a1) false, .box 31 (c31 a2) false], .sum [2, 3, 4, 7] [0, 1] (.exit 4) [(2, .o 0), (3, .o 1), (4, .y false)] [.box 31 (c31 a1) false, .box 31 (c31 a2) false], .sum [2, 3, 4, 8] [0, 1] .ret [(4, .y false)] []] (pc h3<|pc h4<|pc h5<|pc h6<|pc (k_palingref15_tops_L1 _ _ h14)<|pc (k_palingref15_tops_L2 _ _ h23)<|pc (k_palingref15_tops_L3 _ _ h32)<|pc (k_palingref15_tops_L4 _ _ h41)<|pn)
        ·obtain rfl := oi h; exact rf Tryz.func55 none [.f, .f, .f, .f, .sum [2, 3, 4, 5] [0, 1] (.exit 0) [(2, .o 0), (3, .o 1), (4, .y false)] [.box 31 (c31 a1) false, .box 31 (c31 a2) false], .sum [2, 3, 4, 6] [0, 1] (.exit 2) [(2, .o 0), (3, .o 1), (4, .y false)] [.box 31 (c31 a1) false, .box 31 (c31 a2) false], .sum [2, 3, 4, 7] [0, 1] (.exit 4) [(2, .o 0), (3, .o 1), (4, .y false)] [.box 31 (c31 a1) false, .box 31 (c31 a2) false], .sum [2, 3, 4, 8] [0, 1] (.exit 6) [(4, .y false)] []] (pc h3<|pc h4<|pc h5<|pc h6<|pc (k_palingref15_tops_L1 _ _ h14)<|pc (k_palingref15_tops_L2 _ _ h23)<|pc (k_palingref15_tops_L3 _ _ h32)<|pc (k_palingref15_tops_L4 _ _ h41)<|pn)

theorem k_palingref15_Same_L1 {a1 : Api_Net} {a2 : Api_Net} : LoopOK Tryz.prog UU 0 276 (subC (codeOf Tryz.f14) [1, 1, 0, 1, 0, 0]) (ρ := Unit ⊕ Unit) (palingref15_Same_L1 a1 a2)
  (fun v10 : Int => ([(2, .o 0), (3, .o 1), (4, .y false), (5, .j v10)] : Fr DD)) (fun v10 : Int => ([.box 31 (c31 a1) false, .box 31 (c31 a2) false] : Heap DD)) (fun r => match r with | Sum.inl _ => .ret | Sum.inr _ => .exit 0) (fun r => match r with | Sum.inl _ => [(4, .y false)] | Sum.inr _ => [(2, .o 0), (3, .o 1), (4, .y false)]) (fun r => match r with | Sum.inl _ => [] | Sum.inr _ => [.box 31 (c31 a1) false, .box 31 (c31 a2) false]) := by
 refine loop_sound3 (fun s q h => ?_) (fun r => ?_)
 ·replace h : palingref15_Same_L1 a1 a2 s = some q := h; revert h; revert s; intro v10 h
  unfold palingref15_Same_L1 at h
  obtain ⟨h11, h⟩|⟨h11, h⟩ := ite_out h
  ·obtain ⟨x12, h13, h⟩ := bo h
   obtain ⟨x14, h15, h⟩ := bo h
   obtain ⟨h16, h⟩|⟨h16, h⟩ := ite_out h
   ·obtain rfl := oi h; exact rl [4] [] [.t, .row (c110 x12), .row (c110 x14), .t] (pc h11<|pc (ob110 h13)<|pc (ob110 h15)<|pc h16<|pn)
   ·obtain ⟨h17, h⟩|⟨h17, h⟩ := ite_out h
    ·obtain rfl := oi h; exact rl [4] [] [.t, .row (c110 x12), .row (c110 x14), .f, .t] (pc h11<|pc (ob110 h13)<|pc (ob110 h15)<|pc h16<|pc h17<|pn)
    ·obtain ⟨h18, h⟩|⟨h18, h⟩ := ite_out h
     ·obtain rfl := oi h; exact rl [4] [] [.t, .row (c110 x12), .row (c110 x14), .f, .f, .t] (pc h11<|pc (ob110 h13)<|pc (ob110 h15)<|pc h16<|pc h17<|pc h18<|pn)
     ·obtain ⟨h19, h⟩|⟨h19, h⟩ := ite_out h
      ·obtain rfl := oi h; exact rl [4] [] [.t, .row (c110 x12), .row (c110 x14), .f, .f, .f, .t] (pc h11<|pc (ob110 h13)<|pc (ob110 h15)<|pc h16<|pc h17<|pc h18<|pc h19<|pn)
      ·obtain ⟨h20, h⟩|⟨h20, h⟩ := ite_out h
       ·obtain rfl := oi h; exact rl [4] [] [.t, .row (c110 x12), .row (c110 x14), .f, .f, .f, .f, .t] (pc h11<|pc (ob110 h13)<|pc (ob110 h15)<|pc h16<|pc h17<|pc h18<|pc h19<|pc h20<|pn)
       ·obtain ⟨h21, h⟩|⟨h21, h⟩ := ite_out h
        ·obtain rfl := oi h; exact rl [4] [] [.t, .row (c110 x12), .row (c110 x14), .f, .f, .f, .f, .f, .t] (pc h11<|pc (ob110 h13)<|pc (ob110 h15)<|pc h16<|pc h17<|pc h18<|pc h19<|pc h20<|pc h21<|pn)
        ·obtain ⟨r22, h23, h⟩ := bo h
         obtain ⟨h24, h⟩|⟨h24, h⟩ := ite_out h
         ·obtain rfl := oi h; exact rl [4] [] [.t, .row (c110 x12), .row (c110 x14), .f, .f, .f, .f, .f, .f, .b r22, .t] (pc h11<|pc (ob110 h13)<|pc (ob110 h15)<|pc h16<|pc h17<|pc h18<|pc h19<|pc h20<|pc h21<|pc (k_palingref03_Ints h23)<|pc h24<|pn)
         ·obtain rfl := oi h; exact rl [2, 3, 4, 5] [0, 1] [.t, .row (c110 x12), .row (c110 x14), .f, .f, .f, .f, .f, .f, .b r22, .f] (pc h11<|pc (ob110 h13)<|pc (ob110 h15)<|pc h16<|pc h17<|pc h18<|pc h19<|pc h20<|pc h21<|pc (k_palingref03_Ints h23)<|pc h24<|pn)
  ·obtain rfl := oi h; exact rl [2, 3, 4] [0, 1] [.f] (pc h11<|pn)
 ·rcases r with _ | _ <;> exact Ex.noConfusion

theorem k_palingref15_Same_L2 {a1 : Api_Net} {a2 : Api_Net} : LoopOK Tryz.prog UU 0 276 (subC (codeOf Tryz.f14) [1, 1, 1, 0, 1, 0, 0]) (ρ := Unit ⊕ Unit) (palingref15_Same_L2 a1 a2)
  (fun v27 : Int => ([(2, .o 0), (3, .o 1), (4, .y false), (8, .j v27)] : Fr DD)) (fun v27 : Int => ([.box 31 (c31 a1) false, .box 31 (c31 a2) false] : Heap DD)) (fun r => match r with | Sum.inl _ => .ret | Sum.inr _ => .exit 2) (fun r => match r with | Sum.inl _ => [(4, .y false)] | Sum.inr _ => [(2, .o 0), (3, .o 1), (4, .y false)]) (fun r => match r with | Sum.inl _ => [] | Sum.inr _ => [.box 31 (c31 a1) false, .box 31 (c31 a2) false]) := by
 refine loop_sound3 (fun s q h => ?_) (fun r => ?_)
 ·replace h : palingref15_Same_L2 a1 a2 s = some q := h; revert h; revert s; intro v27 h
  unfold palingref15_Same_L2 at h
  obtain ⟨h28, h⟩|⟨h28, h⟩ := ite_out h
  ·obtain ⟨x29, h30, h⟩ := bo h
   obtain ⟨x31, h32, h⟩ := bo h
   obtain ⟨h33, h⟩|⟨h33, h⟩ := ite_out h
   ·obtain rfl := oi h; exact rl [4] [] [.t, .row (c90 x29), .row (c90 x31), .t] (pc h28<|pc (ob90 h30)<|pc (ob90 h32)<|pc h33<|pn)
   ·obtain ⟨h34, h⟩|⟨h34, h⟩ := ite_out h
    ·obtain rfl := oi h; exact rl [4] [] [.t, .row (c90 x29), .row (c90 x31), .f, .t] (pc h28<|pc (ob90 h30)<|pc (ob90 h32)<|pc h33<|pc h34<|pn)
    ·obtain ⟨h35, h⟩|⟨h35, h⟩ := ite_out h
     ·obtain rfl := oi h; exact rl [4] [] [.t, .row (c90 x29), .row (c90 x31), .f, .f, .t] (pc h28<|pc (ob90 h30)<|pc (ob90 h32)<|pc h33<|pc h34<|pc h35<|pn)
     ·obtain ⟨h36, h⟩|⟨h36, h⟩ := ite_out h
      ·obtain rfl := oi h; exact rl [4] [] [.t, .row (c90 x29), .row (c90 x31), .f, .f, .f, .t] (pc h28<|pc (ob90 h30)<|pc (ob90 h32)<|pc h33<|pc h34<|pc h35<|pc h36<|pn)
      ·obtain ⟨h37, h⟩|⟨h37, h⟩ := ite_out h
       ·obtain rfl := oi h; exact rl [4] [] [.t, .row (c90 x29), .row (c90 x31), .f, .f, .f, .f, .t] (pc h28<|pc (ob90 h30)<|pc (ob90 h32)<|pc h33<|pc h34<|pc h35<|pc h36<|pc h37<|pn)
       ·obtain ⟨r38, h39, h⟩ := bo h
        obtain ⟨h40, h⟩|⟨h40, h⟩ := ite_out h
        ·obtain rfl := oi h; exact rl [4] [] [.t, .row (c90 x29), .row (c90 x31), .f, .f, .f, .f, .f, .b r38, .t] (pc h28<|pc (ob90 h30)<|pc (ob90 h32)<|pc h33<|pc h34<|pc h35<|pc h36<|pc h37<|pc (k_palingref03_Ints h39)<|pc h40<|pn)
        ·obtain rfl := oi h; exact rl [2, 3, 4, 8] [0, 1] [.t, .row (c90 x29), .row (c90 x31), .f, .f, .f, .f, .f, .b r38, .f] (pc h28<|pc (ob90 h30)<|pc (ob90 h32)<|pc h33<|pc h34<|pc h35<|pc h36<|pc h37<|pc (k_palingref03_Ints h39)<|pc h40<|pn)
  ·obtain rfl := oi h; exact rl [2, 3, 4] [0, 1] [.f] (pc h28<|pn)
 ·rcases r with _ | _ <;> exact Ex.noConfusion

theorem k_palingref15_Same_L3 {a1 : Api_Net} {a2 : Api_Net} : LoopOK Tryz.prog UU 0 276 (subC (codeOf Tryz.f14) [1, 1, 1, 1, 0, 1, 0, 0]) (ρ := Unit ⊕ Unit) (palingref15_Same_L3 a1 a2)
  (fun v43 : Int => ([(2, .o 0), (3, .o 1), (4, .y false), (11, .j v43)] : Fr DD)) (fun v43 : Int => ([.box 31 (c31 a1) false, .box 31 (c31 a2) false] : Heap DD)) (fun r => match r with | Sum.inl _ => .ret | Sum.inr _ => .exit 4) (fun r => match r with | Sum.inl _ => [(4, .y false)] | Sum.inr _ => [(2, .o 0), (3, .o 1), (4, .y false)]) (fun r => match r with | Sum.inl _ => [] | Sum.inr _ => [.box 31 (c31 a1) false, .box 31 (c31 a2) false]) := by
 refine loop_sound3 (fun s q h => ?_) (fun r => ?_)
 ·replace h : palingref15_Same_L3 a1 a2 s = some q := h; revert h; revert s; intro v43 h
  unfold palingref15_Same_L3 at h
  obtain ⟨h44, h⟩|⟨h44, h⟩ := ite_out h
  ·obtain ⟨x45, h46, h⟩ := bo h
   obtain ⟨x47, h48, h⟩ := bo h
   obtain ⟨h49, h⟩|⟨h49, h⟩ := ite_out h
   ·obtain rfl := oi h; exact rl [4] [] [.t, .row (c113 x45), .row (c113 x47), .t] (pc h44<|pc (ob113 h46)<|pc (ob113 h48)<|pc h49<|pn)
   ·obtain ⟨h50, h⟩|⟨h50, h⟩ := ite_out h
    ·obtain rfl := oi h; exact rl [4] [] [.t, .row (c113 x45), .row (c113 x47), .f, .t] (pc h44<|pc (ob113 h46)<|pc (ob113 h48)<|pc h49<|pc h50<|pn)
    ·obtain ⟨h51, h⟩|⟨h51, h⟩ := ite_out h
     ·obtain rfl := oi h; exact rl [4] [] [.t, .row (c113 x45), .row (c113 x47), .f, .f, .t] (pc h44<|pc (ob113 h46)<|pc (ob113 h48)<|pc h49<|pc h50<|pc h51<|pn)
     ·obtain ⟨r52, h53, h⟩ := bo h
      obtain ⟨h54, h⟩|⟨h54, h⟩ := ite_out h
      ·obtain rfl := oi h; exact rl [4] [] [.t, .row (c113 x45), .row (c113 x47), .f, .f, .f, .b r52, .t] (pc h44<|pc (ob113 h46)<|pc (ob113 h48)<|pc h49<|pc h50<|pc h51<|pc (k_palingref03_Addrs h53)<|pc h54<|pn)
      ·obtain rfl := oi h; exact rl [2, 3, 4, 11] [0, 1] [.t, .row (c113 x45), .row (c113 x47), .f, .f, .f, .b r52, .f] (pc h44<|pc (ob113 h46)<|pc (ob113 h48)<|pc h49<|pc h50<|pc h51<|pc (k_palingref03_Addrs h53)<|pc h54<|pn)
  ·obtain rfl := oi h; exact rl [2, 3, 4] [0, 1] [.f] (pc h44<|pn)
 ·rcases r with _ | _ <;> exact Ex.noConfusion

theorem k_palingref15_Same_L4 {a1 : Api_Net} {a2 : Api_Net} : LoopOK Tryz.prog UU 0 276 (subC (codeOf Tryz.f14) [1, 1, 1, 1, 1, 0, 1, 0, 0]) (ρ := Unit ⊕ Unit) (palingref15_Same_L4 a1 a2)
  (fun v57 : Int => ([(2, .o 0), (3, .o 1), (4, .y false), (14, .j v57)] : Fr DD)) (fun v57 : Int => ([.box 31 (c31 a1) false, .box 31 (c31 a2) false] : Heap DD)) (fun r => match r with | Sum.inl _ => .ret | Sum.inr _ => .exit 6) (fun r => match r with | Sum.inl _ => [(4, .y false)] | Sum.inr _ => [(4, .y false)]) (fun r => match r with | Sum.inl _ => [] | Sum.inr _ => []) := by
 refine loop_sound3 (fun s q h => ?_) (fun r => ?_)
 ·replace h : palingref15_Same_L4 a1 a2 s = some q := h; revert h; revert s; intro v57 h
  unfold palingref15_Same_L4 at h
  obtain ⟨h58, h⟩|⟨h58, h⟩ := ite_out h
  ·obtain ⟨x59, h60, h⟩ := bo h
   obtain ⟨x61, h62, h⟩ := bo h
   obtain ⟨h63, h⟩|⟨h63, h⟩ := ite_out h
   ·obtain rfl := oi h; exact rl [4] [] [.t, .row (c88 x59), .row (c88 x61), .t] (pc h58<|pc (ob88 h60)<|pc (ob88 h62)<|pc h63<|pn)
   ·obtain ⟨h64, h⟩|⟨h64, h⟩ := ite_out h
    ·obtain rfl := oi h; exact rl [4] [] [.t, .row (c88 x59), .row (c88 x61), .f, .t] (pc h58<|pc (ob88 h60)<|pc (ob88 h62)<|pc h63<|pc h64<|pn)
    ·obtain ⟨h65, h⟩|⟨h65, h⟩ := ite_out h
     ·obtain rfl := oi h; exact rl [4] [] [.t, .row (c88 x59), .row (c88 x61), .f, .f, .t] (pc h58<|pc (ob88 h60)<|pc (ob88 h62)<|pc h63<|pc h64<|pc h65<|pn)
     ·obtain ⟨r66, h67, h⟩ := bo h
      obtain ⟨h68, h⟩|⟨h68, h⟩ := ite_out h
      ·obtain rfl := oi h; exact rl [4] [] [.t, .row (c88 x59), .row (c88 x61), .f, .f, .f, .b r66, .t] (pc h58<|pc (ob88 h60)<|pc (ob88 h62)<|pc h63<|pc h64<|pc h65<|pc (k_palingref03_Ints h67)<|pc h68<|pn)
      ·obtain ⟨r69, h70, h⟩ := bo h
       obtain ⟨h71, h⟩|⟨h71, h⟩ := ite_out h
       ·obtain rfl := oi h; exact rl [4] [] [.t, .row (c88 x59), .row (c88 x61), .f, .f, .f, .b r66, .f, .b r69, .t] (pc h58<|pc (ob88 h60)<|pc (ob88 h62)<|pc h63<|pc h64<|pc h65<|pc (k_palingref03_Ints h67)<|pc h68<|pc (k_palingref03_Ints h70)<|pc h71<|pn)
       ·obtain rfl := oi h; exact rl [2, 3, 4, 14] [0, 1] [.t, .row (c88 x59), .row (c88 x61), .f, .f, .f, .b r66, .f, .b r69, .f] (pc h58<|pc (ob88 h60)<|pc (ob88 h62)<|pc h63<|pc h64<|pc h65<|pc (k_palingref03_Ints h67)<|pc h68<|pc (k_palingref03_Ints h70)<|pc h71<|pn)
  ·obtain rfl := oi h; exact rl [4] [] [.f] (pc h58<|pn)
 ·rcases r with _ | _ <;> exact Ex.noConfusion

theorem k_palingref15_Same {a1 : Api_Net} {a2 : Api_Net} {r : Bool} (h : palingref15_Same a1 a2 = some r) :
  CallsOK Tryz.prog UU 14 [.agg (c31 a1), .agg (c31 a2)] [] (.y r) [] := by
 unfold palingref15_Same at h
 obtain ⟨r3, h4, h⟩ := bo h
 obtain ⟨h5, h⟩|⟨h5, h⟩ := ite_out h
 ·obtain rfl := oi h; exact rf Tryz.func14 none [.b r3, .t] (pc (k_palingref15_tops h4)<|pc h5<|pn)
 ·obtain ⟨h6, h⟩|⟨h6, h⟩ := ite_out h
  ·obtain rfl := oi h; exact rf Tryz.func14 none [.b r3, .f, .t] (pc (k_palingref15_tops h4)<|pc h5<|pc h6<|pn)
  ·obtain ⟨h7, h⟩|⟨h7, h⟩ := ite_out h
   ·obtain rfl := oi h; exact rf Tryz.func14 none [.b r3, .f, .f, .t] (pc (k_palingref15_tops h4)<|pc h5<|pc h6<|pc h7<|pn)
   ·obtain ⟨h8, h⟩|⟨h8, h⟩ := ite_out h
    ·obtain rfl := oi h; exact rf Tryz.func14 none [.b r3, .f, .f, .f, .t] (pc (k_palingref15_tops h4)<|pc h5<|pc h6<|pc h7<|pc h8<|pn)
    ·obtain ⟨h9, h⟩|⟨h9, h⟩ := ite_out h
     ·obtain rfl := oi h; exact rf Tryz.func14 none [.b r3, .f, .f, .f, .f, .t] (pc (k_palingref15_tops h4)<|pc h5<|pc h6<|pc h7<|pc h8<|pc h9<|pn)
     ·obtain ⟨r26, h25, h⟩ := bo h
      rcases r26 with _ | _
      ·obtain rfl := oi h; exact rf Tryz.func14 none [.b r3, .f, .f, .f, .f, .f, .sum [2, 3, 4, 5] [0, 1] .ret [(4, .y false)] []] (pc (k_palingref15_tops h4)<|pc h5<|pc h6<|pc h7<|pc h8<|pc h9<|pc (k_palingref15_Same_L1 _ _ h25)<|pn)
      ·obtain ⟨r42, h41, h⟩ := bo h
       rcases r42 with _ | _
       ·obtain rfl := oi h; exact rf Tryz.func14 none [.b r3, .f, .f, .f, .f, .f, .sum [2, 3, 4, 5] [0, 1] (.exit 0) [(2, .o 0), (3, .o 1), (4, .y false)] [.box 31 (c31 a1) false, .box 31 (c31 a2) false], .sum [2, 3, 4, 8] [0, 1] .ret [(4, .y false)] []] (pc (k_palingref15_tops h4)<|pc h5<|pc h6<|pc h7<|pc h8<|pc h9<|pc (k_palingref15_Same_L1 _ _ h25)<|pc (k_palingref15_Same_L2 _ _ h41)<|pn)
       ·obtain ⟨r56, h55, h⟩ := bo h
        rcases r56 with _ | _
        ·obtain rfl := oi h; exact rf Tryz.func14 none [.b r3, .f, .f, .f, .f, .f, .sum [2, 3, 4, 5] [0, 1] (.exit 0) [(2, .o 0), (3, .o 1), (4, .y false)] [.box 31 (c31 a1) false, .box 31 (c31 a2) false], .sum [2, 3, 4, 8] [0, 1] (.exit 2) [(2, .o 0), (3, .o 1), (4, .y false)] [.box 31 (c31 a1) false, .box 31 (c31 a2) false], .sum [2, 3, 4, 11] [0, 1] .ret [(4, .y false)] []] (pc (k_palingref15_tops h4)<|pc h5<|pc h6<|pc h7<|pc h8<|pc h9<|pc (k_palingref15_Same_L1 _ _ h25)<|pc (k_palingref15_Same_L2 _ _ h41)<|pc (k_palingref15_Same_L3 _ _ h55)<|pn)
        ·obtain ⟨r73, h72, h⟩ := bo h
         rcases r73 with _ | _
         ·obtain rfl := oi h; exact rf Tryz.func14 none [.b r3, .f, .f, .f, .f, .f, .sum [2, 3, 4, 5] [0, 1] (.exit 0) [(2, .o 0), (3, .o 1), (4, .y false)] [.box 31 (c31 a1) false, .box 31 (c31 a2) false], .sum [2, 3, 4, 8] [0, 1] (.exit 2) [(2, .o 0), (3, .o 1), (4, .y false)] [.box 31 (c31 a1) false, .box 31 (c31 a2) false], .sum [2, 3, 4, 11] [0, 1] (.exit 4) [(2, .o 0), (3, .o 1), (4, .y false)] [.box 31 (c31 a1) false, .box 31 (c31 a2) false], .sum [2, 3, 4, 14] [0, 1] .ret [(4, .y false)] []] (pc (k_palingref15_tops h4)<|pc h5<|pc h6<|pc h7<|pc h8<|pc h9<|pc (k_palingref15_Same_L1 _ _ h25)<|pc (k_palingref15_Same_L2 _ _ h41)<|pc (k_palingref15_Same_L3 _ _ h55)<|pc (k_palingref15_Same_L4 _ _ h72)<|pn)
         ·obtain rfl := oi h; exact rf Tryz.func14 none [.b r3, .f, .f, .f, .f, .f, .sum [2, 3, 4, 5] [0, 1] (.exit 0) [(2, .o 0), (3, .o 1), (4, .y false)] [.box 31 (c31 a1) false, .box 31 (c31 a2) false], .sum [2, 3, 4, 8] [0, 1] (.exit 2) [(2, .o 0), (3, .o 1), (4, .y false)] [.box 31 (c31 a1) false, .box 31 (c31 a2) false], .sum [2, 3, 4, 11] [0, 1] (.exit 4) [(2, .o 0), (3, .o 1), (4, .y false)] [.box 31 (c31 a1) false, .box 31 (c31 a2) false], .sum [2, 3, 4, 14] [0, 1] (.exit 6) [(4, .y false)] []] (pc (k_palingref15_tops h4)<|pc h5<|pc h6<|pc h7<|pc h8<|pc h9<|pc (k_palingref15_Same_L1 _ _ h25)<|pc (k_palingref15_Same_L2 _ _ h41)<|pc (k_palingref15_Same_L3 _ _ h55)<|pc (k_palingref15_Same_L4 _ _ h72)<|pn)

theorem k_palinglaw20_VrfsPuts {a1 : Api_Net} {a2 : Api_Line} {r : Bool} (h : palinglaw20_VrfsPuts a1 a2 = some r) :
  CallsOK Tryz.prog UU 3 [.agg (c31 a1), .agg (c37 a2)] [] (.y r) [] := by
 unfold palinglaw20_VrfsPuts at h
 obtain ⟨r3, h4, h⟩ := bo h
 obtain ⟨h5, h⟩|⟨h5, h⟩ := ite_out h
 ·obtain ⟨r6, h7, h⟩ := bo h
  obtain rfl := oi h; exact rf Tryz.func3 none [.b r3, .t, .b r6] (pc (k_palinglaw16_Great h4)<|pc h5<|pc (k_palinglaw20_works h7)<|pn)
 ·obtain ⟨r8, h9, h⟩ := bo h
  obtain ⟨l10, l11, l12, l13, l14, l15, l16, l17, n18, n19, n20, v21⟩ := r8
  obtain ⟨r22, h23, h⟩ := bo h
  obtain ⟨l24, l25, l26, l27, l28, l29, l30, l31, n32, n33, n34, v35⟩ := r22
  obtain ⟨r36, h37, h⟩ := bo h
  obtain ⟨l38, l39, l40, l41, l42, l43, l44, l45, n46, n47, n48, n49, v50⟩ := r36
  obtain ⟨r51, h52, h⟩ := bo h
  obtain ⟨l53, l54, l55, l56, l57, l58, l59, l60, n61, n62, n63, n64, v65⟩ := r51
  obtain ⟨r66, h67, h⟩ := bo h
  obtain ⟨h68, h⟩|⟨h68, h⟩ := ite_out h
  ·obtain ⟨h69, h⟩|⟨h69, h⟩ := ite_out h
   ·obtain ⟨r70, h71, h⟩ := bo h
    obtain ⟨h72, h⟩|⟨h72, h⟩ := ite_out h
    ·obtain ⟨h73, h⟩|⟨h73, h⟩ := ite_out h
     ·obtain ⟨r74, h75, h⟩ := bo h
      obtain rfl := oi h; exact rf Tryz.func3 none [.b r3, .f, .callm [] (.tup [.agg [.os 0 l10.length, .os 1 n18, .os 2 l12.length, .os 3 n19, .os 4 l14.length, .os 5 n20, .os 6 l16.length, .os 7 l17.length], .j v21]) [.w 56 l10, .arr 110 l11 n18 false, .w 174 l12, .arr 90 l13 n19 false, .w 178 l14, .arr 113 l15 n20 false, .w 88 l16, .w 105 l17], .callm [] (.tup [.agg [.os 0 l24.length, .os 1 n32, .os 2 l26.length, .os 3 n33, .os 4 l28.length, .os 5 n34, .os 6 l30.length, .os 7 l31.length], .j v35]) [.w 56 l24, .arr 110 l25 n32 false, .w 174 l26, .arr 90 l27 n33 false, .w 178 l28, .arr 113 l29 n34 false, .w 88 l30, .w 105 l31], .callm [] (.tup [.agg [.os 0 l38.length, .os 1 n46, .os 2 l40.length, .os 3 n47, .os 4 l42.length, .os 5 n48, .os 6 n49, .os 7 l45.length], .j v50]) [.w 56 l38, .arr 110 l39 n46 false, .w 174 l40, .arr 90 l41 n47 false, .w 178 l42, .arr 113 l43 n48 false, .arr 88 l44 n49 false, .w 105 l45], .callm [] (.tup [.agg [.os 0 l53.length, .os 1 n61, .os 2 l55.length, .os 3 n62, .os 4 l57.length, .os 5 n63, .os 6 n64, .os 7 l60.length], .j v65]) [.w 56 l53, .arr 110 l54 n61 false, .w 174 l55, .arr 90 l56 n62 false, .w 178 l57, .arr 113 l58 n63 false, .arr 88 l59 n64 false, .w 105 l60], .b r66, .t, .t, .b r70, .t, .t, .b r74] (pc (k_palinglaw16_Great h4)<|pc h5<|pc (k_vrfs_Vrf h9)<|pc (k_palingref20_Vrf h23)<|pc (k_vrfs_Irb h37)<|pc (k_palingref20_Irb h52)<|pc (k_palingref15_Same h67)<|pc (rn l10.length)<|pc (rn n18)<|pc (rn l12.length)<|pc (rn n19)<|pc (rn l14.length)<|pc (rn n20)<|pc (rn l16.length)<|pc (rn l17.length)<|pc (rn l24.length)<|pc (rn n32)<|pc (rn l26.length)<|pc (rn n33)<|pc (rn l28.length)<|pc (rn n34)<|pc (rn l30.length)<|pc (rn l31.length)<|pc h68<|pc h69<|pc (k_palingref15_Same h71)<|pc (rn l38.length)<|pc (rn n46)<|pc (rn l40.length)<|pc (rn n47)<|pc (rn l42.length)<|pc (rn n48)<|pc (rn n49)<|pc (rn l45.length)<|pc (rn l53.length)<|pc (rn n61)<|pc (rn l55.length)<|pc (rn n62)<|pc (rn l57.length)<|pc (rn n63)<|pc (rn n64)<|pc (rn l60.length)<|pc h72<|pc h73<|pc (k_palinglaw20_works h75)<|pn)
     ·obtain rfl := oi h; exact rf Tryz.func3 none [.b r3, .f, .callm [] (.tup [.agg [.os 0 l10.length, .os 1 n18, .os 2 l12.length, .os 3 n19, .os 4 l14.length, .os 5 n20, .os 6 l16.length, .os 7 l17.length], .j v21]) [.w 56 l10, .arr 110 l11 n18 false, .w 174 l12, .arr 90 l13 n19 false, .w 178 l14, .arr 113 l15 n20 false, .w 88 l16, .w 105 l17], .callm [] (.tup [.agg [.os 0 l24.length, .os 1 n32, .os 2 l26.length, .os 3 n33, .os 4 l28.length, .os 5 n34, .os 6 l30.length, .os 7 l31.length], .j v35]) [.w 56 l24, .arr 110 l25 n32 false, .w 174 l26, .arr 90 l27 n33 false, .w 178 l28, .arr 113 l29 n34 false, .w 88 l30, .w 105 l31], .callm [] (.tup [.agg [.os 0 l38.length, .os 1 n46, .os 2 l40.length, .os 3 n47, .os 4 l42.length, .os 5 n48, .os 6 n49, .os 7 l45.length], .j v50]) [.w 56 l38, .arr 110 l39 n46 false, .w 174 l40, .arr 90 l41 n47 false, .w 178 l42, .arr 113 l43 n48 false, .arr 88 l44 n49 false, .w 105 l45], .callm [] (.tup [.agg [.os 0 l53.length, .os 1 n61, .os 2 l55.length, .os 3 n62, .os 4 l57.length, .os 5 n63, .os 6 n64, .os 7 l60.length], .j v65]) [.w 56 l53, .arr 110 l54 n61 false, .w 174 l55, .arr 90 l56 n62 false, .w 178 l57, .arr 113 l58 n63 false, .arr 88 l59 n64 false, .w 105 l60], .b r66, .t, .t, .b r70, .t, .f] (pc (k_palinglaw16_Great h4)<|pc h5<|pc (k_vrfs_Vrf h9)<|pc (k_palingref20_Vrf h23)<|pc (k_vrfs_Irb h37)<|pc (k_palingref20_Irb h52)<|pc (k_palingref15_Same h67)<|pc (rn l10.length)<|pc (rn n18)<|pc (rn l12.length)<|pc (rn n19)<|pc (rn l14.length)<|pc (rn n20)<|pc (rn l16.length)<|pc (rn l17.length)<|pc (rn l24.length)<|pc (rn n32)<|pc (rn l26.length)<|pc (rn n33)<|pc (rn l28.length)<|pc (rn n34)<|pc (rn l30.length)<|pc (rn l31.length)<|pc h68<|pc h69<|pc (k_palingref15_Same h71)<|pc (rn l38.length)<|pc (rn n46)<|pc (rn l40.length)<|pc (rn n47)<|pc (rn l42.length)<|pc (rn n48)<|pc (rn n49)<|pc (rn l45.length)<|pc (rn l53.length)<|pc (rn n61)<|pc (rn l55.length)<|pc (rn n62)<|pc (rn l57.length)<|pc (rn n63)<|pc (rn n64)<|pc (rn l60.length)<|pc h72<|pc h73<|pn)
    ·obtain rfl := oi h; exact rf Tryz.func3 none [.b r3, .f, .callm [] (.tup [.agg [.os 0 l10.length, .os 1 n18, .os 2 l12.length, .os 3 n19, .os 4 l14.length, .os 5 n20, .os 6 l16.length, .os 7 l17.length], .j v21]) [.w 56 l10, .arr 110 l11 n18 false, .w 174 l12, .arr 90 l13 n19 false, .w 178 l14, .arr 113 l15 n20 false, .w 88 l16, .w 105 l17], .callm [] (.tup [.agg [.os 0 l24.length, .os 1 n32, .os 2 l26.length, .os 3 n33, .os 4 l28.length, .os 5 n34, .os 6 l30.length, .os 7 l31.length], .j v35]) [.w 56 l24, .arr 110 l25 n32 false, .w 174 l26, .arr 90 l27 n33 false, .w 178 l28, .arr 113 l29 n34 false, .w 88 l30, .w 105 l31], .callm [] (.tup [.agg [.os 0 l38.length, .os 1 n46, .os 2 l40.length, .os 3 n47, .os 4 l42.length, .os 5 n48, .os 6 n49, .os 7 l45.length], .j v50]) [.w 56 l38, .arr 110 l39 n46 false, .w 174 l40, .arr 90 l41 n47 false, .w 178 l42, .arr 113 l43 n48 false, .arr 88 l44 n49 false, .w 105 l45], .callm [] (.tup [.agg [.os 0 l53.length, .os 1 n61, .os 2 l55.length, .os 3 n62, .os 4 l57.length, .os 5 n63, .os 6 n64, .os 7 l60.length], .j v65]) [.w 56 l53, .arr 110 l54 n61 false, .w 174 l55, .arr 90 l56 n62 false, .w 178 l57, .arr 113 l58 n63 false, .arr 88 l59 n64 false, .w 105 l60], .b r66, .t, .t, .b r70, .f] (pc (k_palinglaw16_Great h4)<|pc h5<|pc (k_vrfs_Vrf h9)<|pc (k_palingref20_Vrf h23)<|pc (k_vrfs_Irb h37)<|pc (k_palingref20_Irb h52)<|pc (k_palingref15_Same h67)<|pc (rn l10.length)<|pc (rn n18)<|pc (rn l12.length)<|pc (rn n19)<|pc (rn l14.length)<|pc (rn n20)<|pc (rn l16.length)<|pc (rn l17.length)<|pc (rn l24.length)<|pc (rn n32)<|pc (rn l26.length)<|pc (rn n33)<|pc (rn l28.length)<|pc (rn n34)<|pc (rn l30.length)<|pc (rn l31.length)<|pc h68<|pc h69<|pc (k_palingref15_Same h71)<|pc (rn l38.length)<|pc (rn n46)<|pc (rn l40.length)<|pc (rn n47)<|pc (rn l42.length)<|pc (rn n48)<|pc (rn n49)<|pc (rn l45.length)<|pc (rn l53.length)<|pc (rn n61)<|pc (rn l55.length)<|pc (rn n62)<|pc (rn l57.length)<|pc (rn n63)<|pc (rn n64)<|pc (rn l60.length)<|pc h72<|pn)
   ·obtain rfl := oi h; exact rf Tryz.func3 none [.b r3, .f, .callm [] (.tup [.agg [.os 0 l10.length, .os 1 n18, .os 2 l12.length, .os 3 n19, .os 4 l14.length, .os 5 n20, .os 6 l16.length, .os 7 l17.length], .j v21]) [.w 56 l10, .arr 110 l11 n18 false, .w 174 l12, .arr 90 l13 n19 false, .w 178 l14, .arr 113 l15 n20 false, .w 88 l16, .w 105 l17], .callm [] (.tup [.agg [.os 0 l24.length, .os 1 n32, .os 2 l26.length, .os 3 n33, .os 4 l28.length, .os 5 n34, .os 6 l30.length, .os 7 l31.length], .j v35]) [.w 56 l24, .arr 110 l25 n32 false, .w 174 l26, .arr 90 l27 n33 false, .w 178 l28, .arr 113 l29 n34 false, .w 88 l30, .w 105 l31], .callm [] (.tup [.agg [.os 0 l38.length, .os 1 n46, .os 2 l40.length, .os 3 n47, .os 4 l42.length, .os 5 n48, .os 6 n49, .os 7 l45.length], .j v50]) [.w 56 l38, .arr 110 l39 n46 false, .w 174 l40, .arr 90 l41 n47 false, .w 178 l42, .arr 113 l43 n48 false, .arr 88 l44 n49 false, .w 105 l45], .callm [] (.tup [.agg [.os 0 l53.length, .os 1 n61, .os 2 l55.length, .os 3 n62, .os 4 l57.length, .os 5 n63, .os 6 n64, .os 7 l60.length], .j v65]) [.w 56 l53, .arr 110 l54 n61 false, .w 174 l55, .arr 90 l56 n62 false, .w 178 l57, .arr 113 l58 n63 false, .arr 88 l59 n64 false, .w 105 l60], .b r66, .t, .f] (pc (k_palinglaw16_Great h4)<|pc h5<|pc (k_vrfs_Vrf h9)<|pc (k_palingref20_Vrf h23)<|pc (k_vrfs_Irb h37)<|pc (k_palingref20_Irb h52)<|pc (k_palingref15_Same h67)<|pc (rn l10.length)<|pc (rn n18)<|pc (rn l12.length)<|pc (rn n19)<|pc (rn l14.length)<|pc (rn n20)<|pc (rn l16.length)<|pc (rn l17.length)<|pc (rn l24.length)<|pc (rn n32)<|pc (rn l26.length)<|pc (rn n33)<|pc (rn l28.length)<|pc (rn n34)<|pc (rn l30.length)<|pc (rn l31.length)<|pc h68<|pc h69<|pn)
  ·obtain rfl := oi h; exact rf Tryz.func3 none [.b r3, .f, .callm [] (.tup [.agg [.os 0 l10.length, .os 1 n18, .os 2 l12.length, .os 3 n19, .os 4 l14.length, .os 5 n20, .os 6 l16.length, .os 7 l17.length], .j v21]) [.w 56 l10, .arr 110 l11 n18 false, .w 174 l12, .arr 90 l13 n19 false, .w 178 l14, .arr 113 l15 n20 false, .w 88 l16, .w 105 l17], .callm [] (.tup [.agg [.os 0 l24.length, .os 1 n32, .os 2 l26.length, .os 3 n33, .os 4 l28.length, .os 5 n34, .os 6 l30.length, .os 7 l31.length], .j v35]) [.w 56 l24, .arr 110 l25 n32 false, .w 174 l26, .arr 90 l27 n33 false, .w 178 l28, .arr 113 l29 n34 false, .w 88 l30, .w 105 l31], .callm [] (.tup [.agg [.os 0 l38.length, .os 1 n46, .os 2 l40.length, .os 3 n47, .os 4 l42.length, .os 5 n48, .os 6 n49, .os 7 l45.length], .j v50]) [.w 56 l38, .arr 110 l39 n46 false, .w 174 l40, .arr 90 l41 n47 false, .w 178 l42, .arr 113 l43 n48 false, .arr 88 l44 n49 false, .w 105 l45], .callm [] (.tup [.agg [.os 0 l53.length, .os 1 n61, .os 2 l55.length, .os 3 n62, .os 4 l57.length, .os 5 n63, .os 6 n64, .os 7 l60.length], .j v65]) [.w 56 l53, .arr 110 l54 n61 false, .w 174 l55, .arr 90 l56 n62 false, .w 178 l57, .arr 113 l58 n63 false, .arr 88 l59 n64 false, .w 105 l60], .b r66, .f] (pc (k_palinglaw16_Great h4)<|pc h5<|pc (k_vrfs_Vrf h9)<|pc (k_palingref20_Vrf h23)<|pc (k_vrfs_Irb h37)<|pc (k_palingref20_Irb h52)<|pc (k_palingref15_Same h67)<|pc (rn l10.length)<|pc (rn n18)<|pc (rn l12.length)<|pc (rn n19)<|pc (rn l14.length)<|pc (rn n20)<|pc (rn l16.length)<|pc (rn l17.length)<|pc (rn l24.length)<|pc (rn n32)<|pc (rn l26.length)<|pc (rn n33)<|pc (rn l28.length)<|pc (rn n34)<|pc (rn l30.length)<|pc (rn l31.length)<|pc h68<|pn)

end Go.Eng
