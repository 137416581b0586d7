/- Part of the proof of OverlayPuts: printed mirrors of the functions, or their contracts. No conditions. -/
import Derived.Test.YtgohlmiaddkkeaaGreatMAK8
set_option linter.unusedVariables false
set_option maxRecDepth 100000
namespace Go.Eng
open Go Go.Proofs
theorem k_palingref15_Same_L1 {a1 : Api_Net} {a2 : Api_Net} : LoopOK Tryz.prog UU 0 276 (subC (codeOf Tryz.f11) [1, 1, 0, 1, 0, 0]) (ρ := Unit ⊕ Unit) (palingref15_Same_L1 a1 a2)
  (fun v10 : Int => ([(2, .o 0), (3, .o 1), (4, .y false), (5, .j v10)] : Fr DD)) (fun v10 : Int => ([.box 31 (c31 a1) false, .box 31 (c31 a2) false] : Heap DD)) (fun r => match r with | Sum.inl _ => .ret | Sum.inr _ => .exit 0) (fun r => match r with | Sum.inl _ => [(4, .y false)] | Sum.inr _ => [(2, .o 0), (3, .o 1), (4, .y false)]) (fun r => match r with | Sum.inl _ => [] | Sum.inr _ => [.box 31 (c31 a1) false, .box 31 (c31 a2) false]) := by
 refine loop_sound3 (fun s q h => ?_) (fun r => ?_)
 ·replace h : palingref15_Same_L1 a1 a2 s = some q := h; revert h; revert s; intro v10 h
  unfold palingref15_Same_L1 at h
  obtain ⟨h11, h⟩|⟨h11, h⟩ := ite_out h
  ·obtain ⟨x12, h13, h⟩ := bo h
   obtain ⟨x14, h15, h⟩ := bo h
   obtain ⟨h16, h⟩|⟨h16, h⟩ := ite_out h
   ·obtain rfl := oi h; exact rl [4] [] [.t, .row (c66 x12), .row (c66 x14), .t] (pc h11<|pc (ob66 h13)<|pc (ob66 h15)<|pc h16<|pn)
   ·obtain ⟨h17, h⟩|⟨h17, h⟩ := ite_out h
    ·obtain rfl := oi h; exact rl [4] [] [.t, .row (c66 x12), .row (c66 x14), .f, .t] (pc h11<|pc (ob66 h13)<|pc (ob66 h15)<|pc h16<|pc h17<|pn)
    ·obtain ⟨h18, h⟩|⟨h18, h⟩ := ite_out h
     ·obtain rfl := oi h; exact rl [4] [] [.t, .row (c66 x12), .row (c66 x14), .f, .f, .t] (pc h11<|pc (ob66 h13)<|pc (ob66 h15)<|pc h16<|pc h17<|pc h18<|pn)
     ·obtain ⟨h19, h⟩|⟨h19, h⟩ := ite_out h
      ·obtain rfl := oi h; exact rl [4] [] [.t, .row (c66 x12), .row (c66 x14), .f, .f, .f, .t] (pc h11<|pc (ob66 h13)<|pc (ob66 h15)<|pc h16<|pc h17<|pc h18<|pc h19<|pn)
      ·obtain ⟨h20, h⟩|⟨h20, h⟩ := ite_out h
       ·obtain rfl := oi h; exact rl [4] [] [.t, .row (c66 x12), .row (c66 x14), .f, .f, .f, .f, .t] (pc h11<|pc (ob66 h13)<|pc (ob66 h15)<|pc h16<|pc h17<|pc h18<|pc h19<|pc h20<|pn)
       ·obtain ⟨h21, h⟩|⟨h21, h⟩ := ite_out h
        ·obtain rfl := oi h; exact rl [4] [] [.t, .row (c66 x12), .row (c66 x14), .f, .f, .f, .f, .f, .t] (pc h11<|pc (ob66 h13)<|pc (ob66 h15)<|pc h16<|pc h17<|pc h18<|pc h19<|pc h20<|pc h21<|pn)
        ·obtain ⟨r22, h23, h⟩ := bo h
         obtain ⟨h24, h⟩|⟨h24, h⟩ := ite_out h
         ·obtain rfl := oi h; exact rl [4] [] [.t, .row (c66 x12), .row (c66 x14), .f, .f, .f, .f, .f, .f, .b r22, .t] (pc h11<|pc (ob66 h13)<|pc (ob66 h15)<|pc h16<|pc h17<|pc h18<|pc h19<|pc h20<|pc h21<|pc (k_palingref03_Ints h23)<|pc h24<|pn)
         ·obtain rfl := oi h; exact rl [2, 3, 4, 5] [0, 1] [.t, .row (c66 x12), .row (c66 x14), .f, .f, .f, .f, .f, .f, .b r22, .f] (pc h11<|pc (ob66 h13)<|pc (ob66 h15)<|pc h16<|pc h17<|pc h18<|pc h19<|pc h20<|pc h21<|pc (k_palingref03_Ints h23)<|pc h24<|pn)
  ·obtain rfl := oi h; exact rl [2, 3, 4] [0, 1] [.f] (pc h11<|pn)
 ·rcases r with _ | _ <;> exact Ex.noConfusion

theorem k_palingref15_Same_L2 {a1 : Api_Net} {a2 : Api_Net} : LoopOK Tryz.prog UU 0 276 (subC (codeOf Tryz.f11) [1, 1, 1, 0, 1, 0, 0]) (ρ := Unit ⊕ Unit) (palingref15_Same_L2 a1 a2)
  (fun v27 : Int => ([(2, .o 0), (3, .o 1), (4, .y false), (8, .j v27)] : Fr DD)) (fun v27 : Int => ([.box 31 (c31 a1) false, .box 31 (c31 a2) false] : Heap DD)) (fun r => match r with | Sum.inl _ => .ret | Sum.inr _ => .exit 2) (fun r => match r with | Sum.inl _ => [(4, .y false)] | Sum.inr _ => [(2, .o 0), (3, .o 1), (4, .y false)]) (fun r => match r with | Sum.inl _ => [] | Sum.inr _ => [.box 31 (c31 a1) false, .box 31 (c31 a2) false]) := by
 refine loop_sound3 (fun s q h => ?_) (fun r => ?_)
 ·replace h : palingref15_Same_L2 a1 a2 s = some q := h; revert h; revert s; intro v27 h
  unfold palingref15_Same_L2 at h
  obtain ⟨h28, h⟩|⟨h28, h⟩ := ite_out h
  ·obtain ⟨x29, h30, h⟩ := bo h
   obtain ⟨x31, h32, h⟩ := bo h
   obtain ⟨h33, h⟩|⟨h33, h⟩ := ite_out h
   ·obtain rfl := oi h; exact rl [4] [] [.t, .row (c50 x29), .row (c50 x31), .t] (pc h28<|pc (ob50 h30)<|pc (ob50 h32)<|pc h33<|pn)
   ·obtain ⟨h34, h⟩|⟨h34, h⟩ := ite_out h
    ·obtain rfl := oi h; exact rl [4] [] [.t, .row (c50 x29), .row (c50 x31), .f, .t] (pc h28<|pc (ob50 h30)<|pc (ob50 h32)<|pc h33<|pc h34<|pn)
    ·obtain ⟨h35, h⟩|⟨h35, h⟩ := ite_out h
     ·obtain rfl := oi h; exact rl [4] [] [.t, .row (c50 x29), .row (c50 x31), .f, .f, .t] (pc h28<|pc (ob50 h30)<|pc (ob50 h32)<|pc h33<|pc h34<|pc h35<|pn)
     ·obtain ⟨h36, h⟩|⟨h36, h⟩ := ite_out h
      ·obtain rfl := oi h; exact rl [4] [] [.t, .row (c50 x29), .row (c50 x31), .f, .f, .f, .t] (pc h28<|pc (ob50 h30)<|pc (ob50 h32)<|pc h33<|pc h34<|pc h35<|pc h36<|pn)
      ·obtain ⟨h37, h⟩|⟨h37, h⟩ := ite_out h
       ·obtain rfl := oi h; exact rl [4] [] [.t, .row (c50 x29), .row (c50 x31), .f, .f, .f, .f, .t] (pc h28<|pc (ob50 h30)<|pc (ob50 h32)<|pc h33<|pc h34<|pc h35<|pc h36<|pc h37<|pn)
       ·obtain ⟨r38, h39, h⟩ := bo h
        obtain ⟨h40, h⟩|⟨h40, h⟩ := ite_out h
        ·obtain rfl := oi h; exact rl [4] [] [.t, .row (c50 x29), .row (c50 x31), .f, .f, .f, .f, .f, .b r38, .t] (pc h28<|pc (ob50 h30)<|pc (ob50 h32)<|pc h33<|pc h34<|pc h35<|pc h36<|pc h37<|pc (k_palingref03_Ints h39)<|pc h40<|pn)
        ·obtain rfl := oi h; exact rl [2, 3, 4, 8] [0, 1] [.t, .row (c50 x29), .row (c50 x31), .f, .f, .f, .f, .f, .b r38, .f] (pc h28<|pc (ob50 h30)<|pc (ob50 h32)<|pc h33<|pc h34<|pc h35<|pc h36<|pc h37<|pc (k_palingref03_Ints h39)<|pc h40<|pn)
  ·obtain rfl := oi h; exact rl [2, 3, 4] [0, 1] [.f] (pc h28<|pn)
 ·rcases r with _ | _ <;> exact Ex.noConfusion

theorem k_palingref15_Same_L3 {a1 : Api_Net} {a2 : Api_Net} : LoopOK Tryz.prog UU 0 276 (subC (codeOf Tryz.f11) [1, 1, 1, 1, 0, 1, 0, 0]) (ρ := Unit ⊕ Unit) (palingref15_Same_L3 a1 a2)
  (fun v43 : Int => ([(2, .o 0), (3, .o 1), (4, .y false), (11, .j v43)] : Fr DD)) (fun v43 : Int => ([.box 31 (c31 a1) false, .box 31 (c31 a2) false] : Heap DD)) (fun r => match r with | Sum.inl _ => .ret | Sum.inr _ => .exit 4) (fun r => match r with | Sum.inl _ => [(4, .y false)] | Sum.inr _ => [(2, .o 0), (3, .o 1), (4, .y false)]) (fun r => match r with | Sum.inl _ => [] | Sum.inr _ => [.box 31 (c31 a1) false, .box 31 (c31 a2) false]) := by
 refine loop_sound3 (fun s q h => ?_) (fun r => ?_)
 ·replace h : palingref15_Same_L3 a1 a2 s = some q := h; revert h; revert s; intro v43 h
  unfold palingref15_Same_L3 at h
  obtain ⟨h44, h⟩|⟨h44, h⟩ := ite_out h
  ·obtain ⟨x45, h46, h⟩ := bo h
   obtain ⟨x47, h48, h⟩ := bo h
   obtain ⟨h49, h⟩|⟨h49, h⟩ := ite_out h
   ·obtain rfl := oi h; exact rl [4] [] [.t, .row (c72 x45), .row (c72 x47), .t] (pc h44<|pc (ob72 h46)<|pc (ob72 h48)<|pc h49<|pn)
   ·obtain ⟨h50, h⟩|⟨h50, h⟩ := ite_out h
    ·obtain rfl := oi h; exact rl [4] [] [.t, .row (c72 x45), .row (c72 x47), .f, .t] (pc h44<|pc (ob72 h46)<|pc (ob72 h48)<|pc h49<|pc h50<|pn)
    ·obtain ⟨h51, h⟩|⟨h51, h⟩ := ite_out h
     ·obtain rfl := oi h; exact rl [4] [] [.t, .row (c72 x45), .row (c72 x47), .f, .f, .t] (pc h44<|pc (ob72 h46)<|pc (ob72 h48)<|pc h49<|pc h50<|pc h51<|pn)
     ·obtain ⟨r52, h53, h⟩ := bo h
      obtain ⟨h54, h⟩|⟨h54, h⟩ := ite_out h
      ·obtain rfl := oi h; exact rl [4] [] [.t, .row (c72 x45), .row (c72 x47), .f, .f, .f, .b r52, .t] (pc h44<|pc (ob72 h46)<|pc (ob72 h48)<|pc h49<|pc h50<|pc h51<|pc (k_palingref03_Addrs h53)<|pc h54<|pn)
      ·obtain rfl := oi h; exact rl [2, 3, 4, 11] [0, 1] [.t, .row (c72 x45), .row (c72 x47), .f, .f, .f, .b r52, .f] (pc h44<|pc (ob72 h46)<|pc (ob72 h48)<|pc h49<|pc h50<|pc h51<|pc (k_palingref03_Addrs h53)<|pc h54<|pn)
  ·obtain rfl := oi h; exact rl [2, 3, 4] [0, 1] [.f] (pc h44<|pn)
 ·rcases r with _ | _ <;> exact Ex.noConfusion

theorem k_palingref15_Same_L4 {a1 : Api_Net} {a2 : Api_Net} : LoopOK Tryz.prog UU 0 276 (subC (codeOf Tryz.f11) [1, 1, 1, 1, 1, 0, 1, 0, 0]) (ρ := Unit ⊕ Unit) (palingref15_Same_L4 a1 a2)
  (fun v57 : Int => ([(2, .o 0), (3, .o 1), (4, .y false), (14, .j v57)] : Fr DD)) (fun v57 : Int => ([.box 31 (c31 a1) false, .box 31 (c31 a2) false] : Heap DD)) (fun r => match r with | Sum.inl _ => .ret | Sum.inr _ => .exit 6) (fun r => match r with | Sum.inl _ => [(4, .y false)] | Sum.inr _ => [(4, .y false)]) (fun r => match r with | Sum.inl _ => [] | Sum.inr _ => []) := by
 refine loop_sound3 (fun s q h => ?_) (fun r => ?_)
 ·replace h : palingref15_Same_L4 a1 a2 s = some q := h; revert h; revert s; intro v57 h
  unfold palingref15_Same_L4 at h
  obtain ⟨h58, h⟩|⟨h58, h⟩ := ite_out h
  ·obtain ⟨x59, h60, h⟩ := bo h
   obtain ⟨x61, h62, h⟩ := bo h
   obtain ⟨h63, h⟩|⟨h63, h⟩ := ite_out h
   ·obtain rfl := oi h; exact rl [4] [] [.t, .row (c75 x59), .row (c75 x61), .t] (pc h58<|pc (ob75 h60)<|pc (ob75 h62)<|pc h63<|pn)
   ·obtain ⟨h64, h⟩|⟨h64, h⟩ := ite_out h
    ·obtain rfl := oi h; exact rl [4] [] [.t, .row (c75 x59), .row (c75 x61), .f, .t] (pc h58<|pc (ob75 h60)<|pc (ob75 h62)<|pc h63<|pc h64<|pn)
    ·obtain ⟨h65, h⟩|⟨h65, h⟩ := ite_out h
     ·obtain rfl := oi h; exact rl [4] [] [.t, .row (c75 x59), .row (c75 x61), .f, .f, .t] (pc h58<|pc (ob75 h60)<|pc (ob75 h62)<|pc h63<|pc h64<|pc h65<|pn)
     ·obtain ⟨r66, h67, h⟩ := bo h
      obtain ⟨h68, h⟩|⟨h68, h⟩ := ite_out h
      ·obtain rfl := oi h; exact rl [4] [] [.t, .row (c75 x59), .row (c75 x61), .f, .f, .f, .b r66, .t] (pc h58<|pc (ob75 h60)<|pc (ob75 h62)<|pc h63<|pc h64<|pc h65<|pc (k_palingref03_Ints h67)<|pc h68<|pn)
      ·obtain ⟨r69, h70, h⟩ := bo h
       obtain ⟨h71, h⟩|⟨h71, h⟩ := ite_out h
       ·obtain rfl := oi h; exact rl [4] [] [.t, .row (c75 x59), .row (c75 x61), .f, .f, .f, .b r66, .f, .b r69, .t] (pc h58<|pc (ob75 h60)<|pc (ob75 h62)<|pc h63<|pc h64<|pc h65<|pc (k_palingref03_Ints h67)<|pc h68<|pc (k_palingref03_Ints h70)<|pc h71<|pn)
       ·obtain rfl := oi h; exact rl [2, 3, 4, 14] [0, 1] [.t, .row (c75 x59), .row (c75 x61), .f, .f, .f, .b r66, .f, .b r69, .f] (pc h58<|pc (ob75 h60)<|pc (ob75 h62)<|pc h63<|pc h64<|pc h65<|pc (k_palingref03_Ints h67)<|pc h68<|pc (k_palingref03_Ints h70)<|pc h71<|pn)
  ·obtain rfl := oi h; exact rl [4] [] [.f] (pc h58<|pn)
 ·rcases r with _ | _ <;> exact Ex.noConfusion

theorem k_palingref15_Same {a1 : Api_Net} {a2 : Api_Net} {r : Bool} (h : palingref15_Same a1 a2 = some r) :
  CallsOK Tryz.prog UU 11 [.agg (c31 a1), .agg (c31 a2)] [] (.y r) [] := by
 unfold palingref15_Same at h
 obtain ⟨r3, h4, h⟩ := bo h
 obtain ⟨h5, h⟩|⟨h5, h⟩ := ite_out h
 ·obtain rfl := oi h; exact rf Tryz.func11 none [.b r3, .t] (pc (k_palingref15_tops h4)<|pc h5<|pn)
 ·obtain ⟨h6, h⟩|⟨h6, h⟩ := ite_out h
  ·obtain rfl := oi h; exact rf Tryz.func11 none [.b r3, .f, .t] (pc (k_palingref15_tops h4)<|pc h5<|pc h6<|pn)
  ·obtain ⟨h7, h⟩|⟨h7, h⟩ := ite_out h
   ·obtain rfl := oi h; exact rf Tryz.func11 none [.b r3, .f, .f, .t] (pc (k_palingref15_tops h4)<|pc h5<|pc h6<|pc h7<|pn)
   ·obtain ⟨h8, h⟩|⟨h8, h⟩ := ite_out h
    ·obtain rfl := oi h; exact rf Tryz.func11 none [.b r3, .f, .f, .f, .t] (pc (k_palingref15_tops h4)<|pc h5<|pc h6<|pc h7<|pc h8<|pn)
    ·obtain ⟨h9, h⟩|⟨h9, h⟩ := ite_out h
     ·obtain rfl := oi h; exact rf Tryz.func11 none [.b r3, .f, .f, .f, .f, .t] (pc (k_palingref15_tops h4)<|pc h5<|pc h6<|pc h7<|pc h8<|pc h9<|pn)
     ·obtain ⟨r26, h25, h⟩ := bo h
      rcases r26 with _ | _
      ·obtain rfl := oi h; exact rf Tryz.func11 none [.b r3, .f, .f, .f, .f, .f, .sum [2, 3, 4, 5] [0, 1] .ret [(4, .y false)] []] (pc (k_palingref15_tops h4)<|pc h5<|pc h6<|pc h7<|pc h8<|pc h9<|pc (k_palingref15_Same_L1 _ _ h25)<|pn)
      ·obtain ⟨r42, h41, h⟩ := bo h
       rcases r42 with _ | _
       ·obtain rfl := oi h; exact rf Tryz.func11 none [.b r3, .f, .f, .f, .f, .f, .sum [2, 3, 4, 5] [0, 1] (.exit 0) [(2, .o 0), (3, .o 1), (4, .y false)] [.box 31 (c31 a1) false, .box 31 (c31 a2) false], .sum [2, 3, 4, 8] [0, 1] .ret [(4, .y false)] []] (pc (k_palingref15_tops h4)<|pc h5<|pc h6<|pc h7<|pc h8<|pc h9<|pc (k_palingref15_Same_L1 _ _ h25)<|pc (k_palingref15_Same_L2 _ _ h41)<|pn)
       ·obtain ⟨r56, h55, h⟩ := bo h
        rcases r56 with _ | _
        ·obtain rfl := oi h; exact rf Tryz.func11 none [.b r3, .f, .f, .f, .f, .f, .sum [2, 3, 4, 5] [0, 1] (.exit 0) [(2, .o 0), (3, .o 1), (4, .y false)] [.box 31 (c31 a1) false, .box 31 (c31 a2) false], .sum [2, 3, 4, 8] [0, 1] (.exit 2) [(2, .o 0), (3, .o 1), (4, .y false)] [.box 31 (c31 a1) false, .box 31 (c31 a2) false], .sum [2, 3, 4, 11] [0, 1] .ret [(4, .y false)] []] (pc (k_palingref15_tops h4)<|pc h5<|pc h6<|pc h7<|pc h8<|pc h9<|pc (k_palingref15_Same_L1 _ _ h25)<|pc (k_palingref15_Same_L2 _ _ h41)<|pc (k_palingref15_Same_L3 _ _ h55)<|pn)
        ·obtain ⟨r73, h72, h⟩ := bo h
         rcases r73 with _ | _
         ·obtain rfl := oi h; exact rf Tryz.func11 none [.b r3, .f, .f, .f, .f, .f, .sum [2, 3, 4, 5] [0, 1] (.exit 0) [(2, .o 0), (3, .o 1), (4, .y false)] [.box 31 (c31 a1) false, .box 31 (c31 a2) false], .sum [2, 3, 4, 8] [0, 1] (.exit 2) [(2, .o 0), (3, .o 1), (4, .y false)] [.box 31 (c31 a1) false, .box 31 (c31 a2) false], .sum [2, 3, 4, 11] [0, 1] (.exit 4) [(2, .o 0), (3, .o 1), (4, .y false)] [.box 31 (c31 a1) false, .box 31 (c31 a2) false], .sum [2, 3, 4, 14] [0, 1] .ret [(4, .y false)] []] (pc (k_palingref15_tops h4)<|pc h5<|pc h6<|pc h7<|pc h8<|pc h9<|pc (k_palingref15_Same_L1 _ _ h25)<|pc (k_palingref15_Same_L2 _ _ h41)<|pc (k_palingref15_Same_L3 _ _ h55)<|pc (k_palingref15_Same_L4 _ _ h72)<|pn)
         ·obtain rfl := oi h; exact rf Tryz.func11 none [.b r3, .f, .f, .f, .f, .f, .sum [2, 3, 4, 5] [0, 1] (.exit 0) [(2, .o 0), (3, .o 1), (4, .y false)] [.box 31 (c31 a1) false, .box 31 (c31 a2) false], .sum [2, 3, 4, 8] [0, 1] (.exit 2) [(2, .o 0), (3, .o 1), (4, .y false)] [.box 31 (c31 a1) false, .box 31 (c31 a2) false], .sum [2, 3, 4, 11] [0, 1] (.exit 4) [(2, .o 0), (3, .o 1), (4, .y false)] [.box 31 (c31 a1) false, .box 31 (c31 a2) false], .sum [2, 3, 4, 14] [0, 1] (.exit 6) [(4, .y false)] []] (pc (k_palingref15_tops h4)<|pc h5<|pc h6<|pc h7<|pc h8<|pc h9<|pc (k_palingref15_Same_L1 _ _ h25)<|pc (k_palingref15_Same_L2 _ _ h41)<|pc (k_palingref15_Same_L3 _ _ h55)<|pc (k_palingref15_Same_L4 _ _ h72)<|pn)

theorem k_names_Domain_1 {a1 : Api_Domain} {a2 : Int} {a3 : Int} {r : Bool} (h : names_Domain_1 a1 a2 a3 = some r) :
  CallsOK Tryz.prog UU 72 [.agg (c50 a1), .rp (c3 a2) 0, .rp (c3 a3) 0] [] (.y r) [] := by
 unfold names_Domain_1 at h
 obtain ⟨h4, h⟩|⟨h4, h⟩ := ite_out h
 ·obtain rfl := oi h; exact rf Tryz.func72 none [.t] (pc h4<|pn)
 ·obtain rfl := oi h; exact rf Tryz.func72 none [.f] (pc h4<|pn)

theorem k_slices_IndexFunc_Domain_Domain_1_L1 {a1 : List Api_Domain} {a2 : Int} {a3 : Int} : LoopOK Tryz.prog UU 0 19 (subC (codeOf Tryz.f73) [1, 0, 1, 0, 0]) (ρ := Int ⊕ Unit) (slices_IndexFunc_Domain_Domain_1_L1 a1 a2 a3)
  (fun v4 : Int => ([(0, .sl 50 a1), (1, .fn (.func 72) [] [.rp (c3 a2) 0, .rp (c3 a3) 0]), (4, .z), (7, .j (a1.length : Int)), (8, .j v4)] : Fr DD)) (fun v4 : Int => ([] : Heap DD)) (fun r => match r with | Sum.inl v12 => .ret | Sum.inr _ => .exit 0) (fun r => match r with | Sum.inl v12 => [(4, .j v12)] | Sum.inr _ => [(4, .z)]) (fun r => match r with | Sum.inl v12 => [] | Sum.inr _ => []) := by
 refine loop_sound3 (fun s q h => ?_) (fun r => ?_)
 ·replace h : slices_IndexFunc_Domain_Domain_1_L1 a1 a2 a3 s = some q := h; revert h; revert s; intro v4 h
  unfold slices_IndexFunc_Domain_Domain_1_L1 at h
  obtain ⟨h5, h⟩|⟨h5, h⟩ := ite_out h
  ·obtain ⟨x6, h7, h⟩ := bo h
   obtain ⟨r8, h9, h⟩ := bo h
   obtain ⟨h10, h⟩|⟨h10, h⟩ := ite_out h
   ·obtain rfl := oi h; exact rl [4] [] [.t, .row (c50 x6), .b r8, .t] (pc h5<|pc (ob50 h7)<|pc (k_names_Domain_1 h9)<|pc h10<|pn)
   ·obtain rfl := oi h; exact rl [0, 1, 4, 7, 8] [] [.t, .row (c50 x6), .b r8, .f] (pc h5<|pc (ob50 h7)<|pc (k_names_Domain_1 h9)<|pc h10<|pn)
  ·obtain rfl := oi h; exact rl [4] [] [.f] (pc h5<|pn)
 ·rcases r with _ | _ <;> exact Ex.noConfusion

theorem k_slices_IndexFunc_Domain_Domain_1 {a1 : List Api_Domain} {a2 : Int} {a3 : Int} {r : Int} (h : slices_IndexFunc_Domain_Domain_1 a1 a2 a3 = some r) :
  CallsOK Tryz.prog UU 73 [.sl 50 a1, .fn (.func 72) [] [.rp (c3 a2) 0, .rp (c3 a3) 0]] [] (.j r) [] := by
 unfold slices_IndexFunc_Domain_Domain_1 at h
 obtain ⟨r14, h13, h⟩ := bo h
 rcases r14 with v12 | _
 ·obtain rfl := oi h; exact rf Tryz.func73 none [.sum [0, 1, 4, 7, 8] [] .ret [(4, .j v12)] []] (pc (k_slices_IndexFunc_Domain_Domain_1_L1 _ _ h13)<|pn)
 ·obtain rfl := oi h; exact rf Tryz.func73 none [.sum [0, 1, 4, 7, 8] [] (.exit 0) [(4, .z)] []] (pc (k_slices_IndexFunc_Domain_Domain_1_L1 _ _ h13)<|pn)

theorem k_names_find_Domain_Domain_1 {a1 : Api_Net} {a2 : List Api_Domain} {a3 : Int} {a4 : Int} {r : Int} (h : names_find_Domain_Domain_1 a1 a2 a3 a4 = some r) :
  CallsOK Tryz.prog UU 71 [.agg (c31 a1), .sl 50 a2, .fn (.func 72) [] [.rp (c3 a3) 0, .rp (c3 a4) 0]] [] (.j r) [] := by
 unfold names_find_Domain_Domain_1 at h
 obtain ⟨r5, h6, h⟩ := bo h
 obtain ⟨h7, h⟩|⟨h7, h⟩ := ite_out h
 ·obtain rfl := oi h; exact rf Tryz.func71 none [.b r5, .t] (pc (k_names_Right h6)<|pc h7<|pn)
 ·obtain ⟨r8, h9, h⟩ := bo h
  obtain rfl := oi h; exact rf Tryz.func71 none [.b r5, .f, .callv (.j r8)] (pc (k_names_Right h6)<|pc h7<|pc (k_slices_IndexFunc_Domain_Domain_1 h9)<|pn)

theorem k_names_Domain {a1 : Api_Net} {a2 : Int} {a3 : Int} {r : Int} (h : names_Domain a1 a2 a3 = some r) :
  CallsOK Tryz.prog UU 42 [.agg (c31 a1), .j a2, .j a3] [] (.j r) [] := by
 unfold names_Domain at h
 obtain ⟨r4, h5, h⟩ := bo h
 obtain rfl := oi h; exact rf Tryz.func42 none [.callv (.j r4)] (pc (k_names_find_Domain_Domain_1 h5)<|pn)

def b0_k_overlay_Vni : AObj DD := .box 31 [.os 2 0, .os 3 0, .os 4 0, .os 5 0, .os 6 0, .os 7 0, .os 8 0, .os 9 0] false
theorem k_overlay_Vni {a1 : Api_Net} {a2 : Api_Line} {r : ((List Api_Device) × (List Api_Port) × (List Api_Link) × (List Api_Domain) × (List Api_Static) × (List Api_Flood) × (List Api_Vrf) × (List Api_Irb) × Nat × Nat × Nat × Nat × Int)} (h : overlay_Vni a1 a2 = some r) :
  CallsOK Tryz.prog UU 15 [.agg (c31 a1), .agg (c37 a2)] [] ((fun r => match r with | (l38, l39, l40, l41, l42, l43, l44, l45, n46, n47, n48, n49, v50) => .tup [.agg [.os 0 l38.length, .os 1 n46, .os 2 l40.length, .os 3 n47, .os 4 l42.length, .os 5 n48, .os 6 n49, .os 7 l45.length], .j v50]) r) ((fun r => match r with | (l38, l39, l40, l41, l42, l43, l44, l45, n46, n47, n48, n49, v50) => [.w 56 l38, .arr 66 l39 n46 false, .w 93 l40, .arr 50 l41 n47 false, .w 95 l42, .arr 72 l43 n48 false, .arr 75 l44 n49 false, .w 99 l45]) r) := by
 unfold overlay_Vni at h
 obtain ⟨r3, h4, h⟩ := bo h
 obtain ⟨h5, h⟩|⟨h5, h⟩ := ite_out h
 ·obtain rfl := oi h; exact rf Tryz.func15 (some [11, 12, 13, 14, 15, 16, 17, 18]) [.callv (.tup [.j r3.1, .j r3.2]), .t] (pc (k_overlay_begin h4)<|pc h5<|pn)
 ·obtain ⟨r6, h7, h⟩ := bo h
  obtain ⟨x8, h9, h⟩ := bo h
  obtain ⟨h10, h⟩|⟨h10, h⟩ := ite_out h
  ·obtain rfl := oi h; exact rf Tryz.func15 (some [11, 12, 13, 14, 15, 16, 17, 18]) [.callv (.tup [.j r3.1, .j r3.2]), .f, .callv (.j r6), .row (c56 x8), .t] (pc (k_overlay_begin h4)<|pc h5<|pc (k_names_Domain h7)<|pc (ob56 h9)<|pc h10<|pn)
  ·obtain ⟨h11, h⟩|⟨h11, h⟩ := ite_out h
   ·obtain rfl := oi h; exact rf Tryz.func15 (some [11, 12, 13, 14, 15, 16, 17, 18]) [.callv (.tup [.j r3.1, .j r3.2]), .f, .callv (.j r6), .row (c56 x8), .f, .t] (pc (k_overlay_begin h4)<|pc h5<|pc (k_names_Domain h7)<|pc (ob56 h9)<|pc h10<|pc h11<|pn)
   ·obtain ⟨x12, h13, h⟩ := bo h
    obtain ⟨h14, h⟩|⟨h14, h⟩ := ite_out h
    ·obtain rfl := oi h; exact rf Tryz.func15 (some [11, 12, 13, 14, 15, 16, 17, 18]) [.callv (.tup [.j r3.1, .j r3.2]), .f, .callv (.j r6), .row (c56 x8), .f, .f, .row (c50 x12), .t] (pc (k_overlay_begin h4)<|pc h5<|pc (k_names_Domain h7)<|pc (ob56 h9)<|pc h10<|pc h11<|pc (ob50 h13)<|pc h14<|pn)
    ·obtain ⟨r15, h16, h⟩ := bo h
     obtain ⟨h17, h⟩|⟨h17, h⟩ := ite_out h
     ·obtain rfl := oi h; exact rf Tryz.func15 (some [11, 12, 13, 14, 15, 16, 17, 18]) [.callv (.tup [.j r3.1, .j r3.2]), .f, .callv (.j r6), .row (c56 x8), .f, .f, .row (c50 x12), .f, .callv (.j r15), .t] (pc (k_overlay_begin h4)<|pc h5<|pc (k_names_Domain h7)<|pc (ob56 h9)<|pc h10<|pc h11<|pc (ob50 h13)<|pc h14<|pc (k_overlay_find h16)<|pc h17<|pn)
     ·obtain ⟨r18, h19, h⟩ := bo h
      obtain ⟨l20, l21, l22, l23, l24, l25, l26, l27, n28, n29, n30, n31⟩ := r18
      obtain ⟨h32, h⟩|⟨h32, h⟩ := ite_out h
      ·obtain ⟨x33, h34, h⟩ := bo h
       obtain ⟨h35, h⟩|⟨h35, h⟩ := ite_out h
       ·obtain ⟨x36, h37, h⟩ := bo h
        obtain rfl := oi h; exact rf Tryz.func15 (some [11, 12, 13, 14, 15, 16, 17, 18]) [.callv (.tup [.j r3.1, .j r3.2]), .f, .callv (.j r6), .row (c56 x8), .f, .f, .row (c50 x12), .f, .callv (.j r15), .f, .callm [] (.agg [.os 0 l20.length, .os 1 n28, .os 2 l22.length, .os 3 n29, .os 4 l24.length, .os 5 n30, .os 6 n31, .os 7 l27.length]) [.w 56 l20, .arr 66 l21 n28 false, .w 93 l22, .arr 50 l23 n29 false, .w 95 l24, .arr 72 l25 n30 false, .arr 75 l26 n31 false, .w 99 l27], .sum [12] [] .nor [] [.box 31 (c31 a1) false, .box 37 (c37 a2) false, .n 56, .n 66, .n 93, .n 50, .n 95, .n 72, .n 75, .n 99, b0_k_overlay_Vni, .w 56 l20, .arr 66 l21 n28 false, .w 93 l22, .arr 50 (List.set l23 r6.toNat (⟨x33.dev, x33.vlan, a2.num, x33.irb, x33.row, x33.peers⟩ : Api_Domain)) n29 false, .w 95 l24, .arr 72 l25 n30 false, .arr 75 l26 n31 false, .w 99 l27, .n 56, .n 66, .n 93, .n 50, .n 95, .n 72, .n 75, .n 99, .box 31 [.os 11 l20.length, .os 12 n28, .os 13 l22.length, .os 14 n29, .os 15 l24.length, .os 16 n30, .os 17 n31, .os 18 l27.length] false], .row (c50 x33), .obj [] (.arr 50 (List.set l23 r6.toNat (⟨x33.dev, x33.vlan, a2.num, x33.irb, x33.row, x33.peers⟩ : Api_Domain)) n29 false), .row (c50 x36), .obj [] (.arr 50 (List.set (List.set l23 r6.toNat (⟨x33.dev, x33.vlan, a2.num, x33.irb, x33.row, x33.peers⟩ : Api_Domain)) r6.toNat (⟨x36.dev, x36.vlan, x36.vni, x36.irb, a2.row, x36.peers⟩ : Api_Domain)) n29 false)] (pc (k_overlay_begin h4)<|pc h5<|pc (k_names_Domain h7)<|pc (ob56 h9)<|pc h10<|pc h11<|pc (ob50 h13)<|pc h14<|pc (k_overlay_find h16)<|pc h17<|pc (k_names_Copy h19)<|pc (rr (.op 27 1 0 3))<|pc (rr (.os 14 n29))<|pc (rr (.j r6))<|pc (rr (.o 1))<|pc (rr (.j a2.row))<|pc (an n29 (lin_ob h32))<|pc (rn n29)<|pc (rh [.box 31 (c31 a1) false, .box 37 (c37 a2) false, .n 56, .n 66, .n 93, .n 50, .n 95, .n 72, .n 75, .n 99, b0_k_overlay_Vni, .w 56 l20, .arr 66 l21 n28 false, .w 93 l22, .arr 50 (List.set l23 r6.toNat (⟨x33.dev, x33.vlan, a2.num, x33.irb, x33.row, x33.peers⟩ : Api_Domain)) n29 false, .w 95 l24, .arr 72 l25 n30 false, .arr 75 l26 n31 false, .w 99 l27, .n 56, .n 66, .n 93, .n 50, .n 95, .n 72, .n 75, .n 99, .box 31 [.os 11 l20.length, .os 12 n28, .os 13 l22.length, .os 14 n29, .os 15 l24.length, .os 16 n30, .os 17 n31, .os 18 l27.length] false])<|pc (st_ob (e := 50) (n := n29) (l := l23) (i := r6.toNat) (⟨x33.dev, x33.vlan, a2.num, x33.irb, x33.row, x33.peers⟩ : Api_Domain) [.j x33.dev, .j x33.vlan, .j a2.num, .j x33.irb, .j x33.row, .sl 3 x33.peers] (obn50 h34) rfl)<|pc (an n29 (lin_ob h35))<|pc (rn n29)<|pc (st_ob (e := 50) (n := n29) (l := List.set l23 r6.toNat (⟨x33.dev, x33.vlan, a2.num, x33.irb, x33.row, x33.peers⟩ : Api_Domain)) (i := r6.toNat) (⟨x36.dev, x36.vlan, x36.vni, x36.irb, a2.row, x36.peers⟩ : Api_Domain) [.j x36.dev, .j x36.vlan, .j x36.vni, .j x36.irb, .j a2.row, .sl 3 x36.peers] (obn50 h37) rfl)<|pn)
       ·cases h
      ·cases h

theorem k_palingref19_Find_L1 {a1 : Api_Net} {a2 : Int} {a3 : Int} : LoopOK Tryz.prog UU 0 38 (subC (codeOf Tryz.f44) [1, 0, 1, 0, 0]) (ρ := Int ⊕ Unit) (palingref19_Find_L1 a1 a2 a3)
  (fun v4 : Int => ([(1, .j a2), (2, .j a3), (3, .o 0), (6, .z), (7, .j v4)] : Fr DD)) (fun v4 : Int => ([.box 31 (c31 a1) false] : Heap DD)) (fun r => match r with | Sum.inl v14 => .ret | Sum.inr _ => .exit 0) (fun r => match r with | Sum.inl v14 => [(6, .j v14)] | Sum.inr _ => [(6, .z)]) (fun r => match r with | Sum.inl v14 => [] | Sum.inr _ => []) := by
 refine loop_sound3 (fun s q h => ?_) (fun r => ?_)
 ·replace h : palingref19_Find_L1 a1 a2 a3 s = some q := h; revert h; revert s; intro v4 h
  unfold palingref19_Find_L1 at h
  obtain ⟨h5, h⟩|⟨h5, h⟩ := ite_out h
  ·obtain ⟨x6, h7, h⟩ := bo h
   obtain ⟨h8, h⟩|⟨h8, h⟩ := ite_out h
   ·obtain ⟨x9, h10, h⟩ := bo h
    obtain ⟨h11, h⟩|⟨h11, h⟩ := ite_out h
    ·obtain ⟨h12, h⟩|⟨h12, h⟩ := ite_out h
     ·obtain rfl := oi h; exact rl [6] [] [.t, .row (c50 x6), .t, .row (c50 x9), .t, .t] (pc h5<|pc (ob50 h7)<|pc h8<|pc (ob50 h10)<|pc h11<|pc h12<|pn)
     ·obtain rfl := oi h; exact rl [1, 2, 3, 6, 7] [0] [.t, .row (c50 x6), .t, .row (c50 x9), .t, .f] (pc h5<|pc (ob50 h7)<|pc h8<|pc (ob50 h10)<|pc h11<|pc h12<|pn)
    ·obtain rfl := oi h; exact rl [1, 2, 3, 6, 7] [0] [.t, .row (c50 x6), .t, .row (c50 x9), .f] (pc h5<|pc (ob50 h7)<|pc h8<|pc (ob50 h10)<|pc h11<|pn)
   ·obtain rfl := oi h; exact rl [1, 2, 3, 6, 7] [0] [.t, .row (c50 x6), .f] (pc h5<|pc (ob50 h7)<|pc h8<|pn)
  ·obtain rfl := oi h; exact rl [6] [] [.f] (pc h5<|pn)
 ·rcases r with _ | _ <;> exact Ex.noConfusion

theorem k_palingref19_Find {a1 : Api_Net} {a2 : Int} {a3 : Int} {r : Int} (h : palingref19_Find a1 a2 a3 = some r) :
  CallsOK Tryz.prog UU 44 [.agg (c31 a1), .j a2, .j a3] [] (.j r) [] := by
 unfold palingref19_Find at h
 obtain ⟨r16, h15, h⟩ := bo h
 rcases r16 with v14 | _
 ·obtain rfl := oi h; exact rf Tryz.func44 none [.sum [1, 2, 3, 6, 7] [0] .ret [(6, .j v14)] []] (pc (k_palingref19_Find_L1 _ _ h15)<|pn)
 ·obtain rfl := oi h; exact rf Tryz.func44 none [.sum [1, 2, 3, 6, 7] [0] (.exit 0) [(6, .z)] []] (pc (k_palingref19_Find_L1 _ _ h15)<|pn)

theorem k_palingref19_Vni_J1 {a1 : Api_Net} {a2 : Api_Line} {r3 : Int × Int} {r : Int} (h : palingref19_Vni_J1 a1 a2 r3 = some r) :
  ExecOK Tryz.prog UU 0 78 (subC (codeOf Tryz.f16) [1, 1, 0]) [(2, .o 0), (3, .o 1), (4, .o 2), (5, .z), (6, .j r3.1), (7, .j r3.2)] [.box 31 (c31 a1) false, .box 37 (c37 a2) false, .box 31 [.os 3 0, .os 4 0, .os 5 0, .os 6 0, .os 7 0, .os 8 0, .os 9 0, .os 10 0] false, .n 56, .n 66, .n 93, .n 50, .n 95, .n 72, .n 75, .n 99] ((fun r => match r with | v10 => .nor) r) ((fun r => match r with | v10 => [(2, .o 0), (3, .o 1), (4, .o 2), (5, .z), (6, .j r3.1), (7, .j v10)]) r) ((fun r => match r with | v10 => [.box 31 (c31 a1) false, .box 37 (c37 a2) false, .box 31 [.os 3 0, .os 4 0, .os 5 0, .os 6 0, .os 7 0, .os 8 0, .os 9 0, .os 10 0] false, .n 56, .n 66, .n 93, .n 50, .n 95, .n 72, .n 75, .n 99]) r) := by
 unfold palingref19_Vni_J1 at h
 obtain ⟨h5, h⟩|⟨h5, h⟩ := ite_out h
 ·obtain ⟨x6, h7, h⟩ := bo h
  obtain ⟨h8, h⟩|⟨h8, h⟩ := ite_out h
  ·obtain rfl := oi h; exact rl [2, 3, 4, 5, 6, 7] [0, 1, 2, 3, 4, 5, 6, 7, 8, 9, 10] [.t, .row (c56 x6), .t] (pc h5<|pc (ob56 h7)<|pc h8<|pn)
  ·obtain rfl := oi h; exact rl [2, 3, 4, 5, 6, 7] [0, 1, 2, 3, 4, 5, 6, 7, 8, 9, 10] [.t, .row (c56 x6), .f] (pc h5<|pc (ob56 h7)<|pc h8<|pn)
 ·obtain rfl := oi h; exact rl [2, 3, 4, 5, 6, 7] [0, 1, 2, 3, 4, 5, 6, 7, 8, 9, 10] [.f] (pc h5<|pn)

theorem k_palingref19_Vni_J2 {a1 : Api_Net} {a2 : Api_Line} {r3 : Int × Int} {v10 : Int} {r13 : Int} {r : Int} (h : palingref19_Vni_J2 a1 a2 r3 v10 r13 = some r) :
  ExecOK Tryz.prog UU 0 78 (subC (codeOf Tryz.f16) [1, 1, 1, 1, 0]) [(2, .o 0), (3, .o 1), (4, .o 2), (5, .z), (6, .j r3.1), (7, .j v10), (8, .j r13)] [.box 31 (c31 a1) false, .box 37 (c37 a2) false, .box 31 [.os 3 0, .os 4 0, .os 5 0, .os 6 0, .os 7 0, .os 8 0, .os 9 0, .os 10 0] false, .n 56, .n 66, .n 93, .n 50, .n 95, .n 72, .n 75, .n 99] ((fun r => match r with | v18 => .nor) r) ((fun r => match r with | v18 => [(2, .o 0), (3, .o 1), (4, .o 2), (5, .z), (6, .j r3.1), (7, .j v18), (8, .j r13)]) r) ((fun r => match r with | v18 => [.box 31 (c31 a1) false, .box 37 (c37 a2) false, .box 31 [.os 3 0, .os 4 0, .os 5 0, .os 6 0, .os 7 0, .os 8 0, .os 9 0, .os 10 0] false, .n 56, .n 66, .n 93, .n 50, .n 95, .n 72, .n 75, .n 99]) r) := by
 unfold palingref19_Vni_J2 at h
 obtain ⟨h15, h⟩|⟨h15, h⟩ := ite_out h
 ·obtain ⟨h16, h⟩|⟨h16, h⟩ := ite_out h
  ·obtain rfl := oi h; exact rl [2, 3, 4, 5, 6, 7, 8] [0, 1, 2, 3, 4, 5, 6, 7, 8, 9, 10] [.t, .t] (pc h15<|pc h16<|pn)
  ·obtain rfl := oi h; exact rl [2, 3, 4, 5, 6, 7, 8] [0, 1, 2, 3, 4, 5, 6, 7, 8, 9, 10] [.t, .f] (pc h15<|pc h16<|pn)
 ·obtain rfl := oi h; exact rl [2, 3, 4, 5, 6, 7, 8] [0, 1, 2, 3, 4, 5, 6, 7, 8, 9, 10] [.f] (pc h15<|pn)

theorem k_palingref19_Vni_J3 {a1 : Api_Net} {a2 : Api_Line} {r3 : Int × Int} {r13 : Int} {v18 : Int} {r : Int} (h : palingref19_Vni_J3 a1 a2 r3 r13 v18 = some r) :
  ExecOK Tryz.prog UU 0 78 (subC (codeOf Tryz.f16) [1, 1, 1, 1, 1, 0]) [(2, .o 0), (3, .o 1), (4, .o 2), (5, .z), (6, .j r3.1), (7, .j v18), (8, .j r13)] [.box 31 (c31 a1) false, .box 37 (c37 a2) false, .box 31 [.os 3 0, .os 4 0, .os 5 0, .os 6 0, .os 7 0, .os 8 0, .os 9 0, .os 10 0] false, .n 56, .n 66, .n 93, .n 50, .n 95, .n 72, .n 75, .n 99] ((fun r => match r with | v29 => .nor) r) ((fun r => match r with | v29 => [(2, .o 0), (3, .o 1), (4, .o 2), (5, .z), (7, .j v29), (8, .j r13)]) r) ((fun r => match r with | v29 => [.box 31 (c31 a1) false, .box 37 (c37 a2) false, .box 31 [.os 3 0, .os 4 0, .os 5 0, .os 6 0, .os 7 0, .os 8 0, .os 9 0, .os 10 0] false, .n 56, .n 66, .n 93, .n 50, .n 95, .n 72, .n 75, .n 99]) r) := by
 unfold palingref19_Vni_J3 at h
 obtain ⟨h21, h⟩|⟨h21, h⟩ := ite_out h
 ·obtain ⟨x22, h23, h⟩ := bo h
  obtain ⟨h24, h⟩|⟨h24, h⟩ := ite_out h
  ·obtain rfl := oi h; exact rl [2, 3, 4, 5, 7, 8] [0, 1, 2, 3, 4, 5, 6, 7, 8, 9, 10] [.t, .row (c50 x22), .t] (pc h21<|pc (ob50 h23)<|pc h24<|pn)
  ·obtain ⟨r25, h26, h⟩ := bo h
   obtain ⟨h27, h⟩|⟨h27, h⟩ := ite_out h
   ·obtain rfl := oi h; exact rl [2, 3, 4, 5, 7, 8] [0, 1, 2, 3, 4, 5, 6, 7, 8, 9, 10] [.t, .row (c50 x22), .f, .callv (.j r25), .t] (pc h21<|pc (ob50 h23)<|pc h24<|pc (k_palingref19_Find h26)<|pc h27<|pn)
   ·obtain rfl := oi h; exact rl [2, 3, 4, 5, 7, 8] [0, 1, 2, 3, 4, 5, 6, 7, 8, 9, 10] [.t, .row (c50 x22), .f, .callv (.j r25), .f] (pc h21<|pc (ob50 h23)<|pc h24<|pc (k_palingref19_Find h26)<|pc h27<|pn)
 ·obtain rfl := oi h; exact rl [2, 3, 4, 5, 7, 8] [0, 1, 2, 3, 4, 5, 6, 7, 8, 9, 10] [.f] (pc h21<|pn)

def b0_k_palingref19_Vni (a1 : Api_Net) (a2 : Api_Line) : List (AObj DD) := [.box 31 (c31 a1) false, .box 37 (c37 a2) false, .box 31 [.os 3 0, .os 4 0, .os 5 0, .os 6 0, .os 7 0, .os 8 0, .os 9 0, .os 10 0] false, .n 56, .n 66, .n 93, .n 50, .n 95, .n 72, .n 75, .n 99]
def b1_k_palingref19_Vni : AObj DD := .box 31 [.os 3 0, .os 4 0, .os 5 0, .os 6 0, .os 7 0, .os 8 0, .os 9 0, .os 10 0] false
theorem k_palingref19_Vni {a1 : Api_Net} {a2 : Api_Line} {r : ((List Api_Device) × (List Api_Port) × (List Api_Link) × (List Api_Domain) × (List Api_Static) × (List Api_Flood) × (List Api_Vrf) × (List Api_Irb) × Nat × Nat × Nat × Nat × Int)} (h : palingref19_Vni a1 a2 = some r) :
  CallsOK Tryz.prog UU 16 [.agg (c31 a1), .agg (c37 a2)] [] ((fun r => match r with | (l45, l46, l47, l48, l49, l50, l51, l52, n53, n54, n55, n56, v57) => .tup [.agg [.os 0 l45.length, .os 1 n53, .os 2 l47.length, .os 3 n54, .os 4 l49.length, .os 5 n55, .os 6 n56, .os 7 l52.length], .j v57]) r) ((fun r => match r with | (l45, l46, l47, l48, l49, l50, l51, l52, n53, n54, n55, n56, v57) => [.w 56 l45, .arr 66 l46 n53 false, .w 93 l47, .arr 50 l48 n54 false, .w 95 l49, .arr 72 l50 n55 false, .arr 75 l51 n56 false, .w 99 l52]) r) := by
 unfold palingref19_Vni at h
 obtain ⟨r3, h4, h⟩ := bo h
 obtain ⟨v10, h11, h⟩ := bo h
 obtain ⟨r13, h14, h⟩ := bo h
 obtain ⟨v18, h19, h⟩ := bo h
 obtain ⟨v29, h30, h⟩ := bo h
 obtain ⟨h32, h⟩|⟨h32, h⟩ := ite_out h
 ·obtain rfl := oi h; exact rf Tryz.func16 (some [11, 12, 13, 14, 15, 16, 17, 18]) [.callv (.tup [.j r3.1, .j r3.2]), .cut [2, 3, 4, 5, 6, 7] [0, 1, 10, 2, 3, 4, 5, 6, 7, 8, 9] .nor [(2, .o 0), (3, .o 1), (4, .o 2), (5, .z), (6, .j r3.1), (7, .j v10)] (b0_k_palingref19_Vni a1 a2), .callv (.j r13), .cut [2, 3, 4, 5, 6, 7, 8] [0, 1, 2, 3, 4, 5, 6, 7, 8, 9, 10] .nor [(2, .o 0), (3, .o 1), (4, .o 2), (5, .z), (6, .j r3.1), (7, .j v18), (8, .j r13)] (b0_k_palingref19_Vni a1 a2), .cut [2, 3, 4, 5, 6, 7, 8] [0, 1, 2, 3, 4, 5, 6, 7, 8, 9, 10] .nor [(2, .o 0), (3, .o 1), (4, .o 2), (5, .z), (7, .j v29), (8, .j r13)] (b0_k_palingref19_Vni a1 a2), .t] (pc (k_palingref19_begin h4)<|pc (k_palingref19_Vni_J1 h11)<|pc (k_palingref15_At h14)<|pc (k_palingref19_Vni_J2 h19)<|pc (k_palingref19_Vni_J3 h30)<|pc h32<|pn)
 ·obtain ⟨r33, h34, h⟩ := bo h
  obtain ⟨l35, l36, l37, l38⟩ := r33
  obtain ⟨h39, h⟩|⟨h39, h⟩ := ite_out h
  ·obtain ⟨x40, h41, h⟩ := bo h
   obtain ⟨h42, h⟩|⟨h42, h⟩ := ite_out h
   ·obtain ⟨x43, h44, h⟩ := bo h
    obtain rfl := oi h; exact rf Tryz.func16 (some [11, 12, 13, 14, 15, 16, 17, 18]) [.callv (.tup [.j r3.1, .j r3.2]), .cut [2, 3, 4, 5, 6, 7] [0, 1, 10, 2, 3, 4, 5, 6, 7, 8, 9] .nor [(2, .o 0), (3, .o 1), (4, .o 2), (5, .z), (6, .j r3.1), (7, .j v10)] (b0_k_palingref19_Vni a1 a2), .callv (.j r13), .cut [2, 3, 4, 5, 6, 7, 8] [0, 1, 2, 3, 4, 5, 6, 7, 8, 9, 10] .nor [(2, .o 0), (3, .o 1), (4, .o 2), (5, .z), (6, .j r3.1), (7, .j v18), (8, .j r13)] (b0_k_palingref19_Vni a1 a2), .cut [2, 3, 4, 5, 6, 7, 8] [0, 1, 2, 3, 4, 5, 6, 7, 8, 9, 10] .nor [(2, .o 0), (3, .o 1), (4, .o 2), (5, .z), (7, .j v29), (8, .j r13)] (b0_k_palingref19_Vni a1 a2), .f, .callm [] (.agg [.os 0 a1.devices.length, .os 1 a1.ports.length, .os 2 a1.links.length, .os 3 a1.domains.length, .os 4 a1.statics.length, .os 5 a1.floods.length, .os 6 a1.vrfs.length, .os 7 a1.irbs.length]) [.w 56 a1.devices, .arr 66 l35 a1.ports.length false, .w 93 a1.links, .arr 50 l36 a1.domains.length false, .w 95 a1.statics, .arr 72 l37 a1.floods.length false, .arr 75 l38 a1.vrfs.length false, .w 99 a1.irbs], .row (c50 x40), .obj [] (.arr 50 (List.set l36 r13.toNat (⟨x40.dev, x40.vlan, a2.num, x40.irb, x40.row, x40.peers⟩ : Api_Domain)) a1.domains.length false), .row (c50 x43), .obj [] (.arr 50 (List.set (List.set l36 r13.toNat (⟨x40.dev, x40.vlan, a2.num, x40.irb, x40.row, x40.peers⟩ : Api_Domain)) r13.toNat (⟨x43.dev, x43.vlan, x43.vni, x43.irb, a2.row, x43.peers⟩ : Api_Domain)) a1.domains.length false)] (pc (k_palingref19_begin h4)<|pc (k_palingref19_Vni_J1 h11)<|pc (k_palingref15_At h14)<|pc (k_palingref19_Vni_J2 h19)<|pc (k_palingref19_Vni_J3 h30)<|pc h32<|pc (k_palingref15_Copy h34)<|pc (an a1.domains.length (lin_ob h39))<|pc (rn a1.domains.length)<|pc (st_ob (e := 50) (n := a1.domains.length) (l := l36) (i := r13.toNat) (⟨x40.dev, x40.vlan, a2.num, x40.irb, x40.row, x40.peers⟩ : Api_Domain) [.j x40.dev, .j x40.vlan, .j a2.num, .j x40.irb, .j x40.row, .sl 3 x40.peers] (obn50 h41) rfl)<|pc (an a1.domains.length (lin_ob h42))<|pc (rn a1.domains.length)<|pc (st_ob (e := 50) (n := a1.domains.length) (l := List.set l36 r13.toNat (⟨x40.dev, x40.vlan, a2.num, x40.irb, x40.row, x40.peers⟩ : Api_Domain)) (i := r13.toNat) (⟨x43.dev, x43.vlan, x43.vni, x43.irb, a2.row, x43.peers⟩ : Api_Domain) [.j x43.dev, .j x43.vlan, .j x43.vni, .j x43.irb, .j a2.row, .sl 3 x43.peers] (obn50 h44) rfl)<|pn)
   ·cases h
  ·cases h

theorem k_palingref19_list_L1 {a1 : Api_Net} {a2 : Int} {a3 : Int} : LoopOK Tryz.prog UU 0 34 (subC (codeOf Tryz.f48) [1, 0, 1, 0, 0]) (ρ := Int ⊕ Unit) (palingref19_list_L1 a1 a2 a3)
  (fun v4 : Int => ([(1, .j a2), (2, .j a3), (3, .o 0), (6, .z), (7, .j v4)] : Fr DD)) (fun v4 : Int => ([.box 31 (c31 a1) false] : Heap DD)) (fun r => match r with | Sum.inl v13 => .ret | Sum.inr _ => .exit 0) (fun r => match r with | Sum.inl v13 => [(6, .j v13)] | Sum.inr _ => [(6, .z)]) (fun r => match r with | Sum.inl v13 => [] | Sum.inr _ => []) := by
 refine loop_sound3 (fun s q h => ?_) (fun r => ?_)
 ·replace h : palingref19_list_L1 a1 a2 a3 s = some q := h; revert h; revert s; intro v4 h
  unfold palingref19_list_L1 at h
  obtain ⟨h5, h⟩|⟨h5, h⟩ := ite_out h
  ·obtain ⟨x6, h7, h⟩ := bo h
   obtain ⟨h8, h⟩|⟨h8, h⟩ := ite_out h
   ·obtain ⟨x9, h10, h⟩ := bo h
    obtain ⟨h11, h⟩|⟨h11, h⟩ := ite_out h
    ·obtain rfl := oi h; exact rl [6] [] [.t, .row (c72 x6), .t, .row (c72 x9), .t] (pc h5<|pc (ob72 h7)<|pc h8<|pc (ob72 h10)<|pc h11<|pn)
    ·obtain rfl := oi h; exact rl [1, 2, 3, 6, 7] [0] [.t, .row (c72 x6), .t, .row (c72 x9), .f] (pc h5<|pc (ob72 h7)<|pc h8<|pc (ob72 h10)<|pc h11<|pn)
   ·obtain rfl := oi h; exact rl [1, 2, 3, 6, 7] [0] [.t, .row (c72 x6), .f] (pc h5<|pc (ob72 h7)<|pc h8<|pn)
  ·obtain rfl := oi h; exact rl [6] [] [.f] (pc h5<|pn)
 ·rcases r with _ | _ <;> exact Ex.noConfusion

theorem k_palingref19_list {a1 : Api_Net} {a2 : Int} {a3 : Int} {r : Int} (h : palingref19_list a1 a2 a3 = some r) :
  CallsOK Tryz.prog UU 48 [.agg (c31 a1), .j a2, .j a3] [] (.j r) [] := by
 unfold palingref19_list at h
 obtain ⟨r15, h14, h⟩ := bo h
 rcases r15 with v13 | _
 ·obtain rfl := oi h; exact rf Tryz.func48 none [.sum [1, 2, 3, 6, 7] [0] .ret [(6, .j v13)] []] (pc (k_palingref19_list_L1 _ _ h14)<|pn)
 ·obtain rfl := oi h; exact rf Tryz.func48 none [.sum [1, 2, 3, 6, 7] [0] (.exit 0) [(6, .z)] []] (pc (k_palingref19_list_L1 _ _ h14)<|pn)

theorem k_palingref19_has_L1 {a1 : List Int} {a2 : Int} : LoopOK Tryz.prog UU 0 18 (subC (codeOf Tryz.f49) [1, 0, 1, 0, 0]) (ρ := Unit ⊕ Unit) (palingref19_has_L1 a1 a2)
  (fun v3 : Int => ([(0, .sl 33 a1), (1, .v (.int .u32 a2)), (4, .y false), (5, .j v3)] : Fr DD)) (fun v3 : Int => ([] : Heap DD)) (fun r => match r with | Sum.inl _ => .ret | Sum.inr _ => .exit 0) (fun r => match r with | Sum.inl _ => [(4, .y true)] | Sum.inr _ => [(4, .y false)]) (fun r => match r with | Sum.inl _ => [] | Sum.inr _ => []) := by
 refine loop_sound3 (fun s q h => ?_) (fun r => ?_)
 ·replace h : palingref19_has_L1 a1 a2 s = some q := h; revert h; revert s; intro v3 h
  unfold palingref19_has_L1 at h
  obtain ⟨h4, h⟩|⟨h4, h⟩ := ite_out h
  ·obtain ⟨x5, h6, h⟩ := bo h
   obtain ⟨h7, h⟩|⟨h7, h⟩ := ite_out h
   ·obtain rfl := oi h; exact rl [4] [] [.t, .row (c33 x5), .t] (pc h4<|pc (ob33 h6)<|pc h7<|pn)
   ·obtain rfl := oi h; exact rl [0, 1, 4, 5] [] [.t, .row (c33 x5), .f] (pc h4<|pc (ob33 h6)<|pc h7<|pn)
  ·obtain rfl := oi h; exact rl [4] [] [.f] (pc h4<|pn)
 ·rcases r with _ | _ <;> exact Ex.noConfusion

theorem k_palingref19_has {a1 : List Int} {a2 : Int} {r : Bool} (h : palingref19_has a1 a2 = some r) :
  CallsOK Tryz.prog UU 49 [.sl 33 a1, .v (.int .u32 a2)] [] (.y r) [] := by
 unfold palingref19_has at h
 obtain ⟨r9, h8, h⟩ := bo h
 rcases r9 with _ | _
 ·obtain rfl := oi h; exact rf Tryz.func49 none [.sum [0, 1, 4, 5] [] .ret [(4, .y true)] []] (pc (k_palingref19_has_L1 _ _ h8)<|pn)
 ·obtain rfl := oi h; exact rf Tryz.func49 none [.sum [0, 1, 4, 5] [] (.exit 0) [(4, .y false)] []] (pc (k_palingref19_has_L1 _ _ h8)<|pn)

theorem k_palingref19_Flood_J1 {a1 : Api_Net} {a2 : Api_Line} {r3 : Int × Int} {r : Int} (h : palingref19_Flood_J1 a1 a2 r3 = some r) :
  ExecOK Tryz.prog UU 0 78 (subC (codeOf Tryz.f18) [1, 1, 0]) [(2, .o 0), (3, .o 1), (4, .o 2), (5, .z), (6, .j r3.1), (7, .j r3.2)] [.box 31 (c31 a1) false, .box 37 (c37 a2) false, .box 31 [.os 3 0, .os 4 0, .os 5 0, .os 6 0, .os 7 0, .os 8 0, .os 9 0, .os 10 0] false, .n 56, .n 66, .n 93, .n 50, .n 95, .n 72, .n 75, .n 99] ((fun r => match r with | v10 => .nor) r) ((fun r => match r with | v10 => [(2, .o 0), (3, .o 1), (4, .o 2), (5, .z), (6, .j r3.1), (7, .j v10)]) r) ((fun r => match r with | v10 => [.box 31 (c31 a1) false, .box 37 (c37 a2) false, .box 31 [.os 3 0, .os 4 0, .os 5 0, .os 6 0, .os 7 0, .os 8 0, .os 9 0, .os 10 0] false, .n 56, .n 66, .n 93, .n 50, .n 95, .n 72, .n 75, .n 99]) r) := by
 unfold palingref19_Flood_J1 at h
 obtain ⟨h5, h⟩|⟨h5, h⟩ := ite_out h
 ·obtain ⟨r6, h7, h⟩ := bo h
  obtain ⟨h8, h⟩|⟨h8, h⟩ := ite_out h
  ·obtain rfl := oi h; exact rl [2, 3, 4, 5, 6, 7] [0, 1, 2, 3, 4, 5, 6, 7, 8, 9, 10] [.t, .callv (.j r6), .t] (pc h5<|pc (k_palingref19_Find h7)<|pc h8<|pn)
  ·obtain rfl := oi h; exact rl [2, 3, 4, 5, 6, 7] [0, 1, 2, 3, 4, 5, 6, 7, 8, 9, 10] [.t, .callv (.j r6), .f] (pc h5<|pc (k_palingref19_Find h7)<|pc h8<|pn)
 ·obtain rfl := oi h; exact rl [2, 3, 4, 5, 6, 7] [0, 1, 2, 3, 4, 5, 6, 7, 8, 9, 10] [.f] (pc h5<|pn)

theorem k_palingref19_Flood_J2 {a1 : Api_Net} {a2 : Api_Line} {r3 : Int × Int} {v10 : Int} {r : Int} (h : palingref19_Flood_J2 a1 a2 r3 v10 = some r) :
  ExecOK Tryz.prog UU 0 78 (subC (codeOf Tryz.f18) [1, 1, 1, 0]) [(2, .o 0), (3, .o 1), (4, .o 2), (5, .z), (6, .j r3.1), (7, .j v10)] [.box 31 (c31 a1) false, .box 37 (c37 a2) false, .box 31 [.os 3 0, .os 4 0, .os 5 0, .os 6 0, .os 7 0, .os 8 0, .os 9 0, .os 10 0] false, .n 56, .n 66, .n 93, .n 50, .n 95, .n 72, .n 75, .n 99] ((fun r => match r with | v18 => .nor) r) ((fun r => match r with | v18 => [(2, .o 0), (3, .o 1), (4, .o 2), (5, .z), (6, .j r3.1), (7, .j v18)]) r) ((fun r => match r with | v18 => [.box 31 (c31 a1) false, .box 37 (c37 a2) false, .box 31 [.os 3 0, .os 4 0, .os 5 0, .os 6 0, .os 7 0, .os 8 0, .os 9 0, .os 10 0] false, .n 56, .n 66, .n 93, .n 50, .n 95, .n 72, .n 75, .n 99]) r) := by
 unfold palingref19_Flood_J2 at h
 obtain ⟨h13, h⟩|⟨h13, h⟩ := ite_out h
 ·obtain ⟨r14, h15, h⟩ := bo h
  obtain ⟨h16, h⟩|⟨h16, h⟩ := ite_out h
  ·obtain rfl := oi h; exact rl [2, 3, 4, 5, 6, 7] [0, 1, 2, 3, 4, 5, 6, 7, 8, 9, 10] [.t, .callv (.j r14), .t] (pc h13<|pc (k_palingref19_list h15)<|pc h16<|pn)
  ·obtain rfl := oi h; exact rl [2, 3, 4, 5, 6, 7] [0, 1, 2, 3, 4, 5, 6, 7, 8, 9, 10] [.t, .callv (.j r14), .f] (pc h13<|pc (k_palingref19_list h15)<|pc h16<|pn)
 ·obtain rfl := oi h; exact rl [2, 3, 4, 5, 6, 7] [0, 1, 2, 3, 4, 5, 6, 7, 8, 9, 10] [.f] (pc h13<|pn)

theorem k_palingref19_Flood_J3 {a1 : Api_Net} {a2 : Api_Line} {r3 : Int × Int} {v18 : Int} {r : Int} (h : palingref19_Flood_J3 a1 a2 r3 v18 = some r) :
  ExecOK Tryz.prog UU 0 78 (subC (codeOf Tryz.f18) [1, 1, 1, 1, 0]) [(2, .o 0), (3, .o 1), (4, .o 2), (5, .z), (6, .j r3.1), (7, .j v18)] [.box 31 (c31 a1) false, .box 37 (c37 a2) false, .box 31 [.os 3 0, .os 4 0, .os 5 0, .os 6 0, .os 7 0, .os 8 0, .os 9 0, .os 10 0] false, .n 56, .n 66, .n 93, .n 50, .n 95, .n 72, .n 75, .n 99] ((fun r => match r with | v28 => .nor) r) ((fun r => match r with | v28 => [(2, .o 0), (3, .o 1), (4, .o 2), (5, .z), (6, .j r3.1), (7, .j v28)]) r) ((fun r => match r with | v28 => [.box 31 (c31 a1) false, .box 37 (c37 a2) false, .box 31 [.os 3 0, .os 4 0, .os 5 0, .os 6 0, .os 7 0, .os 8 0, .os 9 0, .os 10 0] false, .n 56, .n 66, .n 93, .n 50, .n 95, .n 72, .n 75, .n 99]) r) := by
 unfold palingref19_Flood_J3 at h
 obtain ⟨h21, h⟩|⟨h21, h⟩ := ite_out h
 ·obtain ⟨x22, h23, h⟩ := bo h
  obtain ⟨r24, h25, h⟩ := bo h
  obtain ⟨h26, h⟩|⟨h26, h⟩ := ite_out h
  ·obtain rfl := oi h; exact rl [2, 3, 4, 5, 6, 7] [0, 1, 2, 3, 4, 5, 6, 7, 8, 9, 10] [.t, .row (c56 x22), .b r24, .t] (pc h21<|pc (ob56 h23)<|pc (k_palingref19_has h25)<|pc h26<|pn)
  ·obtain rfl := oi h; exact rl [2, 3, 4, 5, 6, 7] [0, 1, 2, 3, 4, 5, 6, 7, 8, 9, 10] [.t, .row (c56 x22), .b r24, .f] (pc h21<|pc (ob56 h23)<|pc (k_palingref19_has h25)<|pc h26<|pn)
 ·obtain rfl := oi h; exact rl [2, 3, 4, 5, 6, 7] [0, 1, 2, 3, 4, 5, 6, 7, 8, 9, 10] [.f] (pc h21<|pn)

theorem k_palingref19_Flood_J4 {a1 : Api_Net} {a2 : Api_Line} {r3 : Int × Int} {v28 : Int} {r : Int} (h : palingref19_Flood_J4 a1 a2 r3 v28 = some r) :
  ExecOK Tryz.prog UU 0 78 (subC (codeOf Tryz.f18) [1, 1, 1, 1, 1, 0]) [(2, .o 0), (3, .o 1), (4, .o 2), (5, .z), (6, .j r3.1), (7, .j v28)] [.box 31 (c31 a1) false, .box 37 (c37 a2) false, .box 31 [.os 3 0, .os 4 0, .os 5 0, .os 6 0, .os 7 0, .os 8 0, .os 9 0, .os 10 0] false, .n 56, .n 66, .n 93, .n 50, .n 95, .n 72, .n 75, .n 99] ((fun r => match r with | v34 => .nor) r) ((fun r => match r with | v34 => [(2, .o 0), (3, .o 1), (4, .o 2), (5, .z), (6, .j r3.1), (7, .j v34)]) r) ((fun r => match r with | v34 => [.box 31 (c31 a1) false, .box 37 (c37 a2) false, .box 31 [.os 3 0, .os 4 0, .os 5 0, .os 6 0, .os 7 0, .os 8 0, .os 9 0, .os 10 0] false, .n 56, .n 66, .n 93, .n 50, .n 95, .n 72, .n 75, .n 99]) r) := by
 unfold palingref19_Flood_J4 at h
 obtain ⟨h31, h⟩|⟨h31, h⟩ := ite_out h
 ·obtain ⟨h32, h⟩|⟨h32, h⟩ := ite_out h
  ·obtain rfl := oi h; exact rl [2, 3, 4, 5, 6, 7] [0, 1, 2, 3, 4, 5, 6, 7, 8, 9, 10] [.t, .t] (pc h31<|pc h32<|pn)
  ·obtain rfl := oi h; exact rl [2, 3, 4, 5, 6, 7] [0, 1, 2, 3, 4, 5, 6, 7, 8, 9, 10] [.t, .f] (pc h31<|pc h32<|pn)
 ·obtain rfl := oi h; exact rl [2, 3, 4, 5, 6, 7] [0, 1, 2, 3, 4, 5, 6, 7, 8, 9, 10] [.f] (pc h31<|pn)

def b0_k_palingref19_Flood (a1 : Api_Net) : AObj DD := .box 31 [.os 11 a1.devices.length, .os 12 a1.ports.length, .os 13 a1.links.length, .os 14 a1.domains.length, .os 15 a1.statics.length, .os 16 a1.floods.length, .os 17 a1.vrfs.length, .os 18 a1.irbs.length] false
def b1_k_palingref19_Flood (a1 : Api_Net) (a2 : Api_Line) : List (AObj DD) := [.box 31 (c31 a1) false, .box 37 (c37 a2) false, .box 31 [.os 3 0, .os 4 0, .os 5 0, .os 6 0, .os 7 0, .os 8 0, .os 9 0, .os 10 0] false, .n 56, .n 66, .n 93, .n 50, .n 95, .n 72, .n 75, .n 99]
def b2_k_palingref19_Flood : AObj DD := .box 31 [.os 3 0, .os 4 0, .os 5 0, .os 6 0, .os 7 0, .os 8 0, .os 9 0, .os 10 0] false
theorem k_palingref19_Flood {a1 : Api_Net} {a2 : Api_Line} {r : ((List Api_Device) × (List Api_Port) × (List Api_Link) × (List Api_Domain) × (List Api_Static) × (List Api_Flood) × (List Api_Vrf) × (List Api_Irb) × Nat × Nat × Nat × Int)} (h : palingref19_Flood a1 a2 = some r) :
  CallsOK Tryz.prog UU 18 [.agg (c31 a1), .agg (c37 a2)] [] ((fun r => match r with | (l46, l47, l48, l49, l50, l51, l52, l53, n54, n55, n56, v57) => .tup [.agg [.os 0 l46.length, .os 1 n54, .os 2 l48.length, .os 3 n55, .os 4 l50.length, .os 5 l51.length, .os 6 n56, .os 7 l53.length], .j v57]) r) ((fun r => match r with | (l46, l47, l48, l49, l50, l51, l52, l53, n54, n55, n56, v57) => [.w 56 l46, .arr 66 l47 n54 false, .w 93 l48, .arr 50 l49 n55 false, .w 95 l50, .w 72 l51, .arr 75 l52 n56 false, .w 99 l53]) r) := by
 unfold palingref19_Flood at h
 obtain ⟨r3, h4, h⟩ := bo h
 obtain ⟨v10, h11, h⟩ := bo h
 obtain ⟨v18, h19, h⟩ := bo h
 obtain ⟨v28, h29, h⟩ := bo h
 obtain ⟨v34, h35, h⟩ := bo h
 obtain ⟨h37, h⟩|⟨h37, h⟩ := ite_out h
 ·obtain rfl := oi h; exact rf Tryz.func18 (some [11, 12, 13, 14, 15, 16, 17, 18]) [.callv (.tup [.j r3.1, .j r3.2]), .cut [2, 3, 4, 5, 6, 7] [0, 1, 10, 2, 3, 4, 5, 6, 7, 8, 9] .nor [(2, .o 0), (3, .o 1), (4, .o 2), (5, .z), (6, .j r3.1), (7, .j v10)] (b1_k_palingref19_Flood a1 a2), .cut [2, 3, 4, 5, 6, 7] [0, 1, 2, 3, 4, 5, 6, 7, 8, 9, 10] .nor [(2, .o 0), (3, .o 1), (4, .o 2), (5, .z), (6, .j r3.1), (7, .j v18)] (b1_k_palingref19_Flood a1 a2), .cut [2, 3, 4, 5, 6, 7] [0, 1, 2, 3, 4, 5, 6, 7, 8, 9, 10] .nor [(2, .o 0), (3, .o 1), (4, .o 2), (5, .z), (6, .j r3.1), (7, .j v28)] (b1_k_palingref19_Flood a1 a2), .cut [2, 3, 4, 5, 6, 7] [0, 1, 2, 3, 4, 5, 6, 7, 8, 9, 10] .nor [(2, .o 0), (3, .o 1), (4, .o 2), (5, .z), (6, .j r3.1), (7, .j v34)] (b1_k_palingref19_Flood a1 a2), .t] (pc (k_palingref19_begin h4)<|pc (k_palingref19_Flood_J1 h11)<|pc (k_palingref19_Flood_J2 h19)<|pc (k_palingref19_Flood_J3 h29)<|pc (k_palingref19_Flood_J4 h35)<|pc h37<|pn)
 ·obtain ⟨r38, h39, h⟩ := bo h
  obtain ⟨l40, l41, l42, l43⟩ := r38
  obtain ⟨h44, h⟩|⟨h44, h⟩ := ite_out h
  ·obtain ⟨h45, h⟩|⟨h45, h⟩ := ite_out h
   ·obtain rfl := oi h; exact rf Tryz.func18 (some [11, 12, 13, 14, 15, 16, 17, 18]) [.callv (.tup [.j r3.1, .j r3.2]), .cut [2, 3, 4, 5, 6, 7] [0, 1, 10, 2, 3, 4, 5, 6, 7, 8, 9] .nor [(2, .o 0), (3, .o 1), (4, .o 2), (5, .z), (6, .j r3.1), (7, .j v10)] (b1_k_palingref19_Flood a1 a2), .cut [2, 3, 4, 5, 6, 7] [0, 1, 2, 3, 4, 5, 6, 7, 8, 9, 10] .nor [(2, .o 0), (3, .o 1), (4, .o 2), (5, .z), (6, .j r3.1), (7, .j v18)] (b1_k_palingref19_Flood a1 a2), .cut [2, 3, 4, 5, 6, 7] [0, 1, 2, 3, 4, 5, 6, 7, 8, 9, 10] .nor [(2, .o 0), (3, .o 1), (4, .o 2), (5, .z), (6, .j r3.1), (7, .j v28)] (b1_k_palingref19_Flood a1 a2), .cut [2, 3, 4, 5, 6, 7] [0, 1, 2, 3, 4, 5, 6, 7, 8, 9, 10] .nor [(2, .o 0), (3, .o 1), (4, .o 2), (5, .z), (6, .j r3.1), (7, .j v34)] (b1_k_palingref19_Flood a1 a2), .f, .callm [] (.agg [.os 0 a1.devices.length, .os 1 a1.ports.length, .os 2 a1.links.length, .os 3 a1.domains.length, .os 4 a1.statics.length, .os 5 a1.floods.length, .os 6 a1.vrfs.length, .os 7 a1.irbs.length]) [.w 56 a1.devices, .arr 66 l40 a1.ports.length false, .w 93 a1.links, .arr 50 l41 a1.domains.length false, .w 95 a1.statics, .arr 72 l42 a1.floods.length false, .arr 75 l43 a1.vrfs.length false, .w 99 a1.irbs], .sum [7] [] .nor [] [.box 31 (c31 a1) false, .box 37 (c37 a2) false, b2_k_palingref19_Flood, .n 56, .n 66, .n 93, .n 50, .n 95, .n 72, .n 75, .n 99, .w 56 a1.devices, .arr 66 l40 a1.ports.length false, .w 93 a1.links, .arr 50 l41 a1.domains.length false, .w 95 a1.statics, .arr 72 l42 a1.floods.length false, .arr 75 l43 a1.vrfs.length false, .w 99 a1.irbs, .n 56, .n 66, .n 93, .n 50, .n 95, .n 72, .n 75, .n 99, (b0_k_palingref19_Flood a1), .n 33], .sum [10] [] .nor [] [.box 31 (c31 a1) false, .box 37 (c37 a2) false, b2_k_palingref19_Flood, .n 56, .n 66, .n 93, .n 50, .n 95, .n 72, .n 75, .n 99, .w 56 a1.devices, .arr 66 l40 a1.ports.length false, .w 93 a1.links, .arr 50 l41 a1.domains.length false, .w 95 a1.statics, .arr 72 l42 a1.floods.length false, .arr 75 l43 a1.vrfs.length false, .w 99 a1.irbs, .n 56, .n 66, .n 93, .n 50, .n 95, .n 72, .n 75, .n 99, (b0_k_palingref19_Flood a1), .w 33 a2.addrs], .sum [12] [] .nor [] [.box 31 (c31 a1) false, .box 37 (c37 a2) false, b2_k_palingref19_Flood, .n 56, .n 66, .n 93, .n 50, .n 95, .n 72, .n 75, .n 99, .w 56 a1.devices, .arr 66 l40 a1.ports.length false, .w 93 a1.links, .arr 50 l41 a1.domains.length false, .w 95 a1.statics, .arr 72 l42 a1.floods.length false, .arr 75 l43 a1.vrfs.length false, .w 99 a1.irbs, .n 56, .n 66, .n 93, .n 50, .n 95, .n 72, .n 75, .n 99, (b0_k_palingref19_Flood a1), .wt 33 a2.addrs, .w 72 [(⟨a2.row, r3.1, a2.num, a2.addrs⟩ : Api_Flood)]], .obj [] (.n 33), .obj [] (.w 33 (a2.addrs)), .obj [28] (.w 72 [(⟨a2.row, r3.1, a2.num, a2.addrs⟩ : Api_Flood)]), .obj [] (.w 72 (l42 ++ [(⟨a2.row, r3.1, a2.num, a2.addrs⟩ : Api_Flood)]))] (pc (k_palingref19_begin h4)<|pc (k_palingref19_Flood_J1 h11)<|pc (k_palingref19_Flood_J2 h19)<|pc (k_palingref19_Flood_J3 h29)<|pc (k_palingref19_Flood_J4 h35)<|pc h37<|pc (k_palingref15_Copy h39)<|pd (rr (.op 27 1 0 5))<|pc (rr (.op 27 1 0 5))<|pd (rr (.os 16 a1.floods.length))<|pc (rr (.os 16 a1.floods.length))<|pd (rr (.o 1))<|pd (rr (.j a2.row))<|pd (rr (.j r3.1))<|pd (rr (.op 1 1 0 11))<|pd (rr (.j a2.num))<|pc (rh [.box 31 (c31 a1) false, .box 37 (c37 a2) false, b2_k_palingref19_Flood, .n 56, .n 66, .n 93, .n 50, .n 95, .n 72, .n 75, .n 99, .w 56 a1.devices, .arr 66 l40 a1.ports.length false, .w 93 a1.links, .arr 50 l41 a1.domains.length false, .w 95 a1.statics, .arr 72 l42 a1.floods.length false, .arr 75 l43 a1.vrfs.length false, .w 99 a1.irbs, .n 56, .n 66, .n 93, .n 50, .n 95, .n 72, .n 75, .n 99, (b0_k_palingref19_Flood a1), .n 33])<|pc (bs_ob 33 [])<|pc (rr (.op 1 1 0 16))<|pc (rr (.sl 33 a2.addrs))<|pc (rh [.box 31 (c31 a1) false, .box 37 (c37 a2) false, b2_k_palingref19_Flood, .n 56, .n 66, .n 93, .n 50, .n 95, .n 72, .n 75, .n 99, .w 56 a1.devices, .arr 66 l40 a1.ports.length false, .w 93 a1.links, .arr 50 l41 a1.domains.length false, .w 95 a1.statics, .arr 72 l42 a1.floods.length false, .arr 75 l43 a1.vrfs.length false, .w 99 a1.irbs, .n 56, .n 66, .n 93, .n 50, .n 95, .n 72, .n 75, .n 99, (b0_k_palingref19_Flood a1), .w 33 a2.addrs])<|pc (app_ob 33 (n := 0) (l := []) (xs := a2.addrs) h44)<|pc (rh [.box 31 (c31 a1) false, .box 37 (c37 a2) false, b2_k_palingref19_Flood, .n 56, .n 66, .n 93, .n 50, .n 95, .n 72, .n 75, .n 99, .w 56 a1.devices, .arr 66 l40 a1.ports.length false, .w 93 a1.links, .arr 50 l41 a1.domains.length false, .w 95 a1.statics, .arr 72 l42 a1.floods.length false, .arr 75 l43 a1.vrfs.length false, .w 99 a1.irbs, .n 56, .n 66, .n 93, .n 50, .n 95, .n 72, .n 75, .n 99, (b0_k_palingref19_Flood a1), .wt 33 a2.addrs, .w 72 [(⟨a2.row, r3.1, a2.num, a2.addrs⟩ : Api_Flood)]])<|pc (bs_ob 72 [(⟨a2.row, r3.1, a2.num, a2.addrs⟩ : Api_Flood)])<|pc (rn a2.addrs.length)<|pc (app_ob 72 (n := a1.floods.length) (l := l42) (xs := [(⟨a2.row, r3.1, a2.num, a2.addrs⟩ : Api_Flood)]) h45)<|pc (rn (List.length [(⟨a2.row, r3.1, a2.num, a2.addrs⟩ : Api_Flood)]))<|pn)
   ·cases h
  ·cases h

theorem k_palinglaw19_OverlayPuts {a1 : Api_Net} {a2 : Api_Line} {r : Bool} (h : palinglaw19_OverlayPuts a1 a2 = some r) :
  CallsOK Tryz.prog UU 4 [.agg (c31 a1), .agg (c37 a2)] [] (.y r) [] := by
 unfold palinglaw19_OverlayPuts at h
 obtain ⟨r3, h4, h⟩ := bo h
 obtain ⟨h5, h⟩|⟨h5, h⟩ := ite_out h
 ·obtain ⟨r6, h7, h⟩ := bo h
  obtain rfl := oi h; exact rf Tryz.func4 none [.b r3, .t, .b r6] (pc (k_palinglaw16_Great h4)<|pc h5<|pc (k_palinglaw19_works h7)<|pn)
 ·obtain ⟨r8, h9, h⟩ := bo h
  obtain ⟨l10, l11, l12, l13, l14, l15, l16, l17, n18, n19, n20, n21, n22, v23⟩ := r8
  obtain ⟨r24, h25, h⟩ := bo h
  obtain ⟨l26, l27, l28, l29, l30, l31, l32, l33, n34, n35, n36, n37, n38, v39⟩ := r24
  obtain ⟨r40, h41, h⟩ := bo h
  obtain ⟨h42, h⟩|⟨h42, h⟩ := ite_out h
  ·obtain rfl := oi h; exact rf Tryz.func4 none [.b r3, .f, .callm [] (.tup [.agg [.os 0 n18, .os 1 n19, .os 2 l12.length, .os 3 n20, .os 4 l14.length, .os 5 n21, .os 6 n22, .os 7 l17.length], .j v23]) [.arr 56 l10 n18 false, .arr 66 l11 n19 false, .w 93 l12, .arr 50 l13 n20 false, .w 95 l14, .arr 72 l15 n21 false, .arr 75 l16 n22 false, .w 99 l17], .callm [] (.tup [.agg [.os 0 n34, .os 1 n35, .os 2 l28.length, .os 3 n36, .os 4 l30.length, .os 5 n37, .os 6 n38, .os 7 l33.length], .j v39]) [.arr 56 l26 n34 false, .arr 66 l27 n35 false, .w 93 l28, .arr 50 l29 n36 false, .w 95 l30, .arr 72 l31 n37 false, .arr 75 l32 n38 false, .w 99 l33], .b r40, .t] (pc (k_palinglaw16_Great h4)<|pc h5<|pc (k_overlay_Vtep h9)<|pc (k_palingref19_Vtep h25)<|pc (k_palingref15_Same h41)<|pc (rn n18)<|pc (rn n19)<|pc (rn l12.length)<|pc (rn n20)<|pc (rn l14.length)<|pc (rn n21)<|pc (rn n22)<|pc (rn l17.length)<|pc (rn n34)<|pc (rn n35)<|pc (rn l28.length)<|pc (rn n36)<|pc (rn l30.length)<|pc (rn n37)<|pc (rn n38)<|pc (rn l33.length)<|pc h42<|pn)
  ·obtain ⟨h43, h⟩|⟨h43, h⟩ := ite_out h
   ·obtain rfl := oi h; exact rf Tryz.func4 none [.b r3, .f, .callm [] (.tup [.agg [.os 0 n18, .os 1 n19, .os 2 l12.length, .os 3 n20, .os 4 l14.length, .os 5 n21, .os 6 n22, .os 7 l17.length], .j v23]) [.arr 56 l10 n18 false, .arr 66 l11 n19 false, .w 93 l12, .arr 50 l13 n20 false, .w 95 l14, .arr 72 l15 n21 false, .arr 75 l16 n22 false, .w 99 l17], .callm [] (.tup [.agg [.os 0 n34, .os 1 n35, .os 2 l28.length, .os 3 n36, .os 4 l30.length, .os 5 n37, .os 6 n38, .os 7 l33.length], .j v39]) [.arr 56 l26 n34 false, .arr 66 l27 n35 false, .w 93 l28, .arr 50 l29 n36 false, .w 95 l30, .arr 72 l31 n37 false, .arr 75 l32 n38 false, .w 99 l33], .b r40, .f, .t] (pc (k_palinglaw16_Great h4)<|pc h5<|pc (k_overlay_Vtep h9)<|pc (k_palingref19_Vtep h25)<|pc (k_palingref15_Same h41)<|pc (rn n18)<|pc (rn n19)<|pc (rn l12.length)<|pc (rn n20)<|pc (rn l14.length)<|pc (rn n21)<|pc (rn n22)<|pc (rn l17.length)<|pc (rn n34)<|pc (rn n35)<|pc (rn l28.length)<|pc (rn n36)<|pc (rn l30.length)<|pc (rn n37)<|pc (rn n38)<|pc (rn l33.length)<|pc h42<|pc h43<|pn)
   ·obtain ⟨r44, h45, h⟩ := bo h
    obtain ⟨l46, l47, l48, l49, l50, l51, l52, l53, n54, n55, n56, n57, v58⟩ := r44
    obtain ⟨r59, h60, h⟩ := bo h
    obtain ⟨l61, l62, l63, l64, l65, l66, l67, l68, n69, n70, n71, n72, v73⟩ := r59
    obtain ⟨r74, h75, h⟩ := bo h
    obtain ⟨h76, h⟩|⟨h76, h⟩ := ite_out h
    ·obtain rfl := oi h; exact rf Tryz.func4 none [.b r3, .f, .callm [] (.tup [.agg [.os 0 n18, .os 1 n19, .os 2 l12.length, .os 3 n20, .os 4 l14.length, .os 5 n21, .os 6 n22, .os 7 l17.length], .j v23]) [.arr 56 l10 n18 false, .arr 66 l11 n19 false, .w 93 l12, .arr 50 l13 n20 false, .w 95 l14, .arr 72 l15 n21 false, .arr 75 l16 n22 false, .w 99 l17], .callm [] (.tup [.agg [.os 0 n34, .os 1 n35, .os 2 l28.length, .os 3 n36, .os 4 l30.length, .os 5 n37, .os 6 n38, .os 7 l33.length], .j v39]) [.arr 56 l26 n34 false, .arr 66 l27 n35 false, .w 93 l28, .arr 50 l29 n36 false, .w 95 l30, .arr 72 l31 n37 false, .arr 75 l32 n38 false, .w 99 l33], .b r40, .f, .f, .callm [] (.tup [.agg [.os 0 l46.length, .os 1 n54, .os 2 l48.length, .os 3 n55, .os 4 l50.length, .os 5 n56, .os 6 n57, .os 7 l53.length], .j v58]) [.w 56 l46, .arr 66 l47 n54 false, .w 93 l48, .arr 50 l49 n55 false, .w 95 l50, .arr 72 l51 n56 false, .arr 75 l52 n57 false, .w 99 l53], .callm [] (.tup [.agg [.os 0 l61.length, .os 1 n69, .os 2 l63.length, .os 3 n70, .os 4 l65.length, .os 5 n71, .os 6 n72, .os 7 l68.length], .j v73]) [.w 56 l61, .arr 66 l62 n69 false, .w 93 l63, .arr 50 l64 n70 false, .w 95 l65, .arr 72 l66 n71 false, .arr 75 l67 n72 false, .w 99 l68], .b r74, .t] (pc (k_palinglaw16_Great h4)<|pc h5<|pc (k_overlay_Vtep h9)<|pc (k_palingref19_Vtep h25)<|pc (k_palingref15_Same h41)<|pc (rn n18)<|pc (rn n19)<|pc (rn l12.length)<|pc (rn n20)<|pc (rn l14.length)<|pc (rn n21)<|pc (rn n22)<|pc (rn l17.length)<|pc (rn n34)<|pc (rn n35)<|pc (rn l28.length)<|pc (rn n36)<|pc (rn l30.length)<|pc (rn n37)<|pc (rn n38)<|pc (rn l33.length)<|pc h42<|pc h43<|pc (k_overlay_Vni h45)<|pc (k_palingref19_Vni h60)<|pc (k_palingref15_Same h75)<|pc (rn l46.length)<|pc (rn n54)<|pc (rn l48.length)<|pc (rn n55)<|pc (rn l50.length)<|pc (rn n56)<|pc (rn n57)<|pc (rn l53.length)<|pc (rn l61.length)<|pc (rn n69)<|pc (rn l63.length)<|pc (rn n70)<|pc (rn l65.length)<|pc (rn n71)<|pc (rn n72)<|pc (rn l68.length)<|pc h76<|pn)
    ·obtain ⟨h77, h⟩|⟨h77, h⟩ := ite_out h
     ·obtain rfl := oi h; exact rf Tryz.func4 none [.b r3, .f, .callm [] (.tup [.agg [.os 0 n18, .os 1 n19, .os 2 l12.length, .os 3 n20, .os 4 l14.length, .os 5 n21, .os 6 n22, .os 7 l17.length], .j v23]) [.arr 56 l10 n18 false, .arr 66 l11 n19 false, .w 93 l12, .arr 50 l13 n20 false, .w 95 l14, .arr 72 l15 n21 false, .arr 75 l16 n22 false, .w 99 l17], .callm [] (.tup [.agg [.os 0 n34, .os 1 n35, .os 2 l28.length, .os 3 n36, .os 4 l30.length, .os 5 n37, .os 6 n38, .os 7 l33.length], .j v39]) [.arr 56 l26 n34 false, .arr 66 l27 n35 false, .w 93 l28, .arr 50 l29 n36 false, .w 95 l30, .arr 72 l31 n37 false, .arr 75 l32 n38 false, .w 99 l33], .b r40, .f, .f, .callm [] (.tup [.agg [.os 0 l46.length, .os 1 n54, .os 2 l48.length, .os 3 n55, .os 4 l50.length, .os 5 n56, .os 6 n57, .os 7 l53.length], .j v58]) [.w 56 l46, .arr 66 l47 n54 false, .w 93 l48, .arr 50 l49 n55 false, .w 95 l50, .arr 72 l51 n56 false, .arr 75 l52 n57 false, .w 99 l53], .callm [] (.tup [.agg [.os 0 l61.length, .os 1 n69, .os 2 l63.length, .os 3 n70, .os 4 l65.length, .os 5 n71, .os 6 n72, .os 7 l68.length], .j v73]) [.w 56 l61, .arr 66 l62 n69 false, .w 93 l63, .arr 50 l64 n70 false, .w 95 l65, .arr 72 l66 n71 false, .arr 75 l67 n72 false, .w 99 l68], .b r74, .f, .t] (pc (k_palinglaw16_Great h4)<|pc h5<|pc (k_overlay_Vtep h9)<|pc (k_palingref19_Vtep h25)<|pc (k_palingref15_Same h41)<|pc (rn n18)<|pc (rn n19)<|pc (rn l12.length)<|pc (rn n20)<|pc (rn l14.length)<|pc (rn n21)<|pc (rn n22)<|pc (rn l17.length)<|pc (rn n34)<|pc (rn n35)<|pc (rn l28.length)<|pc (rn n36)<|pc (rn l30.length)<|pc (rn n37)<|pc (rn n38)<|pc (rn l33.length)<|pc h42<|pc h43<|pc (k_overlay_Vni h45)<|pc (k_palingref19_Vni h60)<|pc (k_palingref15_Same h75)<|pc (rn l46.length)<|pc (rn n54)<|pc (rn l48.length)<|pc (rn n55)<|pc (rn l50.length)<|pc (rn n56)<|pc (rn n57)<|pc (rn l53.length)<|pc (rn l61.length)<|pc (rn n69)<|pc (rn l63.length)<|pc (rn n70)<|pc (rn l65.length)<|pc (rn n71)<|pc (rn n72)<|pc (rn l68.length)<|pc h76<|pc h77<|pn)
     ·obtain ⟨r78, h79, h⟩ := bo h
      obtain ⟨l80, l81, l82, l83, l84, l85, l86, l87, n88, n89, n90, v91⟩ := r78
      obtain ⟨r92, h93, h⟩ := bo h
      obtain ⟨l94, l95, l96, l97, l98, l99, l100, l101, n102, n103, n104, v105⟩ := r92
      obtain ⟨r106, h107, h⟩ := bo h
      obtain ⟨h108, h⟩|⟨h108, h⟩ := ite_out h
      ·obtain ⟨h109, h⟩|⟨h109, h⟩ := ite_out h
       ·obtain ⟨r110, h111, h⟩ := bo h
        obtain rfl := oi h; exact rf Tryz.func4 none [.b r3, .f, .callm [] (.tup [.agg [.os 0 n18, .os 1 n19, .os 2 l12.length, .os 3 n20, .os 4 l14.length, .os 5 n21, .os 6 n22, .os 7 l17.length], .j v23]) [.arr 56 l10 n18 false, .arr 66 l11 n19 false, .w 93 l12, .arr 50 l13 n20 false, .w 95 l14, .arr 72 l15 n21 false, .arr 75 l16 n22 false, .w 99 l17], .callm [] (.tup [.agg [.os 0 n34, .os 1 n35, .os 2 l28.length, .os 3 n36, .os 4 l30.length, .os 5 n37, .os 6 n38, .os 7 l33.length], .j v39]) [.arr 56 l26 n34 false, .arr 66 l27 n35 false, .w 93 l28, .arr 50 l29 n36 false, .w 95 l30, .arr 72 l31 n37 false, .arr 75 l32 n38 false, .w 99 l33], .b r40, .f, .f, .callm [] (.tup [.agg [.os 0 l46.length, .os 1 n54, .os 2 l48.length, .os 3 n55, .os 4 l50.length, .os 5 n56, .os 6 n57, .os 7 l53.length], .j v58]) [.w 56 l46, .arr 66 l47 n54 false, .w 93 l48, .arr 50 l49 n55 false, .w 95 l50, .arr 72 l51 n56 false, .arr 75 l52 n57 false, .w 99 l53], .callm [] (.tup [.agg [.os 0 l61.length, .os 1 n69, .os 2 l63.length, .os 3 n70, .os 4 l65.length, .os 5 n71, .os 6 n72, .os 7 l68.length], .j v73]) [.w 56 l61, .arr 66 l62 n69 false, .w 93 l63, .arr 50 l64 n70 false, .w 95 l65, .arr 72 l66 n71 false, .arr 75 l67 n72 false, .w 99 l68], .b r74, .f, .f, .callm [] (.tup [.agg [.os 0 l80.length, .os 1 n88, .os 2 l82.length, .os 3 n89, .os 4 l84.length, .os 5 l85.length, .os 6 n90, .os 7 l87.length], .j v91]) [.w 56 l80, .arr 66 l81 n88 false, .w 93 l82, .arr 50 l83 n89 false, .w 95 l84, .w 72 l85, .arr 75 l86 n90 false, .w 99 l87], .callm [] (.tup [.agg [.os 0 l94.length, .os 1 n102, .os 2 l96.length, .os 3 n103, .os 4 l98.length, .os 5 l99.length, .os 6 n104, .os 7 l101.length], .j v105]) [.w 56 l94, .arr 66 l95 n102 false, .w 93 l96, .arr 50 l97 n103 false, .w 95 l98, .w 72 l99, .arr 75 l100 n104 false, .w 99 l101], .b r106, .t, .t, .b r110] (pc (k_palinglaw16_Great h4)<|pc h5<|pc (k_overlay_Vtep h9)<|pc (k_palingref19_Vtep h25)<|pc (k_palingref15_Same h41)<|pc (rn n18)<|pc (rn n19)<|pc (rn l12.length)<|pc (rn n20)<|pc (rn l14.length)<|pc (rn n21)<|pc (rn n22)<|pc (rn l17.length)<|pc (rn n34)<|pc (rn n35)<|pc (rn l28.length)<|pc (rn n36)<|pc (rn l30.length)<|pc (rn n37)<|pc (rn n38)<|pc (rn l33.length)<|pc h42<|pc h43<|pc (k_overlay_Vni h45)<|pc (k_palingref19_Vni h60)<|pc (k_palingref15_Same h75)<|pc (rn l46.length)<|pc (rn n54)<|pc (rn l48.length)<|pc (rn n55)<|pc (rn l50.length)<|pc (rn n56)<|pc (rn n57)<|pc (rn l53.length)<|pc (rn l61.length)<|pc (rn n69)<|pc (rn l63.length)<|pc (rn n70)<|pc (rn l65.length)<|pc (rn n71)<|pc (rn n72)<|pc (rn l68.length)<|pc h76<|pc h77<|pc (k_overlay_Flood h79)<|pc (k_palingref19_Flood h93)<|pc (k_palingref15_Same h107)<|pc (rn l80.length)<|pc (rn n88)<|pc (rn l82.length)<|pc (rn n89)<|pc (rn l84.length)<|pc (rn l85.length)<|pc (rn n90)<|pc (rn l87.length)<|pc (rn l94.length)<|pc (rn n102)<|pc (rn l96.length)<|pc (rn n103)<|pc (rn l98.length)<|pc (rn l99.length)<|pc (rn n104)<|pc (rn l101.length)<|pc h108<|pc h109<|pc (k_palinglaw19_works h111)<|pn)
       ·obtain rfl := oi h; exact rf Tryz.func4 none [.b r3, .f, .callm [] (.tup [.agg [.os 0 n18, .os 1 n19, .os 2 l12.length, .os 3 n20, .os 4 l14.length, .os 5 n21, .os 6 n22, .os 7 l17.length], .j v23]) [.arr 56 l10 n18 false, .arr 66 l11 n19 false, .w 93 l12, .arr 50 l13 n20 false, .w 95 l14, .arr 72 l15 n21 false, .arr 75 l16 n22 false, .w 99 l17], .callm [] (.tup [.agg [.os 0 n34, .os 1 n35, .os 2 l28.length, .os 3 n36, .os 4 l30.length, .os 5 n37, .os 6 n38, .os 7 l33.length], .j v39]) [.arr 56 l26 n34 false, .arr 66 l27 n35 false, .w 93 l28, .arr 50 l29 n36 false, .w 95 l30, .arr 72 l31 n37 false, .arr 75 l32 n38 false, .w 99 l33], .b r40, .f, .f, .callm [] (.tup [.agg [.os 0 l46.length, .os 1 n54, .os 2 l48.length, .os 3 n55, .os 4 l50.length, .os 5 n56, .os 6 n57, .os 7 l53.length], .j v58]) [.w 56 l46, .arr 66 l47 n54 false, .w 93 l48, .arr 50 l49 n55 false, .w 95 l50, .arr 72 l51 n56 false, .arr 75 l52 n57 false, .w 99 l53], .callm [] (.tup [.agg [.os 0 l61.length, .os 1 n69, .os 2 l63.length, .os 3 n70, .os 4 l65.length, .os 5 n71, .os 6 n72, .os 7 l68.length], .j v73]) [.w 56 l61, .arr 66 l62 n69 false, .w 93 l63, .arr 50 l64 n70 false, .w 95 l65, .arr 72 l66 n71 false, .arr 75 l67 n72 false, .w 99 l68], .b r74, .f, .f, .callm [] (.tup [.agg [.os 0 l80.length, .os 1 n88, .os 2 l82.length, .os 3 n89, .os 4 l84.length, .os 5 l85.length, .os 6 n90, .os 7 l87.length], .j v91]) [.w 56 l80, .arr 66 l81 n88 false, .w 93 l82, .arr 50 l83 n89 false, .w 95 l84, .w 72 l85, .arr 75 l86 n90 false, .w 99 l87], .callm [] (.tup [.agg [.os 0 l94.length, .os 1 n102, .os 2 l96.length, .os 3 n103, .os 4 l98.length, .os 5 l99.length, .os 6 n104, .os 7 l101.length], .j v105]) [.w 56 l94, .arr 66 l95 n102 false, .w 93 l96, .arr 50 l97 n103 false, .w 95 l98, .w 72 l99, .arr 75 l100 n104 false, .w 99 l101], .b r106, .t, .f] (pc (k_palinglaw16_Great h4)<|pc h5<|pc (k_overlay_Vtep h9)<|pc (k_palingref19_Vtep h25)<|pc (k_palingref15_Same h41)<|pc (rn n18)<|pc (rn n19)<|pc (rn l12.length)<|pc (rn n20)<|pc (rn l14.length)<|pc (rn n21)<|pc (rn n22)<|pc (rn l17.length)<|pc (rn n34)<|pc (rn n35)<|pc (rn l28.length)<|pc (rn n36)<|pc (rn l30.length)<|pc (rn n37)<|pc (rn n38)<|pc (rn l33.length)<|pc h42<|pc h43<|pc (k_overlay_Vni h45)<|pc (k_palingref19_Vni h60)<|pc (k_palingref15_Same h75)<|pc (rn l46.length)<|pc (rn n54)<|pc (rn l48.length)<|pc (rn n55)<|pc (rn l50.length)<|pc (rn n56)<|pc (rn n57)<|pc (rn l53.length)<|pc (rn l61.length)<|pc (rn n69)<|pc (rn l63.length)<|pc (rn n70)<|pc (rn l65.length)<|pc (rn n71)<|pc (rn n72)<|pc (rn l68.length)<|pc h76<|pc h77<|pc (k_overlay_Flood h79)<|pc (k_palingref19_Flood h93)<|pc (k_palingref15_Same h107)<|pc (rn l80.length)<|pc (rn n88)<|pc (rn l82.length)<|pc (rn n89)<|pc (rn l84.length)<|pc (rn l85.length)<|pc (rn n90)<|pc (rn l87.length)<|pc (rn l94.length)<|pc (rn n102)<|pc (rn l96.length)<|pc (rn n103)<|pc (rn l98.length)<|pc (rn l99.length)<|pc (rn n104)<|pc (rn l101.length)<|pc h108<|pc h109<|pn)
      ·obtain rfl := oi h; exact rf Tryz.func4 none [.b r3, .f, .callm [] (.tup [.agg [.os 0 n18, .os 1 n19, .os 2 l12.length, .os 3 n20, .os 4 l14.length, .os 5 n21, .os 6 n22, .os 7 l17.length], .j v23]) [.arr 56 l10 n18 false, .arr 66 l11 n19 false, .w 93 l12, .arr 50 l13 n20 false, .w 95 l14, .arr 72 l15 n21 false, .arr 75 l16 n22 false, .w 99 l17], .callm [] (.tup [.agg [.os 0 n34, .os 1 n35, .os 2 l28.length, .os 3 n36, .os 4 l30.length, .os 5 n37, .os 6 n38, .os 7 l33.length], .j v39]) [.arr 56 l26 n34 false, .arr 66 l27 n35 false, .w 93 l28, .arr 50 l29 n36 false, .w 95 l30, .arr 72 l31 n37 false, .arr 75 l32 n38 false, .w 99 l33], .b r40, .f, .f, .callm [] (.tup [.agg [.os 0 l46.length, .os 1 n54, .os 2 l48.length, .os 3 n55, .os 4 l50.length, .os 5 n56, .os 6 n57, .os 7 l53.length], .j v58]) [.w 56 l46, .arr 66 l47 n54 false, .w 93 l48, .arr 50 l49 n55 false, .w 95 l50, .arr 72 l51 n56 false, .arr 75 l52 n57 false, .w 99 l53], .callm [] (.tup [.agg [.os 0 l61.length, .os 1 n69, .os 2 l63.length, .os 3 n70, .os 4 l65.length, .os 5 n71, .os 6 n72, .os 7 l68.length], .j v73]) [.w 56 l61, .arr 66 l62 n69 false, .w 93 l63, .arr 50 l64 n70 false, .w 95 l65, .arr 72 l66 n71 false, .arr 75 l67 n72 false, .w 99 l68], .b r74, .f, .f, .callm [] (.tup [.agg [.os 0 l80.length, .os 1 n88, .os 2 l82.length, .os 3 n89, .os 4 l84.length, .os 5 l85.length, .os 6 n90, .os 7 l87.length], .j v91]) [.w 56 l80, .arr 66 l81 n88 false, .w 93 l82, .arr 50 l83 n89 false, .w 95 l84, .w 72 l85, .arr 75 l86 n90 false, .w 99 l87], .callm [] (.tup [.agg [.os 0 l94.length, .os 1 n102, .os 2 l96.length, .os 3 n103, .os 4 l98.length, .os 5 l99.length, .os 6 n104, .os 7 l101.length], .j v105]) [.w 56 l94, .arr 66 l95 n102 false, .w 93 l96, .arr 50 l97 n103 false, .w 95 l98, .w 72 l99, .arr 75 l100 n104 false, .w 99 l101], .b r106, .f] (pc (k_palinglaw16_Great h4)<|pc h5<|pc (k_overlay_Vtep h9)<|pc (k_palingref19_Vtep h25)<|pc (k_palingref15_Same h41)<|pc (rn n18)<|pc (rn n19)<|pc (rn l12.length)<|pc (rn n20)<|pc (rn l14.length)<|pc (rn n21)<|pc (rn n22)<|pc (rn l17.length)<|pc (rn n34)<|pc (rn n35)<|pc (rn l28.length)<|pc (rn n36)<|pc (rn l30.length)<|pc (rn n37)<|pc (rn n38)<|pc (rn l33.length)<|pc h42<|pc h43<|pc (k_overlay_Vni h45)<|pc (k_palingref19_Vni h60)<|pc (k_palingref15_Same h75)<|pc (rn l46.length)<|pc (rn n54)<|pc (rn l48.length)<|pc (rn n55)<|pc (rn l50.length)<|pc (rn n56)<|pc (rn n57)<|pc (rn l53.length)<|pc (rn l61.length)<|pc (rn n69)<|pc (rn l63.length)<|pc (rn n70)<|pc (rn l65.length)<|pc (rn n71)<|pc (rn n72)<|pc (rn l68.length)<|pc h76<|pc h77<|pc (k_overlay_Flood h79)<|pc (k_palingref19_Flood h93)<|pc (k_palingref15_Same h107)<|pc (rn l80.length)<|pc (rn n88)<|pc (rn l82.length)<|pc (rn n89)<|pc (rn l84.length)<|pc (rn l85.length)<|pc (rn n90)<|pc (rn l87.length)<|pc (rn l94.length)<|pc (rn n102)<|pc (rn l96.length)<|pc (rn n103)<|pc (rn l98.length)<|pc (rn l99.length)<|pc (rn n104)<|pc (rn l101.length)<|pc h108<|pn)

end Go.Eng
