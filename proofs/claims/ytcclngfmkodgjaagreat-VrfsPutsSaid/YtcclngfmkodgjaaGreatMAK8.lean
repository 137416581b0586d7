/- Part of the proof of VrfsPuts: printed mirrors of the functions, or their contracts. No conditions. -/
import Derived.Test.YtcclngfmkodgjaaGreatMAK7
set_option linter.unusedVariables false
set_option maxRecDepth 100000
namespace Go.Eng
open Go Go.Proofs
theorem k_palingref15_rest_L1 {a1 : Api_Net} : LoopOK Tryz.prog UU 0 192 (subC (codeOf Tryz.f70) [1, 0, 1, 0, 0]) (ρ := Unit ⊕ Unit) (palingref15_rest_L1 a1)
  (fun v2 : Int => ([(1, .o 0), (2, .y false), (3, .j v2)] : Fr DD)) (fun v2 : Int => ([.box 31 (c31 a1) false] : Heap DD)) (fun r => match r with | Sum.inl _ => .ret | Sum.inr _ => .exit 0) (fun r => match r with | Sum.inl _ => [(2, .y false)] | Sum.inr _ => [(1, .o 0), (2, .y false)]) (fun r => match r with | Sum.inl _ => [] | Sum.inr _ => [.box 31 (c31 a1) false]) := by
 refine loop_sound3 (fun s q h => ?_) (fun r => ?_)
 ·replace h : palingref15_rest_L1 a1 s = some q := h; revert h; revert s; intro v2 h
  unfold palingref15_rest_L1 at h
  obtain ⟨h3, h⟩|⟨h3, h⟩ := ite_out h
  ·obtain ⟨x4, h5, h⟩ := bo h
   obtain ⟨r6, h7, h⟩ := bo h
   obtain ⟨h8, h⟩|⟨h8, h⟩ := ite_out h
   ·obtain rfl := oi h; exact rl [2] [] [.t, .row (c178 x4), .b r6, .t] (pc h3<|pc (ob178 h5)<|pc (k_palingref15_Place h7)<|pc h8<|pn)
   ·obtain ⟨r9, h10, h⟩ := bo h
    obtain ⟨h11, h⟩|⟨h11, h⟩ := ite_out h
    ·obtain rfl := oi h; exact rl [2] [] [.t, .row (c178 x4), .b r6, .f, .b r9, .t] (pc h3<|pc (ob178 h5)<|pc (k_palingref15_Place h7)<|pc h8<|pc (k_palingref15_Place h10)<|pc h11<|pn)
    ·obtain ⟨x12, h13, h⟩ := bo h
     obtain ⟨x14, h15, h⟩ := bo h
     obtain ⟨h16, h⟩|⟨h16, h⟩ := ite_out h
     ·obtain rfl := oi h; exact rl [2] [] [.t, .row (c178 x4), .b r6, .f, .b r9, .f, .row (c90 x12), .row (c110 x14), .t] (pc h3<|pc (ob178 h5)<|pc (k_palingref15_Place h7)<|pc h8<|pc (k_palingref15_Place h10)<|pc h11<|pc (ob90 h13)<|pc (ob110 h15)<|pc h16<|pn)
     ·obtain ⟨x17, h18, h⟩ := bo h
      obtain ⟨r19, h20, h⟩ := bo h
      obtain ⟨h21, h⟩|⟨h21, h⟩ := ite_out h
      ·obtain rfl := oi h; exact rl [2] [] [.t, .row (c178 x4), .b r6, .f, .b r9, .f, .row (c90 x12), .row (c110 x14), .f, .row (c110 x17), .b r19, .t] (pc h3<|pc (ob178 h5)<|pc (k_palingref15_Place h7)<|pc h8<|pc (k_palingref15_Place h10)<|pc h11<|pc (ob90 h13)<|pc (ob110 h15)<|pc h16<|pc (ob110 h18)<|pc (k_palingref15_Member h20)<|pc h21<|pn)
      ·obtain rfl := oi h; exact rl [1, 2, 3] [0] [.t, .row (c178 x4), .b r6, .f, .b r9, .f, .row (c90 x12), .row (c110 x14), .f, .row (c110 x17), .b r19, .f] (pc h3<|pc (ob178 h5)<|pc (k_palingref15_Place h7)<|pc h8<|pc (k_palingref15_Place h10)<|pc h11<|pc (ob90 h13)<|pc (ob110 h15)<|pc h16<|pc (ob110 h18)<|pc (k_palingref15_Member h20)<|pc h21<|pn)
  ·obtain rfl := oi h; exact rl [1, 2] [0] [.f] (pc h3<|pn)
 ·rcases r with _ | _ <;> exact Ex.noConfusion

theorem k_palingref15_rest_L2 {a1 : Api_Net} : LoopOK Tryz.prog UU 0 192 (subC (codeOf Tryz.f70) [1, 1, 0, 1, 0, 0]) (ρ := Unit ⊕ Unit) (palingref15_rest_L2 a1)
  (fun v24 : Int => ([(1, .o 0), (2, .y false), (6, .j v24)] : Fr DD)) (fun v24 : Int => ([.box 31 (c31 a1) false] : Heap DD)) (fun r => match r with | Sum.inl _ => .ret | Sum.inr _ => .exit 2) (fun r => match r with | Sum.inl _ => [(2, .y false)] | Sum.inr _ => [(1, .o 0), (2, .y false)]) (fun r => match r with | Sum.inl _ => [] | Sum.inr _ => [.box 31 (c31 a1) false]) := by
 refine loop_sound3 (fun s q h => ?_) (fun r => ?_)
 ·replace h : palingref15_rest_L2 a1 s = some q := h; revert h; revert s; intro v24 h
  unfold palingref15_rest_L2 at h
  obtain ⟨h25, h⟩|⟨h25, h⟩ := ite_out h
  ·obtain ⟨x26, h27, h⟩ := bo h
   obtain ⟨r28, h29, h⟩ := bo h
   obtain ⟨h30, h⟩|⟨h30, h⟩ := ite_out h
   ·obtain rfl := oi h; exact rl [2] [] [.t, .row (c113 x26), .b r28, .t] (pc h25<|pc (ob113 h27)<|pc (k_palingref15_Place h29)<|pc h30<|pn)
   ·obtain ⟨x31, h32, h⟩ := bo h
    obtain ⟨h33, h⟩|⟨h33, h⟩ := ite_out h
    ·obtain rfl := oi h; exact rl [2] [] [.t, .row (c113 x26), .b r28, .f, .row (c113 x31), .t] (pc h25<|pc (ob113 h27)<|pc (k_palingref15_Place h29)<|pc h30<|pc (ob113 h32)<|pc h33<|pn)
    ·obtain rfl := oi h; exact rl [1, 2, 6] [0] [.t, .row (c113 x26), .b r28, .f, .row (c113 x31), .f] (pc h25<|pc (ob113 h27)<|pc (k_palingref15_Place h29)<|pc h30<|pc (ob113 h32)<|pc h33<|pn)
  ·obtain rfl := oi h; exact rl [1, 2] [0] [.f] (pc h25<|pn)
 ·rcases r with _ | _ <;> exact Ex.noConfusion

theorem k_palingref15_rest_L3 {a1 : Api_Net} : LoopOK Tryz.prog UU 0 192 (subC (codeOf Tryz.f70) [1, 1, 1, 0, 1, 0, 0]) (ρ := Unit ⊕ Unit) (palingref15_rest_L3 a1)
  (fun v36 : Int => ([(1, .o 0), (2, .y false), (7, .j v36)] : Fr DD)) (fun v36 : Int => ([.box 31 (c31 a1) false] : Heap DD)) (fun r => match r with | Sum.inl _ => .ret | Sum.inr _ => .exit 4) (fun r => match r with | Sum.inl _ => [(2, .y false)] | Sum.inr _ => [(1, .o 0), (2, .y false)]) (fun r => match r with | Sum.inl _ => [] | Sum.inr _ => [.box 31 (c31 a1) false]) := by
 refine loop_sound3 (fun s q h => ?_) (fun r => ?_)
 ·replace h : palingref15_rest_L3 a1 s = some q := h; revert h; revert s; intro v36 h
  unfold palingref15_rest_L3 at h
  obtain ⟨h37, h⟩|⟨h37, h⟩ := ite_out h
  ·obtain ⟨x38, h39, h⟩ := bo h
   obtain ⟨r40, h41, h⟩ := bo h
   obtain ⟨h42, h⟩|⟨h42, h⟩ := ite_out h
   ·obtain rfl := oi h; exact rl [2] [] [.t, .row (c88 x38), .b r40, .t] (pc h37<|pc (ob88 h39)<|pc (k_palingref15_Place h41)<|pc h42<|pn)
   ·obtain ⟨r43, h44, h⟩ := bo h
    obtain ⟨h45, h⟩|⟨h45, h⟩ := ite_out h
    ·obtain rfl := oi h; exact rl [2] [] [.t, .row (c88 x38), .b r40, .f, .b r43, .t] (pc h37<|pc (ob88 h39)<|pc (k_palingref15_Place h41)<|pc h42<|pc (k_palingref15_rising h44)<|pc h45<|pn)
    ·obtain ⟨r46, h47, h⟩ := bo h
     obtain ⟨h48, h⟩|⟨h48, h⟩ := ite_out h
     ·obtain rfl := oi h; exact rl [2] [] [.t, .row (c88 x38), .b r40, .f, .b r43, .f, .b r46, .t] (pc h37<|pc (ob88 h39)<|pc (k_palingref15_Place h41)<|pc h42<|pc (k_palingref15_rising h44)<|pc h45<|pc (k_palingref15_rising h47)<|pc h48<|pn)
     ·obtain rfl := oi h; exact rl [1, 2, 7] [0] [.t, .row (c88 x38), .b r40, .f, .b r43, .f, .b r46, .f] (pc h37<|pc (ob88 h39)<|pc (k_palingref15_Place h41)<|pc h42<|pc (k_palingref15_rising h44)<|pc h45<|pc (k_palingref15_rising h47)<|pc h48<|pn)
  ·obtain rfl := oi h; exact rl [1, 2] [0] [.f] (pc h37<|pn)
 ·rcases r with _ | _ <;> exact Ex.noConfusion

theorem k_palingref15_rest_L4 {a1 : Api_Net} : LoopOK Tryz.prog UU 0 192 (subC (codeOf Tryz.f70) [1, 1, 1, 1, 0, 1, 0, 0]) (ρ := Unit ⊕ Unit) (palingref15_rest_L4 a1)
  (fun v51 : Int => ([(1, .o 0), (2, .y false), (9, .j v51)] : Fr DD)) (fun v51 : Int => ([.box 31 (c31 a1) false] : Heap DD)) (fun r => match r with | Sum.inl _ => .ret | Sum.inr _ => .exit 6) (fun r => match r with | Sum.inl _ => [(2, .y false)] | Sum.inr _ => [(2, .y false)]) (fun r => match r with | Sum.inl _ => [] | Sum.inr _ => []) := by
 refine loop_sound3 (fun s q h => ?_) (fun r => ?_)
 ·replace h : palingref15_rest_L4 a1 s = some q := h; revert h; revert s; intro v51 h
  unfold palingref15_rest_L4 at h
  obtain ⟨h52, h⟩|⟨h52, h⟩ := ite_out h
  ·obtain ⟨x53, h54, h⟩ := bo h
   obtain ⟨r55, h56, h⟩ := bo h
   obtain ⟨h57, h⟩|⟨h57, h⟩ := ite_out h
   ·obtain rfl := oi h; exact rl [2] [] [.t, .row (c105 x53), .b r55, .t] (pc h52<|pc (ob105 h54)<|pc (k_palingref15_Place h56)<|pc h57<|pn)
   ·obtain ⟨r58, h59, h⟩ := bo h
    obtain ⟨h60, h⟩|⟨h60, h⟩ := ite_out h
    ·obtain rfl := oi h; exact rl [2] [] [.t, .row (c105 x53), .b r55, .f, .b r58, .t] (pc h52<|pc (ob105 h54)<|pc (k_palingref15_Place h56)<|pc h57<|pc (k_palingref15_Place h59)<|pc h60<|pn)
    ·obtain ⟨h61, h⟩|⟨h61, h⟩ := ite_out h
     ·obtain rfl := oi h; exact rl [2] [] [.t, .row (c105 x53), .b r55, .f, .b r58, .f, .t] (pc h52<|pc (ob105 h54)<|pc (k_palingref15_Place h56)<|pc h57<|pc (k_palingref15_Place h59)<|pc h60<|pc h61<|pn)
     ·obtain ⟨h62, h⟩|⟨h62, h⟩ := ite_out h
      ·obtain rfl := oi h; exact rl [2] [] [.t, .row (c105 x53), .b r55, .f, .b r58, .f, .f, .t] (pc h52<|pc (ob105 h54)<|pc (k_palingref15_Place h56)<|pc h57<|pc (k_palingref15_Place h59)<|pc h60<|pc h61<|pc h62<|pn)
      ·obtain ⟨x63, h64, h⟩ := bo h
       obtain ⟨x65, h66, h⟩ := bo h
       obtain ⟨h67, h⟩|⟨h67, h⟩ := ite_out h
       ·obtain rfl := oi h; exact rl [2] [] [.t, .row (c105 x53), .b r55, .f, .b r58, .f, .f, .f, .row (c90 x63), .row (c88 x65), .t] (pc h52<|pc (ob105 h54)<|pc (k_palingref15_Place h56)<|pc h57<|pc (k_palingref15_Place h59)<|pc h60<|pc h61<|pc h62<|pc (ob90 h64)<|pc (ob88 h66)<|pc h67<|pn)
       ·obtain ⟨x68, h69, h⟩ := bo h
        obtain ⟨h70, h⟩|⟨h70, h⟩ := ite_out h
        ·obtain rfl := oi h; exact rl [2] [] [.t, .row (c105 x53), .b r55, .f, .b r58, .f, .f, .f, .row (c90 x63), .row (c88 x65), .f, .row (c90 x68), .t] (pc h52<|pc (ob105 h54)<|pc (k_palingref15_Place h56)<|pc h57<|pc (k_palingref15_Place h59)<|pc h60<|pc h61<|pc h62<|pc (ob90 h64)<|pc (ob88 h66)<|pc h67<|pc (ob90 h69)<|pc h70<|pn)
        ·obtain rfl := oi h; exact rl [1, 2, 9] [0] [.t, .row (c105 x53), .b r55, .f, .b r58, .f, .f, .f, .row (c90 x63), .row (c88 x65), .f, .row (c90 x68), .f] (pc h52<|pc (ob105 h54)<|pc (k_palingref15_Place h56)<|pc h57<|pc (k_palingref15_Place h59)<|pc h60<|pc h61<|pc h62<|pc (ob90 h64)<|pc (ob88 h66)<|pc h67<|pc (ob90 h69)<|pc h70<|pn)
  ·obtain rfl := oi h; exact rl [2] [] [.f] (pc h52<|pn)
 ·rcases r with _ | _ <;> exact Ex.noConfusion

theorem k_palingref15_rest {a1 : Api_Net} {r : Bool} (h : palingref15_rest a1 = some r) :
  CallsOK Tryz.prog UU 70 [.agg (c31 a1)] [] (.y r) [] := by
 unfold palingref15_rest at h
 obtain ⟨r23, h22, h⟩ := bo h
 rcases r23 with _ | _
 ·obtain rfl := oi h; exact rf Tryz.func70 none [.sum [1, 2, 3] [0] .ret [(2, .y false)] []] (pc (k_palingref15_rest_L1 _ _ h22)<|pn)
 ·obtain ⟨r35, h34, h⟩ := bo h
  rcases r35 with _ | _
  ·obtain rfl := oi h; exact rf Tryz.func70 none [.sum [1, 2, 3] [0] (.exit 0) [(1, .o 0), (2, .y false)] [.box 31 (c31 a1) false], .sum [1, 2, 6] [0] .ret [(2, .y false)] []] (pc (k_palingref15_rest_L1 _ _ h22)<|pc (k_palingref15_rest_L2 _ _ h34)<|pn)
  ·obtain ⟨r50, h49, h⟩ := bo h
   rcases r50 with _ | _
   ·obtain rfl := oi h; exact rf Tryz.func70 none [.sum [1, 2, 3] [0] (.exit 0) [(1, .o 0), (2, .y false)] [.box 31 (c31 a1) false], .sum [1, 2, 6] [0] (.exit 2) [(1, .o 0), (2, .y false)] [.box 31 (c31 a1) false], .sum [1, 2, 7] [0] .ret [(2, .y false)] []] (pc (k_palingref15_rest_L1 _ _ h22)<|pc (k_palingref15_rest_L2 _ _ h34)<|pc (k_palingref15_rest_L3 _ _ h49)<|pn)
   ·obtain ⟨r72, h71, h⟩ := bo h
    rcases r72 with _ | _
    ·obtain rfl := oi h; exact rf Tryz.func70 none [.sum [1, 2, 3] [0] (.exit 0) [(1, .o 0), (2, .y false)] [.box 31 (c31 a1) false], .sum [1, 2, 6] [0] (.exit 2) [(1, .o 0), (2, .y false)] [.box 31 (c31 a1) false], .sum [1, 2, 7] [0] (.exit 4) [(1, .o 0), (2, .y false)] [.box 31 (c31 a1) false], .sum [1, 2, 9] [0] .ret [(2, .y false)] []] (pc (k_palingref15_rest_L1 _ _ h22)<|pc (k_palingref15_rest_L2 _ _ h34)<|pc (k_palingref15_rest_L3 _ _ h49)<|pc (k_palingref15_rest_L4 _ _ h71)<|pn)
    ·obtain rfl := oi h; exact rf Tryz.func70 none [.sum [1, 2, 3] [0] (.exit 0) [(1, .o 0), (2, .y false)] [.box 31 (c31 a1) false], .sum [1, 2, 6] [0] (.exit 2) [(1, .o 0), (2, .y false)] [.box 31 (c31 a1) false], .sum [1, 2, 7] [0] (.exit 4) [(1, .o 0), (2, .y false)] [.box 31 (c31 a1) false], .sum [1, 2, 9] [0] (.exit 6) [(2, .y false)] []] (pc (k_palingref15_rest_L1 _ _ h22)<|pc (k_palingref15_rest_L2 _ _ h34)<|pc (k_palingref15_rest_L3 _ _ h49)<|pc (k_palingref15_rest_L4 _ _ h71)<|pn)

theorem k_palingref15_Right {a1 : Api_Net} {r : Bool} (h : palingref15_Right a1 = some r) :
  CallsOK Tryz.prog UU 19 [.agg (c31 a1)] [] (.y r) [] := by
 unfold palingref15_Right at h
 obtain ⟨h2, h⟩|⟨h2, h⟩ := ite_out h
 ·obtain rfl := oi h; exact rf Tryz.func19 none [.t] (pc h2<|pn)
 ·obtain ⟨h3, h⟩|⟨h3, h⟩ := ite_out h
  ·obtain rfl := oi h; exact rf Tryz.func19 none [.f, .t] (pc h2<|pc h3<|pn)
  ·obtain ⟨h4, h⟩|⟨h4, h⟩ := ite_out h
   ·obtain rfl := oi h; exact rf Tryz.func19 none [.f, .f, .t] (pc h2<|pc h3<|pc h4<|pn)
   ·obtain ⟨h5, h⟩|⟨h5, h⟩ := ite_out h
    ·obtain rfl := oi h; exact rf Tryz.func19 none [.f, .f, .f, .t] (pc h2<|pc h3<|pc h4<|pc h5<|pn)
    ·obtain ⟨h6, h⟩|⟨h6, h⟩ := ite_out h
     ·obtain rfl := oi h; exact rf Tryz.func19 none [.f, .f, .f, .f, .t] (pc h2<|pc h3<|pc h4<|pc h5<|pc h6<|pn)
     ·obtain ⟨h7, h⟩|⟨h7, h⟩ := ite_out h
      ·obtain rfl := oi h; exact rf Tryz.func19 none [.f, .f, .f, .f, .f, .t] (pc h2<|pc h3<|pc h4<|pc h5<|pc h6<|pc h7<|pn)
      ·obtain ⟨h8, h⟩|⟨h8, h⟩ := ite_out h
       ·obtain rfl := oi h; exact rf Tryz.func19 none [.f, .f, .f, .f, .f, .f, .t] (pc h2<|pc h3<|pc h4<|pc h5<|pc h6<|pc h7<|pc h8<|pn)
       ·obtain ⟨h9, h⟩|⟨h9, h⟩ := ite_out h
        ·obtain rfl := oi h; exact rf Tryz.func19 none [.f, .f, .f, .f, .f, .f, .f, .t] (pc h2<|pc h3<|pc h4<|pc h5<|pc h6<|pc h7<|pc h8<|pc h9<|pn)
        ·obtain ⟨r10, h11, h⟩ := bo h
         obtain ⟨h12, h⟩|⟨h12, h⟩ := ite_out h
         ·obtain ⟨r13, h14, h⟩ := bo h
          obtain ⟨h15, h⟩|⟨h15, h⟩ := ite_out h
          ·obtain ⟨r16, h17, h⟩ := bo h
           obtain ⟨h18, h⟩|⟨h18, h⟩ := ite_out h
           ·obtain ⟨r19, h20, h⟩ := bo h
            obtain rfl := oi h; exact rf Tryz.func19 none [.f, .f, .f, .f, .f, .f, .f, .f, .b r10, .t, .b r13, .t, .b r16, .t, .b r19] (pc h2<|pc h3<|pc h4<|pc h5<|pc h6<|pc h7<|pc h8<|pc h9<|pc (k_palingref15_domains h11)<|pc h12<|pc (k_palingref15_ports h14)<|pc h15<|pc (k_palingref15_links h17)<|pc h18<|pc (k_palingref15_rest h20)<|pn)
           ·obtain rfl := oi h; exact rf Tryz.func19 none [.f, .f, .f, .f, .f, .f, .f, .f, .b r10, .t, .b r13, .t, .b r16, .f] (pc h2<|pc h3<|pc h4<|pc h5<|pc h6<|pc h7<|pc h8<|pc h9<|pc (k_palingref15_domains h11)<|pc h12<|pc (k_palingref15_ports h14)<|pc h15<|pc (k_palingref15_links h17)<|pc h18<|pn)
          ·obtain rfl := oi h; exact rf Tryz.func19 none [.f, .f, .f, .f, .f, .f, .f, .f, .b r10, .t, .b r13, .f] (pc h2<|pc h3<|pc h4<|pc h5<|pc h6<|pc h7<|pc h8<|pc h9<|pc (k_palingref15_domains h11)<|pc h12<|pc (k_palingref15_ports h14)<|pc h15<|pn)
         ·obtain rfl := oi h; exact rf Tryz.func19 none [.f, .f, .f, .f, .f, .f, .f, .f, .b r10, .f] (pc h2<|pc h3<|pc h4<|pc h5<|pc h6<|pc h7<|pc h8<|pc h9<|pc (k_palingref15_domains h11)<|pc h12<|pn)

theorem k_palingref16_Fits {a1 : Api_Net} {a2 : Api_Line} {a3 : Int} {r : Bool} (h : palingref16_Fits a1 a2 a3 = some r) :
  CallsOK Tryz.prog UU 45 [.agg (c31 a1), .agg (c37 a2), .j a3] [] (.y r) [] := by
 unfold palingref16_Fits at h
 obtain ⟨h4, h⟩|⟨h4, h⟩ := ite_out h
 ·obtain ⟨r5, h6, h⟩ := bo h
  obtain ⟨h7, h⟩|⟨h7, h⟩ := ite_out h
  ·obtain ⟨r8, h9, h⟩ := bo h
   obtain rfl := oi h; exact rf Tryz.func45 none [.t, .b r5, .t, .b r8] (pc h4<|pc (k_palingref11_Right h6)<|pc h7<|pc (k_palingref15_Right h9)<|pn)
  ·obtain rfl := oi h; exact rf Tryz.func45 none [.t, .b r5, .f] (pc h4<|pc (k_palingref11_Right h6)<|pc h7<|pn)
 ·obtain rfl := oi h; exact rf Tryz.func45 none [.f] (pc h4<|pn)

theorem k_palingref15_Device_L1 {a1 : Api_Net} {a2 : ByteArray} : LoopOK Tryz.prog UU 0 22 (subC (codeOf Tryz.f46) [1, 0, 1, 0, 0]) (ρ := Int ⊕ Unit) (palingref15_Device_L1 a1 a2)
  (fun v3 : Int => ([(1, .x a2), (2, .o 0), (4, .z), (5, .j v3)] : Fr DD)) (fun v3 : Int => ([.box 31 (c31 a1) false] : Heap DD)) (fun r => match r with | Sum.inl v9 => .ret | Sum.inr _ => .exit 0) (fun r => match r with | Sum.inl v9 => [(4, .j v9)] | Sum.inr _ => [(4, .z)]) (fun r => match r with | Sum.inl v9 => [] | Sum.inr _ => []) := by
 refine loop_sound3 (fun s q h => ?_) (fun r => ?_)
 ·replace h : palingref15_Device_L1 a1 a2 s = some q := h; revert h; revert s; intro v3 h
  unfold palingref15_Device_L1 at h
  obtain ⟨h4, h⟩|⟨h4, h⟩ := ite_out h
  ·obtain ⟨x5, h6, h⟩ := bo h
   obtain ⟨h7, h⟩|⟨h7, h⟩ := ite_out h
   ·obtain rfl := oi h; exact rl [4] [] [.t, .row (c56 x5), .t] (pc h4<|pc (ob56 h6)<|pc h7<|pn)
   ·obtain rfl := oi h; exact rl [1, 2, 4, 5] [0] [.t, .row (c56 x5), .f] (pc h4<|pc (ob56 h6)<|pc h7<|pn)
  ·obtain rfl := oi h; exact rl [4] [] [.f] (pc h4<|pn)
 ·rcases r with _ | _ <;> exact Ex.noConfusion

theorem k_palingref15_Device {a1 : Api_Net} {a2 : ByteArray} {r : Int} (h : palingref15_Device a1 a2 = some r) :
  CallsOK Tryz.prog UU 46 [.agg (c31 a1), .x a2] [] (.j r) [] := by
 unfold palingref15_Device at h
 obtain ⟨r11, h10, h⟩ := bo h
 rcases r11 with v9 | _
 ·obtain rfl := oi h; exact rf Tryz.func46 none [.sum [1, 2, 4, 5] [0] .ret [(4, .j v9)] []] (pc (k_palingref15_Device_L1 _ _ h10)<|pn)
 ·obtain rfl := oi h; exact rf Tryz.func46 none [.sum [1, 2, 4, 5] [0] (.exit 0) [(4, .z)] []] (pc (k_palingref15_Device_L1 _ _ h10)<|pn)

theorem k_palingref15_Vrf_L1 {a1 : Api_Net} {a2 : Int} {a3 : ByteArray} : LoopOK Tryz.prog UU 0 34 (subC (codeOf Tryz.f47) [1, 0, 1, 0, 0]) (ρ := Int ⊕ Unit) (palingref15_Vrf_L1 a1 a2 a3)
  (fun v4 : Int => ([(1, .j a2), (2, .x a3), (3, .o 0), (6, .z), (7, .j v4)] : Fr DD)) (fun v4 : Int => ([.box 31 (c31 a1) false] : Heap DD)) (fun r => match r with | Sum.inl v13 => .ret | Sum.inr _ => .exit 0) (fun r => match r with | Sum.inl v13 => [(6, .j v13)] | Sum.inr _ => [(6, .z)]) (fun r => match r with | Sum.inl v13 => [] | Sum.inr _ => []) := by
 refine loop_sound3 (fun s q h => ?_) (fun r => ?_)
 ·replace h : palingref15_Vrf_L1 a1 a2 a3 s = some q := h; revert h; revert s; intro v4 h
  unfold palingref15_Vrf_L1 at h
  obtain ⟨h5, h⟩|⟨h5, h⟩ := ite_out h
  ·obtain ⟨x6, h7, h⟩ := bo h
   obtain ⟨h8, h⟩|⟨h8, h⟩ := ite_out h
   ·obtain ⟨x9, h10, h⟩ := bo h
    obtain ⟨h11, h⟩|⟨h11, h⟩ := ite_out h
    ·obtain rfl := oi h; exact rl [6] [] [.t, .row (c88 x6), .t, .row (c88 x9), .t] (pc h5<|pc (ob88 h7)<|pc h8<|pc (ob88 h10)<|pc h11<|pn)
    ·obtain rfl := oi h; exact rl [1, 2, 3, 6, 7] [0] [.t, .row (c88 x6), .t, .row (c88 x9), .f] (pc h5<|pc (ob88 h7)<|pc h8<|pc (ob88 h10)<|pc h11<|pn)
   ·obtain rfl := oi h; exact rl [1, 2, 3, 6, 7] [0] [.t, .row (c88 x6), .f] (pc h5<|pc (ob88 h7)<|pc h8<|pn)
  ·obtain rfl := oi h; exact rl [6] [] [.f] (pc h5<|pn)
 ·rcases r with _ | _ <;> exact Ex.noConfusion

theorem k_palingref15_Vrf {a1 : Api_Net} {a2 : Int} {a3 : ByteArray} {r : Int} (h : palingref15_Vrf a1 a2 a3 = some r) :
  CallsOK Tryz.prog UU 47 [.agg (c31 a1), .j a2, .x a3] [] (.j r) [] := by
 unfold palingref15_Vrf at h
 obtain ⟨r15, h14, h⟩ := bo h
 rcases r15 with v13 | _
 ·obtain rfl := oi h; exact rf Tryz.func47 none [.sum [1, 2, 3, 6, 7] [0] .ret [(6, .j v13)] []] (pc (k_palingref15_Vrf_L1 _ _ h14)<|pn)
 ·obtain rfl := oi h; exact rf Tryz.func47 none [.sum [1, 2, 3, 6, 7] [0] (.exit 0) [(6, .z)] []] (pc (k_palingref15_Vrf_L1 _ _ h14)<|pn)

def b0_k_palingref15_Copy_L1 (a1 : Api_Net) : AObj DD := .box 31 [.os 10 a1.devices.length, .os 11 a1.ports.length, .os 12 a1.links.length, .os 13 a1.domains.length, .os 14 a1.statics.length, .os 15 a1.floods.length, .os 16 a1.vrfs.length, .os 17 a1.irbs.length] false
def b1_k_palingref15_Copy_L1 : AObj DD := .box 31 [.os 1 0, .os 2 0, .os 3 0, .os 4 0, .os 5 0, .os 6 0, .os 7 0, .os 8 0] false
theorem k_palingref15_Copy_L1 {a1 : Api_Net} : LoopOK Tryz.prog UU 0 142 (subC (codeOf Tryz.f48) [1, 1, 1, 1, 1, 1, 1, 1, 1, 1, 0, 1, 0, 0]) (fun s : (List Api_Port) × Int => match s with | (l10, v11) => palingref15_Copy_L1 a1 l10 v11)
  (fun s : (List Api_Port) × Int => (match s with | (l10, v11) => [(2, .o 0), (3, .o 9), (4, .j v11)] : Fr DD)) (fun s : (List Api_Port) × Int => (match s with | (l10, v11) => [b1_k_palingref15_Copy_L1, .n 56, .n 110, .n 174, .n 90, .n 178, .n 113, .n 88, .n 105, (b0_k_palingref15_Copy_L1 a1), .w 56 a1.devices, .arr 110 l10 a1.ports.length false, .w 174 a1.links, .w 90 a1.domains, .w 178 a1.statics, .w 113 a1.floods, .w 88 a1.vrfs, .w 105 a1.irbs] : Heap DD)) (fun r => match r with | l21 => .exit 0) (fun r => match r with | l21 => [(2, .o 0), (3, .o 9)]) (fun r => match r with | l21 => [b1_k_palingref15_Copy_L1, .n 56, .n 110, .n 174, .n 90, .n 178, .n 113, .n 88, .n 105, (b0_k_palingref15_Copy_L1 a1), .w 56 a1.devices, .arr 110 l21 a1.ports.length false, .w 174 a1.links, .w 90 a1.domains, .w 178 a1.statics, .w 113 a1.floods, .w 88 a1.vrfs, .w 105 a1.irbs]) := by
 refine loop_sound3 (fun s q h => ?_) (fun r => ?_)
 ·obtain ⟨l10, v11⟩ := s; replace h : palingref15_Copy_L1 a1 l10 v11 = some q := h
  unfold palingref15_Copy_L1 at h
  obtain ⟨h12, h⟩|⟨h12, h⟩ := ite_out h
  ·obtain ⟨h13, h⟩|⟨h13, h⟩ := ite_out h
   ·obtain ⟨x14, h15, h⟩ := bo h
    obtain ⟨h16, h⟩|⟨h16, h⟩ := ite_out h
    ·obtain ⟨x17, h18, h⟩ := bo h
     obtain rfl := oi h; exact rl [2, 3, 4] [0, 1, 2, 3, 4, 5, 6, 7, 8, 9, 10, 11, 12, 13, 14, 15, 16, 17] [.t, .sum [3] [] .nor [] [b1_k_palingref15_Copy_L1, .n 56, .n 110, .n 174, .n 90, .n 178, .n 113, .n 88, .n 105, (b0_k_palingref15_Copy_L1 a1), .w 56 a1.devices, .arr 110 l10 a1.ports.length false, .w 174 a1.links, .w 90 a1.domains, .w 178 a1.statics, .w 113 a1.floods, .w 88 a1.vrfs, .w 105 a1.irbs, .n 3], .sum [10] [] .nor [] [b1_k_palingref15_Copy_L1, .n 56, .n 110, .n 174, .n 90, .n 178, .n 113, .n 88, .n 105, (b0_k_palingref15_Copy_L1 a1), .w 56 a1.devices, .arr 110 l10 a1.ports.length false, .w 174 a1.links, .w 90 a1.domains, .w 178 a1.statics, .w 113 a1.floods, .w 88 a1.vrfs, .w 105 a1.irbs, .w 3 x14.tagged], .obj [] (.n 3), .row (c110 x14), .obj [] (.w 3 (x14.tagged)), .row (c110 x17), .obj [18] (.arr 110 (List.set l10 v11.toNat (⟨x17.row, x17.dev, x17.native, x17.cost, x17.link, x17.name, x14.tagged⟩ : Api_Port)) a1.ports.length false)] (pc (rn a1.ports.length)<|pc h12<|pd (rr (.op 9 1 0 1))<|pd (rr (.os 11 a1.ports.length))<|pd (rr (.j v11))<|pc (rh [b1_k_palingref15_Copy_L1, .n 56, .n 110, .n 174, .n 90, .n 178, .n 113, .n 88, .n 105, (b0_k_palingref15_Copy_L1 a1), .w 56 a1.devices, .arr 110 l10 a1.ports.length false, .w 174 a1.links, .w 90 a1.domains, .w 178 a1.statics, .w 113 a1.floods, .w 88 a1.vrfs, .w 105 a1.irbs, .n 3])<|pc (bs_ob 3 [])<|pc (rr (.op 9 1 0 1))<|pc (rr (.os 11 a1.ports.length))<|pc (rr (.j v11))<|pd (an a1.ports.length (lin_ob h13))<|pc (rr (.op 11 a1.ports.length v11.toNat 0))<|pd (rn a1.ports.length)<|pc (rr (.op 11 a1.ports.length v11.toNat 6))<|pd (an a1.ports.length (obn110 h15))<|pc (rr (.sl 3 x14.tagged))<|pc (rh [b1_k_palingref15_Copy_L1, .n 56, .n 110, .n 174, .n 90, .n 178, .n 113, .n 88, .n 105, (b0_k_palingref15_Copy_L1 a1), .w 56 a1.devices, .arr 110 l10 a1.ports.length false, .w 174 a1.links, .w 90 a1.domains, .w 178 a1.statics, .w 113 a1.floods, .w 88 a1.vrfs, .w 105 a1.irbs, .w 3 x14.tagged])<|pc (app_ob 3 (n := 0) (l := []) (xs := x14.tagged) h16)<|pc (an a1.ports.length (lin_ob h13))<|pc (rn a1.ports.length)<|pc (st_ob (e := 110) (n := a1.ports.length) (l := l10) (i := v11.toNat) (⟨x17.row, x17.dev, x17.native, x17.cost, x17.link, x17.name, x14.tagged⟩ : Api_Port) [.j x17.row, .j x17.dev, .j x17.native, .j x17.cost, .j x17.link, .x x17.name, .sl 3 x14.tagged] (obn110 h18) rfl)<|pc (rn x14.tagged.length)<|pn)
    ·cases h
   ·cases h
  ·obtain rfl := oi h; exact rl [2, 3] [0, 1, 2, 3, 4, 5, 6, 7, 8, 9, 10, 11, 12, 13, 14, 15, 16, 17] [.f] (pc (rn a1.ports.length)<|pc h12<|pn)
 ·exact Ex.noConfusion

def b0_k_palingref15_Copy_L2 (a1 : Api_Net) : AObj DD := .box 31 [.os 10 a1.devices.length, .os 11 a1.ports.length, .os 12 a1.links.length, .os 13 a1.domains.length, .os 14 a1.statics.length, .os 15 a1.floods.length, .os 16 a1.vrfs.length, .os 17 a1.irbs.length] false
def b1_k_palingref15_Copy_L2 : AObj DD := .box 31 [.os 1 0, .os 2 0, .os 3 0, .os 4 0, .os 5 0, .os 6 0, .os 7 0, .os 8 0] false
theorem k_palingref15_Copy_L2 {a1 : Api_Net} {l21 : List Api_Port} : LoopOK Tryz.prog UU 0 142 (subC (codeOf Tryz.f48) [1, 1, 1, 1, 1, 1, 1, 1, 1, 1, 1, 0, 1, 0, 0]) (fun s : (List Api_Domain) × Int => match s with | (l24, v25) => palingref15_Copy_L2 a1 l21 l24 v25)
  (fun s : (List Api_Domain) × Int => (match s with | (l24, v25) => [(2, .o 0), (3, .o 9), (5, .j v25)] : Fr DD)) (fun s : (List Api_Domain) × Int => (match s with | (l24, v25) => [b1_k_palingref15_Copy_L2, .n 56, .n 110, .n 174, .n 90, .n 178, .n 113, .n 88, .n 105, (b0_k_palingref15_Copy_L2 a1), .w 56 a1.devices, .arr 110 l21 a1.ports.length false, .w 174 a1.links, .arr 90 l24 a1.domains.length false, .w 178 a1.statics, .w 113 a1.floods, .w 88 a1.vrfs, .w 105 a1.irbs] : Heap DD)) (fun r => match r with | l35 => .exit 2) (fun r => match r with | l35 => [(2, .o 0), (3, .o 9)]) (fun r => match r with | l35 => [b1_k_palingref15_Copy_L2, .n 56, .n 110, .n 174, .n 90, .n 178, .n 113, .n 88, .n 105, (b0_k_palingref15_Copy_L2 a1), .w 56 a1.devices, .arr 110 l21 a1.ports.length false, .w 174 a1.links, .arr 90 l35 a1.domains.length false, .w 178 a1.statics, .w 113 a1.floods, .w 88 a1.vrfs, .w 105 a1.irbs]) := by
 refine loop_sound3 (fun s q h => ?_) (fun r => ?_)
 ·obtain ⟨l24, v25⟩ := s; replace h : palingref15_Copy_L2 a1 l21 l24 v25 = some q := h
  unfold palingref15_Copy_L2 at h
  obtain ⟨h26, h⟩|⟨h26, h⟩ := ite_out h
  ·obtain ⟨h27, h⟩|⟨h27, h⟩ := ite_out h
   ·obtain ⟨x28, h29, h⟩ := bo h
    obtain ⟨h30, h⟩|⟨h30, h⟩ := ite_out h
    ·obtain ⟨x31, h32, h⟩ := bo h
     obtain rfl := oi h; exact rl [2, 3, 5] [0, 1, 2, 3, 4, 5, 6, 7, 8, 9, 10, 11, 12, 13, 14, 15, 16, 17] [.t, .sum [3] [] .nor [] [b1_k_palingref15_Copy_L2, .n 56, .n 110, .n 174, .n 90, .n 178, .n 113, .n 88, .n 105, (b0_k_palingref15_Copy_L2 a1), .w 56 a1.devices, .arr 110 l21 a1.ports.length false, .w 174 a1.links, .arr 90 l24 a1.domains.length false, .w 178 a1.statics, .w 113 a1.floods, .w 88 a1.vrfs, .w 105 a1.irbs, .n 3], .sum [10] [] .nor [] [b1_k_palingref15_Copy_L2, .n 56, .n 110, .n 174, .n 90, .n 178, .n 113, .n 88, .n 105, (b0_k_palingref15_Copy_L2 a1), .w 56 a1.devices, .arr 110 l21 a1.ports.length false, .w 174 a1.links, .arr 90 l24 a1.domains.length false, .w 178 a1.statics, .w 113 a1.floods, .w 88 a1.vrfs, .w 105 a1.irbs, .w 3 x28.peers], .obj [] (.n 3), .row (c90 x28), .obj [] (.w 3 (x28.peers)), .row (c90 x31), .obj [18] (.arr 90 (List.set l24 v25.toNat (⟨x31.dev, x31.vlan, x31.vni, x31.irb, x31.row, x28.peers⟩ : Api_Domain)) a1.domains.length false)] (pc (rn a1.domains.length)<|pc h26<|pd (rr (.op 9 1 0 3))<|pd (rr (.os 13 a1.domains.length))<|pd (rr (.j v25))<|pc (rh [b1_k_palingref15_Copy_L2, .n 56, .n 110, .n 174, .n 90, .n 178, .n 113, .n 88, .n 105, (b0_k_palingref15_Copy_L2 a1), .w 56 a1.devices, .arr 110 l21 a1.ports.length false, .w 174 a1.links, .arr 90 l24 a1.domains.length false, .w 178 a1.statics, .w 113 a1.floods, .w 88 a1.vrfs, .w 105 a1.irbs, .n 3])<|pc (bs_ob 3 [])<|pc (rr (.op 9 1 0 3))<|pc (rr (.os 13 a1.domains.length))<|pc (rr (.j v25))<|pd (an a1.domains.length (lin_ob h27))<|pc (rr (.op 13 a1.domains.length v25.toNat 0))<|pd (rn a1.domains.length)<|pc (rr (.op 13 a1.domains.length v25.toNat 5))<|pd (an a1.domains.length (obn90 h29))<|pc (rr (.sl 3 x28.peers))<|pc (rh [b1_k_palingref15_Copy_L2, .n 56, .n 110, .n 174, .n 90, .n 178, .n 113, .n 88, .n 105, (b0_k_palingref15_Copy_L2 a1), .w 56 a1.devices, .arr 110 l21 a1.ports.length false, .w 174 a1.links, .arr 90 l24 a1.domains.length false, .w 178 a1.statics, .w 113 a1.floods, .w 88 a1.vrfs, .w 105 a1.irbs, .w 3 x28.peers])<|pc (app_ob 3 (n := 0) (l := []) (xs := x28.peers) h30)<|pc (an a1.domains.length (lin_ob h27))<|pc (rn a1.domains.length)<|pc (st_ob (e := 90) (n := a1.domains.length) (l := l24) (i := v25.toNat) (⟨x31.dev, x31.vlan, x31.vni, x31.irb, x31.row, x28.peers⟩ : Api_Domain) [.j x31.dev, .j x31.vlan, .j x31.vni, .j x31.irb, .j x31.row, .sl 3 x28.peers] (obn90 h32) rfl)<|pc (rn x28.peers.length)<|pn)
    ·cases h
   ·cases h
  ·obtain rfl := oi h; exact rl [2, 3] [0, 1, 2, 3, 4, 5, 6, 7, 8, 9, 10, 11, 12, 13, 14, 15, 16, 17] [.f] (pc (rn a1.domains.length)<|pc h26<|pn)
 ·exact Ex.noConfusion

def b0_k_palingref15_Copy_L3 (a1 : Api_Net) : AObj DD := .box 31 [.os 10 a1.devices.length, .os 11 a1.ports.length, .os 12 a1.links.length, .os 13 a1.domains.length, .os 14 a1.statics.length, .os 15 a1.floods.length, .os 16 a1.vrfs.length, .os 17 a1.irbs.length] false
def b1_k_palingref15_Copy_L3 : AObj DD := .box 31 [.os 1 0, .os 2 0, .os 3 0, .os 4 0, .os 5 0, .os 6 0, .os 7 0, .os 8 0] false
theorem k_palingref15_Copy_L3 {a1 : Api_Net} {l21 : List Api_Port} {l35 : List Api_Domain} : LoopOK Tryz.prog UU 0 142 (subC (codeOf Tryz.f48) [1, 1, 1, 1, 1, 1, 1, 1, 1, 1, 1, 1, 0, 1, 0, 0]) (fun s : (List Api_Flood) × Int => match s with | (l38, v39) => palingref15_Copy_L3 a1 l21 l35 l38 v39)
  (fun s : (List Api_Flood) × Int => (match s with | (l38, v39) => [(2, .o 0), (3, .o 9), (6, .j v39)] : Fr DD)) (fun s : (List Api_Flood) × Int => (match s with | (l38, v39) => [b1_k_palingref15_Copy_L3, .n 56, .n 110, .n 174, .n 90, .n 178, .n 113, .n 88, .n 105, (b0_k_palingref15_Copy_L3 a1), .w 56 a1.devices, .arr 110 l21 a1.ports.length false, .w 174 a1.links, .arr 90 l35 a1.domains.length false, .w 178 a1.statics, .arr 113 l38 a1.floods.length false, .w 88 a1.vrfs, .w 105 a1.irbs] : Heap DD)) (fun r => match r with | l49 => .exit 4) (fun r => match r with | l49 => [(2, .o 0), (3, .o 9)]) (fun r => match r with | l49 => [b1_k_palingref15_Copy_L3, .n 56, .n 110, .n 174, .n 90, .n 178, .n 113, .n 88, .n 105, (b0_k_palingref15_Copy_L3 a1), .w 56 a1.devices, .arr 110 l21 a1.ports.length false, .w 174 a1.links, .arr 90 l35 a1.domains.length false, .w 178 a1.statics, .arr 113 l49 a1.floods.length false, .w 88 a1.vrfs, .w 105 a1.irbs]) := by
 refine loop_sound3 (fun s q h => ?_) (fun r => ?_)
 ·obtain ⟨l38, v39⟩ := s; replace h : palingref15_Copy_L3 a1 l21 l35 l38 v39 = some q := h
  unfold palingref15_Copy_L3 at h
  obtain ⟨h40, h⟩|⟨h40, h⟩ := ite_out h
  ·obtain ⟨h41, h⟩|⟨h41, h⟩ := ite_out h
   ·obtain ⟨x42, h43, h⟩ := bo h
    obtain ⟨h44, h⟩|⟨h44, h⟩ := ite_out h
    ·obtain ⟨x45, h46, h⟩ := bo h
     obtain rfl := oi h; exact rl [2, 3, 6] [0, 1, 2, 3, 4, 5, 6, 7, 8, 9, 10, 11, 12, 13, 14, 15, 16, 17] [.t, .sum [3] [] .nor [] [b1_k_palingref15_Copy_L3, .n 56, .n 110, .n 174, .n 90, .n 178, .n 113, .n 88, .n 105, (b0_k_palingref15_Copy_L3 a1), .w 56 a1.devices, .arr 110 l21 a1.ports.length false, .w 174 a1.links, .arr 90 l35 a1.domains.length false, .w 178 a1.statics, .arr 113 l38 a1.floods.length false, .w 88 a1.vrfs, .w 105 a1.irbs, .n 33], .sum [10] [] .nor [] [b1_k_palingref15_Copy_L3, .n 56, .n 110, .n 174, .n 90, .n 178, .n 113, .n 88, .n 105, (b0_k_palingref15_Copy_L3 a1), .w 56 a1.devices, .arr 110 l21 a1.ports.length false, .w 174 a1.links, .arr 90 l35 a1.domains.length false, .w 178 a1.statics, .arr 113 l38 a1.floods.length false, .w 88 a1.vrfs, .w 105 a1.irbs, .w 33 x42.addrs], .obj [] (.n 33), .row (c113 x42), .obj [] (.w 33 (x42.addrs)), .row (c113 x45), .obj [18] (.arr 113 (List.set l38 v39.toNat (⟨x45.row, x45.dev, x45.vni, x42.addrs⟩ : Api_Flood)) a1.floods.length false)] (pc (rn a1.floods.length)<|pc h40<|pd (rr (.op 9 1 0 5))<|pd (rr (.os 15 a1.floods.length))<|pd (rr (.j v39))<|pc (rh [b1_k_palingref15_Copy_L3, .n 56, .n 110, .n 174, .n 90, .n 178, .n 113, .n 88, .n 105, (b0_k_palingref15_Copy_L3 a1), .w 56 a1.devices, .arr 110 l21 a1.ports.length false, .w 174 a1.links, .arr 90 l35 a1.domains.length false, .w 178 a1.statics, .arr 113 l38 a1.floods.length false, .w 88 a1.vrfs, .w 105 a1.irbs, .n 33])<|pc (bs_ob 33 [])<|pc (rr (.op 9 1 0 5))<|pc (rr (.os 15 a1.floods.length))<|pc (rr (.j v39))<|pd (an a1.floods.length (lin_ob h41))<|pc (rr (.op 15 a1.floods.length v39.toNat 0))<|pd (rn a1.floods.length)<|pc (rr (.op 15 a1.floods.length v39.toNat 3))<|pd (an a1.floods.length (obn113 h43))<|pc (rr (.sl 33 x42.addrs))<|pc (rh [b1_k_palingref15_Copy_L3, .n 56, .n 110, .n 174, .n 90, .n 178, .n 113, .n 88, .n 105, (b0_k_palingref15_Copy_L3 a1), .w 56 a1.devices, .arr 110 l21 a1.ports.length false, .w 174 a1.links, .arr 90 l35 a1.domains.length false, .w 178 a1.statics, .arr 113 l38 a1.floods.length false, .w 88 a1.vrfs, .w 105 a1.irbs, .w 33 x42.addrs])<|pc (app_ob 33 (n := 0) (l := []) (xs := x42.addrs) h44)<|pc (an a1.floods.length (lin_ob h41))<|pc (rn a1.floods.length)<|pc (st_ob (e := 113) (n := a1.floods.length) (l := l38) (i := v39.toNat) (⟨x45.row, x45.dev, x45.vni, x42.addrs⟩ : Api_Flood) [.j x45.row, .j x45.dev, .j x45.vni, .sl 33 x42.addrs] (obn113 h46) rfl)<|pc (rn x42.addrs.length)<|pn)
    ·cases h
   ·cases h
  ·obtain rfl := oi h; exact rl [2, 3] [0, 1, 2, 3, 4, 5, 6, 7, 8, 9, 10, 11, 12, 13, 14, 15, 16, 17] [.f] (pc (rn a1.floods.length)<|pc h40<|pn)
 ·exact Ex.noConfusion

def b0_k_palingref15_Copy_L4 (a1 : Api_Net) : AObj DD := .box 31 [.os 10 a1.devices.length, .os 11 a1.ports.length, .os 12 a1.links.length, .os 13 a1.domains.length, .os 14 a1.statics.length, .os 15 a1.floods.length, .os 16 a1.vrfs.length, .os 17 a1.irbs.length] false
def b1_k_palingref15_Copy_L4 : AObj DD := .box 31 [.os 1 0, .os 2 0, .os 3 0, .os 4 0, .os 5 0, .os 6 0, .os 7 0, .os 8 0] false
theorem k_palingref15_Copy_L4 {a1 : Api_Net} {l21 : List Api_Port} {l35 : List Api_Domain} {l49 : List Api_Flood} : LoopOK Tryz.prog UU 0 142 (subC (codeOf Tryz.f48) [1, 1, 1, 1, 1, 1, 1, 1, 1, 1, 1, 1, 1, 0, 1, 0, 0]) (fun s : (List Api_Vrf) × Int => match s with | (l52, v53) => palingref15_Copy_L4 a1 l21 l35 l49 l52 v53)
  (fun s : (List Api_Vrf) × Int => (match s with | (l52, v53) => [(2, .o 0), (3, .o 9), (7, .j v53)] : Fr DD)) (fun s : (List Api_Vrf) × Int => (match s with | (l52, v53) => [b1_k_palingref15_Copy_L4, .n 56, .n 110, .n 174, .n 90, .n 178, .n 113, .n 88, .n 105, (b0_k_palingref15_Copy_L4 a1), .w 56 a1.devices, .arr 110 l21 a1.ports.length false, .w 174 a1.links, .arr 90 l35 a1.domains.length false, .w 178 a1.statics, .arr 113 l49 a1.floods.length false, .arr 88 l52 a1.vrfs.length false, .w 105 a1.irbs] : Heap DD)) (fun r => match r with | l69 => .exit 6) (fun r => match r with | l69 => [(2, .o 0), (3, .o 9)]) (fun r => match r with | l69 => [b1_k_palingref15_Copy_L4, .n 56, .n 110, .n 174, .n 90, .n 178, .n 113, .n 88, .n 105, (b0_k_palingref15_Copy_L4 a1), .w 56 a1.devices, .arr 110 l21 a1.ports.length false, .w 174 a1.links, .arr 90 l35 a1.domains.length false, .w 178 a1.statics, .arr 113 l49 a1.floods.length false, .arr 88 l69 a1.vrfs.length false, .w 105 a1.irbs]) := by
 refine loop_sound3 (fun s q h => ?_) (fun r => ?_)
 ·obtain ⟨l52, v53⟩ := s; replace h : palingref15_Copy_L4 a1 l21 l35 l49 l52 v53 = some q := h
  unfold palingref15_Copy_L4 at h
  obtain ⟨h54, h⟩|⟨h54, h⟩ := ite_out h
  ·obtain ⟨h55, h⟩|⟨h55, h⟩ := ite_out h
   ·obtain ⟨x56, h57, h⟩ := bo h
    obtain ⟨h58, h⟩|⟨h58, h⟩ := ite_out h
    ·obtain ⟨x59, h60, h⟩ := bo h
     obtain ⟨h61, h⟩|⟨h61, h⟩ := ite_out h
     ·obtain ⟨x62, h63, h⟩ := bo h
      obtain ⟨h64, h⟩|⟨h64, h⟩ := ite_out h
      ·obtain ⟨x65, h66, h⟩ := bo h
       obtain rfl := oi h; exact rl [2, 3, 7] [0, 1, 2, 3, 4, 5, 6, 7, 8, 9, 10, 11, 12, 13, 14, 15, 16, 17] [.t, .sum [3] [] .nor [] [b1_k_palingref15_Copy_L4, .n 56, .n 110, .n 174, .n 90, .n 178, .n 113, .n 88, .n 105, (b0_k_palingref15_Copy_L4 a1), .w 56 a1.devices, .arr 110 l21 a1.ports.length false, .w 174 a1.links, .arr 90 l35 a1.domains.length false, .w 178 a1.statics, .arr 113 l49 a1.floods.length false, .arr 88 l52 a1.vrfs.length false, .w 105 a1.irbs, .n 3], .sum [10] [] .nor [] [b1_k_palingref15_Copy_L4, .n 56, .n 110, .n 174, .n 90, .n 178, .n 113, .n 88, .n 105, (b0_k_palingref15_Copy_L4 a1), .w 56 a1.devices, .arr 110 l21 a1.ports.length false, .w 174 a1.links, .arr 90 l35 a1.domains.length false, .w 178 a1.statics, .arr 113 l49 a1.floods.length false, .arr 88 l52 a1.vrfs.length false, .w 105 a1.irbs, .w 3 x56.imports], .obj [] (.n 3), .row (c88 x56), .obj [] (.w 3 (x56.imports)), .row (c88 x59), .obj [18] (.arr 88 (List.set l52 v53.toNat (⟨x59.row, x59.dev, x59.name, x56.imports, x59.exports⟩ : Api_Vrf)) a1.vrfs.length false), .sum [3] [] .nor [] [b1_k_palingref15_Copy_L4, .n 56, .n 110, .n 174, .n 90, .n 178, .n 113, .n 88, .n 105, (b0_k_palingref15_Copy_L4 a1), .w 56 a1.devices, .arr 110 l21 a1.ports.length false, .w 174 a1.links, .arr 90 l35 a1.domains.length false, .w 178 a1.statics, .arr 113 l49 a1.floods.length false, .arr 88 (List.set l52 v53.toNat (⟨x59.row, x59.dev, x59.name, x56.imports, x59.exports⟩ : Api_Vrf)) a1.vrfs.length false, .w 105 a1.irbs, .wt 3 x56.imports, .n 3], .sum [10] [] .nor [] [b1_k_palingref15_Copy_L4, .n 56, .n 110, .n 174, .n 90, .n 178, .n 113, .n 88, .n 105, (b0_k_palingref15_Copy_L4 a1), .w 56 a1.devices, .arr 110 l21 a1.ports.length false, .w 174 a1.links, .arr 90 l35 a1.domains.length false, .w 178 a1.statics, .arr 113 l49 a1.floods.length false, .arr 88 (List.set l52 v53.toNat (⟨x59.row, x59.dev, x59.name, x56.imports, x59.exports⟩ : Api_Vrf)) a1.vrfs.length false, .w 105 a1.irbs, .wt 3 x56.imports, .w 3 x62.exports], .obj [] (.n 3), .row (c88 x62), .obj [] (.w 3 (x62.exports)), .row (c88 x65), .obj [19] (.arr 88 (List.set (List.set l52 v53.toNat (⟨x59.row, x59.dev, x59.name, x56.imports, x59.exports⟩ : Api_Vrf)) v53.toNat (⟨x65.row, x65.dev, x65.name, x65.imports, x62.exports⟩ : Api_Vrf)) a1.vrfs.length false)] (pc (rn a1.vrfs.length)<|pc h54<|pd (rr (.op 9 1 0 6))<|pd (rr (.os 16 a1.vrfs.length))<|pd (rr (.j v53))<|pc (rh [b1_k_palingref15_Copy_L4, .n 56, .n 110, .n 174, .n 90, .n 178, .n 113, .n 88, .n 105, (b0_k_palingref15_Copy_L4 a1), .w 56 a1.devices, .arr 110 l21 a1.ports.length false, .w 174 a1.links, .arr 90 l35 a1.domains.length false, .w 178 a1.statics, .arr 113 l49 a1.floods.length false, .arr 88 l52 a1.vrfs.length false, .w 105 a1.irbs, .n 3])<|pc (bs_ob 3 [])<|pc (rr (.op 9 1 0 6))<|pc (rr (.os 16 a1.vrfs.length))<|pc (rr (.j v53))<|pd (an a1.vrfs.length (lin_ob h55))<|pc (rr (.op 16 a1.vrfs.length v53.toNat 0))<|pd (rn a1.vrfs.length)<|pc (rr (.op 16 a1.vrfs.length v53.toNat 3))<|pd (an a1.vrfs.length (obn88 h57))<|pc (rr (.sl 3 x56.imports))<|pc (rh [b1_k_palingref15_Copy_L4, .n 56, .n 110, .n 174, .n 90, .n 178, .n 113, .n 88, .n 105, (b0_k_palingref15_Copy_L4 a1), .w 56 a1.devices, .arr 110 l21 a1.ports.length false, .w 174 a1.links, .arr 90 l35 a1.domains.length false, .w 178 a1.statics, .arr 113 l49 a1.floods.length false, .arr 88 l52 a1.vrfs.length false, .w 105 a1.irbs, .w 3 x56.imports])<|pc (app_ob 3 (n := 0) (l := []) (xs := x56.imports) h58)<|pc (an a1.vrfs.length (lin_ob h55))<|pc (rn a1.vrfs.length)<|pc (st_ob (e := 88) (n := a1.vrfs.length) (l := l52) (i := v53.toNat) (⟨x59.row, x59.dev, x59.name, x56.imports, x59.exports⟩ : Api_Vrf) [.j x59.row, .j x59.dev, .x x59.name, .sl 3 x56.imports, .sl 3 x59.exports] (obn88 h60) rfl)<|pc (rn x56.imports.length)<|pd (rr (.op 9 1 0 6))<|pd (rr (.os 16 a1.vrfs.length))<|pd (rr (.j v53))<|pc (rh [b1_k_palingref15_Copy_L4, .n 56, .n 110, .n 174, .n 90, .n 178, .n 113, .n 88, .n 105, (b0_k_palingref15_Copy_L4 a1), .w 56 a1.devices, .arr 110 l21 a1.ports.length false, .w 174 a1.links, .arr 90 l35 a1.domains.length false, .w 178 a1.statics, .arr 113 l49 a1.floods.length false, .arr 88 (List.set l52 v53.toNat (⟨x59.row, x59.dev, x59.name, x56.imports, x59.exports⟩ : Api_Vrf)) a1.vrfs.length false, .w 105 a1.irbs, .wt 3 x56.imports, .n 3])<|pc (bs_ob 3 [])<|pc (rr (.op 9 1 0 6))<|pc (rr (.os 16 a1.vrfs.length))<|pc (rr (.j v53))<|pd (an a1.vrfs.length (lin_ob h61))<|pc (rr (.op 16 a1.vrfs.length v53.toNat 0))<|pd (rn a1.vrfs.length)<|pc (rr (.op 16 a1.vrfs.length v53.toNat 4))<|pd (an a1.vrfs.length (obn88 h63))<|pc (rr (.sl 3 x62.exports))<|pc (rh [b1_k_palingref15_Copy_L4, .n 56, .n 110, .n 174, .n 90, .n 178, .n 113, .n 88, .n 105, (b0_k_palingref15_Copy_L4 a1), .w 56 a1.devices, .arr 110 l21 a1.ports.length false, .w 174 a1.links, .arr 90 l35 a1.domains.length false, .w 178 a1.statics, .arr 113 l49 a1.floods.length false, .arr 88 (List.set l52 v53.toNat (⟨x59.row, x59.dev, x59.name, x56.imports, x59.exports⟩ : Api_Vrf)) a1.vrfs.length false, .w 105 a1.irbs, .wt 3 x56.imports, .w 3 x62.exports])<|pc (app_ob 3 (n := 0) (l := []) (xs := x62.exports) h64)<|pc (an a1.vrfs.length (lin_ob h61))<|pc (rn a1.vrfs.length)<|pc (st_ob (e := 88) (n := a1.vrfs.length) (l := List.set l52 v53.toNat (⟨x59.row, x59.dev, x59.name, x56.imports, x59.exports⟩ : Api_Vrf)) (i := v53.toNat) (⟨x65.row, x65.dev, x65.name, x65.imports, x62.exports⟩ : Api_Vrf) [.j x65.row, .j x65.dev, .x x65.name, .sl 3 x65.imports, .sl 3 x62.exports] (obn88 h66) rfl)<|pc (rn x62.exports.length)<|pn)
      ·cases h
     ·cases h
    ·cases h
   ·cases h
  ·obtain rfl := oi h; exact rl [2, 3] [0, 1, 2, 3, 4, 5, 6, 7, 8, 9, 10, 11, 12, 13, 14, 15, 16, 17] [.f] (pc (rn a1.vrfs.length)<|pc h54<|pn)
 ·exact Ex.noConfusion

def b0_k_palingref15_Copy (a1 : Api_Net) : AObj DD := .box 31 [.os 10 a1.devices.length, .os 11 a1.ports.length, .os 12 a1.links.length, .os 13 a1.domains.length, .os 14 a1.statics.length, .os 15 a1.floods.length, .os 16 a1.vrfs.length, .os 17 a1.irbs.length] false
def b1_k_palingref15_Copy : AObj DD := .box 31 [.os 1 0, .os 2 0, .os 3 0, .os 4 0, .os 5 0, .os 6 0, .os 7 0, .os 8 0] false
theorem k_palingref15_Copy {a1 : Api_Net} {r : ((List Api_Port) × (List Api_Domain) × (List Api_Flood) × (List Api_Vrf))} (h : palingref15_Copy a1 = some r) :
  CallsOK Tryz.prog UU 48 [.agg (c31 a1)] [] ((fun r => match r with | (l72, l73, l74, l75) => .agg [.os 0 a1.devices.length, .os 1 a1.ports.length, .os 2 a1.links.length, .os 3 a1.domains.length, .os 4 a1.statics.length, .os 5 a1.floods.length, .os 6 a1.vrfs.length, .os 7 a1.irbs.length]) r) ((fun r => match r with | (l72, l73, l74, l75) => [.w 56 a1.devices, .arr 110 l72 a1.ports.length false, .w 174 a1.links, .arr 90 l73 a1.domains.length false, .w 178 a1.statics, .arr 113 l74 a1.floods.length false, .arr 88 l75 a1.vrfs.length false, .w 105 a1.irbs]) r) := by
 unfold palingref15_Copy at h
 obtain ⟨h2, h⟩|⟨h2, h⟩ := ite_out h
 ·obtain ⟨h3, h⟩|⟨h3, h⟩ := ite_out h
  ·obtain ⟨h4, h⟩|⟨h4, h⟩ := ite_out h
   ·obtain ⟨h5, h⟩|⟨h5, h⟩ := ite_out h
    ·obtain ⟨h6, h⟩|⟨h6, h⟩ := ite_out h
     ·obtain ⟨h7, h⟩|⟨h7, h⟩ := ite_out h
      ·obtain ⟨h8, h⟩|⟨h8, h⟩ := ite_out h
       ·obtain ⟨h9, h⟩|⟨h9, h⟩ := ite_out h
        ·obtain ⟨l21, h22, h⟩ := bo h
         obtain ⟨l35, h36, h⟩ := bo h
         obtain ⟨l49, h50, h⟩ := bo h
         obtain ⟨l69, h70, h⟩ := bo h
         obtain rfl := oi h; exact rf Tryz.func48 (some [10, 11, 12, 13, 14, 15, 16, 17]) [.obj [] (.n 56), .obj [] (.w 56 (a1.devices)), .obj [] (.n 110), .obj [] (.w 110 (a1.ports)), .obj [] (.n 174), .obj [] (.w 174 (a1.links)), .obj [] (.n 90), .obj [] (.w 90 (a1.domains)), .obj [] (.n 178), .obj [] (.w 178 (a1.statics)), .obj [] (.n 113), .obj [] (.w 113 (a1.floods)), .obj [] (.n 88), .obj [] (.w 88 (a1.vrfs)), .obj [] (.n 105), .obj [] (.w 105 (a1.irbs)), .sum [2, 3, 4] [9, 1, 2, 3, 4, 5, 6, 7, 8, 18, 19, 20, 21, 22, 23, 24, 25, 26] (.exit 0) [(2, .o 0), (3, .o 9)] [b1_k_palingref15_Copy, .n 56, .n 110, .n 174, .n 90, .n 178, .n 113, .n 88, .n 105, (b0_k_palingref15_Copy a1), .w 56 a1.devices, .arr 110 l21 a1.ports.length false, .w 174 a1.links, .w 90 a1.domains, .w 178 a1.statics, .w 113 a1.floods, .w 88 a1.vrfs, .w 105 a1.irbs], .sum [2, 3, 5] [0, 1, 2, 3, 4, 5, 6, 7, 8, 9, 10, 11, 12, 13, 14, 15, 16, 17] (.exit 2) [(2, .o 0), (3, .o 9)] [b1_k_palingref15_Copy, .n 56, .n 110, .n 174, .n 90, .n 178, .n 113, .n 88, .n 105, (b0_k_palingref15_Copy a1), .w 56 a1.devices, .arr 110 l21 a1.ports.length false, .w 174 a1.links, .arr 90 l35 a1.domains.length false, .w 178 a1.statics, .w 113 a1.floods, .w 88 a1.vrfs, .w 105 a1.irbs], .sum [2, 3, 6] [0, 1, 2, 3, 4, 5, 6, 7, 8, 9, 10, 11, 12, 13, 14, 15, 16, 17] (.exit 4) [(2, .o 0), (3, .o 9)] [b1_k_palingref15_Copy, .n 56, .n 110, .n 174, .n 90, .n 178, .n 113, .n 88, .n 105, (b0_k_palingref15_Copy a1), .w 56 a1.devices, .arr 110 l21 a1.ports.length false, .w 174 a1.links, .arr 90 l35 a1.domains.length false, .w 178 a1.statics, .arr 113 l49 a1.floods.length false, .w 88 a1.vrfs, .w 105 a1.irbs], .sum [2, 3, 7] [0, 1, 2, 3, 4, 5, 6, 7, 8, 9, 10, 11, 12, 13, 14, 15, 16, 17] (.exit 6) [(2, .o 0), (3, .o 9)] [b1_k_palingref15_Copy, .n 56, .n 110, .n 174, .n 90, .n 178, .n 113, .n 88, .n 105, (b0_k_palingref15_Copy a1), .w 56 a1.devices, .arr 110 l21 a1.ports.length false, .w 174 a1.links, .arr 90 l35 a1.domains.length false, .w 178 a1.statics, .arr 113 l49 a1.floods.length false, .arr 88 l69 a1.vrfs.length false, .w 105 a1.irbs]] (pc (bs_ob 56 [])<|pc (app_ob 56 (n := 0) (l := []) (xs := a1.devices) h2)<|pc (bs_ob 110 [])<|pc (app_ob 110 (n := 0) (l := []) (xs := a1.ports) h3)<|pc (bs_ob 174 [])<|pc (app_ob 174 (n := 0) (l := []) (xs := a1.links) h4)<|pc (bs_ob 90 [])<|pc (app_ob 90 (n := 0) (l := []) (xs := a1.domains) h5)<|pc (bs_ob 178 [])<|pc (app_ob 178 (n := 0) (l := []) (xs := a1.statics) h6)<|pc (bs_ob 113 [])<|pc (app_ob 113 (n := 0) (l := []) (xs := a1.floods) h7)<|pc (bs_ob 88 [])<|pc (app_ob 88 (n := 0) (l := []) (xs := a1.vrfs) h8)<|pc (bs_ob 105 [])<|pc (app_ob 105 (n := 0) (l := []) (xs := a1.irbs) h9)<|pc (k_palingref15_Copy_L1 _ _ h22)<|pc (k_palingref15_Copy_L2 _ _ h36)<|pc (k_palingref15_Copy_L3 _ _ h50)<|pc (k_palingref15_Copy_L4 _ _ h70)<|pn)
        ·cases h
       ·cases h
      ·cases h
     ·cases h
    ·cases h
   ·cases h
  ·cases h
 ·cases h

theorem k_palingref20_Vrf {a1 : Api_Net} {a2 : Api_Line} {r : ((List Api_Device) × (List Api_Port) × (List Api_Link) × (List Api_Domain) × (List Api_Static) × (List Api_Flood) × (List Api_Vrf) × (List Api_Irb) × Nat × Nat × Nat × Int)} (h : palingref20_Vrf a1 a2 = some r) :
  CallsOK Tryz.prog UU 11 [.agg (c31 a1), .agg (c37 a2)] [] ((fun r => match r with | (l22, l23, l24, l25, l26, l27, l28, l29, n30, n31, n32, v33) => .tup [.agg [.os 0 l22.length, .os 1 n30, .os 2 l24.length, .os 3 n31, .os 4 l26.length, .os 5 n32, .os 6 l28.length, .os 7 l29.length], .j v33]) r) ((fun r => match r with | (l22, l23, l24, l25, l26, l27, l28, l29, n30, n31, n32, v33) => [.w 56 l22, .arr 110 l23 n30 false, .w 174 l24, .arr 90 l25 n31 false, .w 178 l26, .arr 113 l27 n32 false, .w 88 l28, .w 105 l29]) r) := by
 unfold palingref20_Vrf at h
 obtain ⟨r3, h4, h⟩ := bo h
 obtain ⟨h5, h⟩|⟨h5, h⟩ := ite_out h
 ·obtain rfl := oi h; exact rf Tryz.func11 (some [11, 12, 13, 14, 15, 16, 17, 18]) [.b r3, .t] (pc (k_palingref16_Fits h4)<|pc h5<|pn)
 ·obtain ⟨r6, h7, h⟩ := bo h
  obtain ⟨h8, h⟩|⟨h8, h⟩ := ite_out h
  ·obtain rfl := oi h; exact rf Tryz.func11 (some [11, 12, 13, 14, 15, 16, 17, 18]) [.b r3, .f, .callv (.j r6), .t] (pc (k_palingref16_Fits h4)<|pc h5<|pc (k_palingref15_Device h7)<|pc h8<|pn)
  ·obtain ⟨r9, h10, h⟩ := bo h
   obtain ⟨h11, h⟩|⟨h11, h⟩ := ite_out h
   ·obtain rfl := oi h; exact rf Tryz.func11 (some [11, 12, 13, 14, 15, 16, 17, 18]) [.b r3, .f, .callv (.j r6), .f, .callv (.j r9), .t] (pc (k_palingref16_Fits h4)<|pc h5<|pc (k_palingref15_Device h7)<|pc h8<|pc (k_palingref15_Vrf h10)<|pc h11<|pn)
   ·obtain ⟨h12, h⟩|⟨h12, h⟩ := ite_out h
    ·obtain rfl := oi h; exact rf Tryz.func11 (some [11, 12, 13, 14, 15, 16, 17, 18]) [.b r3, .f, .callv (.j r6), .f, .callv (.j r9), .f, .t] (pc (k_palingref16_Fits h4)<|pc h5<|pc (k_palingref15_Device h7)<|pc h8<|pc (k_palingref15_Vrf h10)<|pc h11<|pc h12<|pn)
    ·obtain ⟨r13, h14, h⟩ := bo h
     obtain ⟨l15, l16, l17, l18⟩ := r13
     obtain ⟨h19, h⟩|⟨h19, h⟩ := ite_out h
     ·obtain ⟨h20, h⟩|⟨h20, h⟩ := ite_out h
      ·obtain ⟨h21, h⟩|⟨h21, h⟩ := ite_out h
       ·obtain rfl := oi h; exact rf Tryz.func11 (some [11, 12, 13, 14, 15, 16, 17, 18]) [.b r3, .f, .callv (.j r6), .f, .callv (.j r9), .f, .f, .callm [] (.agg [.os 0 a1.devices.length, .os 1 a1.ports.length, .os 2 a1.links.length, .os 3 a1.domains.length, .os 4 a1.statics.length, .os 5 a1.floods.length, .os 6 a1.vrfs.length, .os 7 a1.irbs.length]) [.w 56 a1.devices, .arr 110 l15 a1.ports.length false, .w 174 a1.links, .arr 90 l16 a1.domains.length false, .w 178 a1.statics, .arr 113 l17 a1.floods.length false, .arr 88 l18 a1.vrfs.length false, .w 105 a1.irbs], .obj [] (.arr 3 ([] : List Int) 0 true), .obj [] (.wt 3 a2.imports), .obj [] (.arr 3 ([] : List Int) 0 true), .obj [] (.wt 3 a2.exports), .obj [] (.w 88 [(⟨a2.row, r6, a2.name, a2.imports, a2.exports⟩ : Api_Vrf)]), .obj [] (.w 88 (l18 ++ [(⟨a2.row, r6, a2.name, a2.imports, a2.exports⟩ : Api_Vrf)]))] (pc (k_palingref16_Fits h4)<|pc h5<|pc (k_palingref15_Device h7)<|pc h8<|pc (k_palingref15_Vrf h10)<|pc h11<|pc h12<|pc (k_palingref15_Copy h14)<|pc (apd_ob 3 h19)<|pc (apd_ob 3 h20)<|pc (bs_ob 88 [(⟨a2.row, r6, a2.name, a2.imports, a2.exports⟩ : Api_Vrf)])<|pc (app_ob 88 (n := a1.vrfs.length) (l := l18) (xs := [(⟨a2.row, r6, a2.name, a2.imports, a2.exports⟩ : Api_Vrf)]) h21)<|pn)
       ·cases h
      ·cases h
     ·cases h

theorem k_palingref02_Has {a1 : Api_Prefix} {a2 : Int} {r : Bool} (h : palingref02_Has a1 a2 = some r) :
  CallsOK Tryz.prog UU 121 [.agg (c103 a1), .v (.int .u32 a2)] [] (.y r) [] := by
 unfold palingref02_Has at h
 obtain ⟨r3, h4, h⟩ := bo h
 obtain ⟨h5, h⟩|⟨h5, h⟩ := ite_out h
 ·obtain ⟨r6, h7, h⟩ := bo h
  obtain ⟨h8, h⟩|⟨h8, h⟩ := ite_out h
  ·obtain ⟨r9, h10, h⟩ := bo h
   obtain rfl := oi h; exact rf Tryz.func121 none [.b r3, .t, .callv (.v (.int .u32 r6)), .t, .callv (.v (.int .u32 r9))] (pc (k_palingref02_Right h4)<|pc h5<|pc (k_palingref02_First h7)<|pc h8<|pc (k_palingref02_Last h10)<|pn)
  ·obtain rfl := oi h; exact rf Tryz.func121 none [.b r3, .t, .callv (.v (.int .u32 r6)), .f] (pc (k_palingref02_Right h4)<|pc h5<|pc (k_palingref02_First h7)<|pc h8<|pn)
 ·obtain rfl := oi h; exact rf Tryz.func121 none [.b r3, .f] (pc (k_palingref02_Right h4)<|pc h5<|pn)

theorem k_palingref20_taken_L1 {a1 : Api_Net} {a2 : Int} {a3 : Api_Prefix} : LoopOK Tryz.prog UU 0 50 (subC (codeOf Tryz.f54) [1, 0, 1, 0, 0]) (ρ := Unit ⊕ Unit) (palingref20_taken_L1 a1 a2 a3)
  (fun v4 : Int => ([(1, .j a2), (3, .o 0), (5, .o 1), (6, .y false), (7, .j v4)] : Fr DD)) (fun v4 : Int => ([.box 31 (c31 a1) false, .box 103 (c103 a3) false] : Heap DD)) (fun r => match r with | Sum.inl _ => .ret | Sum.inr _ => .exit 0) (fun r => match r with | Sum.inl _ => [(6, .y true)] | Sum.inr _ => [(6, .y false)]) (fun r => match r with | Sum.inl _ => [] | Sum.inr _ => []) := by
 refine loop_sound3 (fun s q h => ?_) (fun r => ?_)
 ·replace h : palingref20_taken_L1 a1 a2 a3 s = some q := h; revert h; revert s; intro v4 h
  unfold palingref20_taken_L1 at h
  obtain ⟨h5, h⟩|⟨h5, h⟩ := ite_out h
  ·obtain ⟨x6, h7, h⟩ := bo h
   obtain ⟨h8, h⟩|⟨h8, h⟩ := ite_out h
   ·obtain rfl := oi h; exact rl [6] [] [.t, .row (c105 x6), .t] (pc h5<|pc (ob105 h7)<|pc h8<|pn)
   ·obtain ⟨x9, h10, h⟩ := bo h
    obtain ⟨h11, h⟩|⟨h11, h⟩ := ite_out h
    ·obtain ⟨r12, h13, h⟩ := bo h
     obtain ⟨h14, h⟩|⟨h14, h⟩ := ite_out h
     ·obtain rfl := oi h; exact rl [6] [] [.t, .row (c105 x6), .f, .row (c90 x9), .t, .b r12, .t] (pc h5<|pc (ob105 h7)<|pc h8<|pc (ob90 h10)<|pc h11<|pc (k_palingref02_Has h13)<|pc h14<|pn)
     ·obtain ⟨r15, h16, h⟩ := bo h
      obtain ⟨h17, h⟩|⟨h17, h⟩ := ite_out h
      ·obtain rfl := oi h; exact rl [6] [] [.t, .row (c105 x6), .f, .row (c90 x9), .t, .b r12, .f, .b r15, .t] (pc h5<|pc (ob105 h7)<|pc h8<|pc (ob90 h10)<|pc h11<|pc (k_palingref02_Has h13)<|pc h14<|pc (k_palingref02_Has h16)<|pc h17<|pn)
      ·obtain rfl := oi h; exact rl [1, 3, 5, 6, 7] [0, 1] [.t, .row (c105 x6), .f, .row (c90 x9), .t, .b r12, .f, .b r15, .f] (pc h5<|pc (ob105 h7)<|pc h8<|pc (ob90 h10)<|pc h11<|pc (k_palingref02_Has h13)<|pc h14<|pc (k_palingref02_Has h16)<|pc h17<|pn)
    ·obtain rfl := oi h; exact rl [1, 3, 5, 6, 7] [0, 1] [.t, .row (c105 x6), .f, .row (c90 x9), .f] (pc h5<|pc (ob105 h7)<|pc h8<|pc (ob90 h10)<|pc h11<|pn)
  ·obtain rfl := oi h; exact rl [6] [] [.f] (pc h5<|pn)
 ·rcases r with _ | _ <;> exact Ex.noConfusion

theorem k_palingref20_taken {a1 : Api_Net} {a2 : Int} {a3 : Api_Prefix} {r : Bool} (h : palingref20_taken a1 a2 a3 = some r) :
  CallsOK Tryz.prog UU 54 [.agg (c31 a1), .j a2, .agg (c103 a3)] [] (.y r) [] := by
 unfold palingref20_taken at h
 obtain ⟨r19, h18, h⟩ := bo h
 rcases r19 with _ | _
 ·obtain rfl := oi h; exact rf Tryz.func54 none [.sum [1, 3, 5, 6, 7] [0, 1] .ret [(6, .y true)] []] (pc (k_palingref20_taken_L1 _ _ h18)<|pn)
 ·obtain rfl := oi h; exact rf Tryz.func54 none [.sum [1, 3, 5, 6, 7] [0, 1] (.exit 0) [(6, .y false)] []] (pc (k_palingref20_taken_L1 _ _ h18)<|pn)

theorem k_palingref20_Irb {a1 : Api_Net} {a2 : Api_Line} {r : ((List Api_Device) × (List Api_Port) × (List Api_Link) × (List Api_Domain) × (List Api_Static) × (List Api_Flood) × (List Api_Vrf) × (List Api_Irb) × Nat × Nat × Nat × Nat × Int)} (h : palingref20_Irb a1 a2 = some r) :
  CallsOK Tryz.prog UU 13 [.agg (c31 a1), .agg (c37 a2)] [] ((fun r => match r with | (l33, l34, l35, l36, l37, l38, l39, l40, n41, n42, n43, n44, v45) => .tup [.agg [.os 0 l33.length, .os 1 n41, .os 2 l35.length, .os 3 n42, .os 4 l37.length, .os 5 n43, .os 6 n44, .os 7 l40.length], .j v45]) r) ((fun r => match r with | (l33, l34, l35, l36, l37, l38, l39, l40, n41, n42, n43, n44, v45) => [.w 56 l33, .arr 110 l34 n41 false, .w 174 l35, .arr 90 l36 n42 false, .w 178 l37, .arr 113 l38 n43 false, .arr 88 l39 n44 false, .w 105 l40]) r) := by
 unfold palingref20_Irb at h
 obtain ⟨r3, h4, h⟩ := bo h
 obtain ⟨h5, h⟩|⟨h5, h⟩ := ite_out h
 ·obtain rfl := oi h; exact rf Tryz.func13 (some [11, 12, 13, 14, 15, 16, 17, 18]) [.b r3, .t] (pc (k_palingref16_Fits h4)<|pc h5<|pn)
 ·obtain ⟨r6, h7, h⟩ := bo h
  obtain ⟨h8, h⟩|⟨h8, h⟩ := ite_out h
  ·obtain rfl := oi h; exact rf Tryz.func13 (some [11, 12, 13, 14, 15, 16, 17, 18]) [.b r3, .f, .callv (.j r6), .t] (pc (k_palingref16_Fits h4)<|pc h5<|pc (k_palingref15_Device h7)<|pc h8<|pn)
  ·obtain ⟨r9, h10, h⟩ := bo h
   obtain ⟨h11, h⟩|⟨h11, h⟩ := ite_out h
   ·obtain rfl := oi h; exact rf Tryz.func13 (some [11, 12, 13, 14, 15, 16, 17, 18]) [.b r3, .f, .callv (.j r6), .f, .callv (.j r9), .t] (pc (k_palingref16_Fits h4)<|pc h5<|pc (k_palingref15_Device h7)<|pc h8<|pc (k_palingref15_Vrf h10)<|pc h11<|pn)
   ·obtain ⟨r12, h13, h⟩ := bo h
    obtain ⟨h14, h⟩|⟨h14, h⟩ := ite_out h
    ·obtain rfl := oi h; exact rf Tryz.func13 (some [11, 12, 13, 14, 15, 16, 17, 18]) [.b r3, .f, .callv (.j r6), .f, .callv (.j r9), .f, .callv (.j r12), .t] (pc (k_palingref16_Fits h4)<|pc h5<|pc (k_palingref15_Device h7)<|pc h8<|pc (k_palingref15_Vrf h10)<|pc h11<|pc (k_palingref15_At h13)<|pc h14<|pn)
    ·obtain ⟨x15, h16, h⟩ := bo h
     obtain ⟨h17, h⟩|⟨h17, h⟩ := ite_out h
     ·obtain rfl := oi h; exact rf Tryz.func13 (some [11, 12, 13, 14, 15, 16, 17, 18]) [.b r3, .f, .callv (.j r6), .f, .callv (.j r9), .f, .callv (.j r12), .f, .row (c90 x15), .t] (pc (k_palingref16_Fits h4)<|pc h5<|pc (k_palingref15_Device h7)<|pc h8<|pc (k_palingref15_Vrf h10)<|pc h11<|pc (k_palingref15_At h13)<|pc h14<|pc (ob90 h16)<|pc h17<|pn)
     ·obtain ⟨r18, h19, h⟩ := bo h
      obtain ⟨h20, h⟩|⟨h20, h⟩ := ite_out h
      ·obtain rfl := oi h; exact rf Tryz.func13 (some [11, 12, 13, 14, 15, 16, 17, 18]) [.b r3, .f, .callv (.j r6), .f, .callv (.j r9), .f, .callv (.j r12), .f, .row (c90 x15), .f, .b r18, .t] (pc (k_palingref16_Fits h4)<|pc h5<|pc (k_palingref15_Device h7)<|pc h8<|pc (k_palingref15_Vrf h10)<|pc h11<|pc (k_palingref15_At h13)<|pc h14<|pc (ob90 h16)<|pc h17<|pc (k_palingref20_taken h19)<|pc h20<|pn)
      ·obtain ⟨r21, h22, h⟩ := bo h
       obtain ⟨l23, l24, l25, l26⟩ := r21
       obtain ⟨h27, h⟩|⟨h27, h⟩ := ite_out h
       ·obtain ⟨x28, h29, h⟩ := bo h
        obtain ⟨r30, h31, h⟩ := bo h
        obtain ⟨h32, h⟩|⟨h32, h⟩ := ite_out h
        ·obtain rfl := oi h; exact rf Tryz.func13 (some [11, 12, 13, 14, 15, 16, 17, 18]) [.b r3, .f, .callv (.j r6), .f, .callv (.j r9), .f, .callv (.j r12), .f, .row (c90 x15), .f, .b r18, .f, .callm [] (.agg [.os 0 a1.devices.length, .os 1 a1.ports.length, .os 2 a1.links.length, .os 3 a1.domains.length, .os 4 a1.statics.length, .os 5 a1.floods.length, .os 6 a1.vrfs.length, .os 7 a1.irbs.length]) [.w 56 a1.devices, .arr 110 l23 a1.ports.length false, .w 174 a1.links, .arr 90 l24 a1.domains.length false, .w 178 a1.statics, .arr 113 l25 a1.floods.length false, .arr 88 l26 a1.vrfs.length false, .w 105 a1.irbs], .row (c90 x28), .obj [] (.arr 90 (List.set l24 r12.toNat (⟨x28.dev, x28.vlan, x28.vni, (a1.irbs.length : Int), x28.row, x28.peers⟩ : Api_Domain)) a1.domains.length false), .callv (.j r30), .obj [] (.w 105 [(⟨a2.row, r12, r30, (⟨a2.addr, a2.bits⟩ : Api_Prefix)⟩ : Api_Irb)]), .obj [] (.w 105 (a1.irbs ++ [(⟨a2.row, r12, r30, (⟨a2.addr, a2.bits⟩ : Api_Prefix)⟩ : Api_Irb)]))] (pc (k_palingref16_Fits h4)<|pc h5<|pc (k_palingref15_Device h7)<|pc h8<|pc (k_palingref15_Vrf h10)<|pc h11<|pc (k_palingref15_At h13)<|pc h14<|pc (ob90 h16)<|pc h17<|pc (k_palingref20_taken h19)<|pc h20<|pc (k_palingref15_Copy h22)<|pc (an a1.domains.length (lin_ob h27))<|pc (rn a1.domains.length)<|pc (st_ob (e := 90) (n := a1.domains.length) (l := l24) (i := r12.toNat) (⟨x28.dev, x28.vlan, x28.vni, (a1.irbs.length : Int), x28.row, x28.peers⟩ : Api_Domain) [.j x28.dev, .j x28.vlan, .j x28.vni, .j (a1.irbs.length : Int), .j x28.row, .sl 3 x28.peers] (obn90 h29) rfl)<|pc (k_palingref15_Vrf h31)<|pc (bs_ob 105 [(⟨a2.row, r12, r30, (⟨a2.addr, a2.bits⟩ : Api_Prefix)⟩ : Api_Irb)])<|pc (app_ob 105 (n := a1.irbs.length) (l := a1.irbs) (xs := [(⟨a2.row, r12, r30, (⟨a2.addr, a2.bits⟩ : Api_Prefix)⟩ : Api_Irb)]) h32)<|pn)
        ·cases h
       ·cases h

end Go.Eng
