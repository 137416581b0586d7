/- Part of the proof of OverlayMeshes: printed mirrors of the functions, or their contracts. No conditions. -/
import Derived.Test.YtcclngfmkodgjaaGreatMAK
set_option linter.unusedVariables false
set_option maxRecDepth 100000
namespace Go.Eng
open Go Go.Proofs
theorem k_palinglaw15_Great_L1 {a1 : Api_Net} : LoopOK Tryz.prog UU 0 123 (subC (codeOf Tryz.f15) [1, 1, 0, 1, 0, 0]) (ρ := Unit ⊕ Unit) (palinglaw15_Great_L1 a1)
  (fun v10 : Int => ([(1, .o 0), (2, .y false), (3, .j v10)] : Fr DD)) (fun v10 : Int => ([.box 31 (c31 a1) false] : Heap DD)) (fun r => match r with | Sum.inl _ => .ret | Sum.inr _ => .exit 0) (fun r => match r with | Sum.inl _ => [(2, .y true)] | Sum.inr _ => [(1, .o 0), (2, .y false)]) (fun r => match r with | Sum.inl _ => [] | Sum.inr _ => [.box 31 (c31 a1) false]) := by
 refine loop_sound3 (fun s q h => ?_) (fun r => ?_)
 ·replace h : palinglaw15_Great_L1 a1 s = some q := h; revert h; revert s; intro v10 h
  unfold palinglaw15_Great_L1 at h
  obtain ⟨h11, h⟩|⟨h11, h⟩ := ite_out h
  ·obtain ⟨x12, h13, h⟩ := bo h
   obtain ⟨h14, h⟩|⟨h14, h⟩ := ite_out h
   ·obtain rfl := oi h; exact rl [2] [] [.t, .row (c110 x12), .t] (pc h11<|pc (ob110 h13)<|pc h14<|pn)
   ·obtain rfl := oi h; exact rl [1, 2, 3] [0] [.t, .row (c110 x12), .f] (pc h11<|pc (ob110 h13)<|pc h14<|pn)
  ·obtain rfl := oi h; exact rl [1, 2] [0] [.f] (pc h11<|pn)
 ·rcases r with _ | _ <;> exact Ex.noConfusion

theorem k_palinglaw15_Great_L2 {a1 : Api_Net} : LoopOK Tryz.prog UU 0 123 (subC (codeOf Tryz.f15) [1, 1, 1, 0, 1, 0, 0]) (ρ := Unit ⊕ Unit) (palinglaw15_Great_L2 a1)
  (fun v17 : Int => ([(1, .o 0), (2, .y false), (4, .j v17)] : Fr DD)) (fun v17 : Int => ([.box 31 (c31 a1) false] : Heap DD)) (fun r => match r with | Sum.inl _ => .ret | Sum.inr _ => .exit 2) (fun r => match r with | Sum.inl _ => [(2, .y true)] | Sum.inr _ => [(1, .o 0), (2, .y false)]) (fun r => match r with | Sum.inl _ => [] | Sum.inr _ => [.box 31 (c31 a1) false]) := by
 refine loop_sound3 (fun s q h => ?_) (fun r => ?_)
 ·replace h : palinglaw15_Great_L2 a1 s = some q := h; revert h; revert s; intro v17 h
  unfold palinglaw15_Great_L2 at h
  obtain ⟨h18, h⟩|⟨h18, h⟩ := ite_out h
  ·obtain ⟨x19, h20, h⟩ := bo h
   obtain ⟨h21, h⟩|⟨h21, h⟩ := ite_out h
   ·obtain rfl := oi h; exact rl [2] [] [.t, .row (c90 x19), .t] (pc h18<|pc (ob90 h20)<|pc h21<|pn)
   ·obtain rfl := oi h; exact rl [1, 2, 4] [0] [.t, .row (c90 x19), .f] (pc h18<|pc (ob90 h20)<|pc h21<|pn)
  ·obtain rfl := oi h; exact rl [1, 2] [0] [.f] (pc h18<|pn)
 ·rcases r with _ | _ <;> exact Ex.noConfusion

theorem k_palinglaw15_Great_L3 {a1 : Api_Net} : LoopOK Tryz.prog UU 0 123 (subC (codeOf Tryz.f15) [1, 1, 1, 1, 0, 1, 0, 0]) (ρ := Unit ⊕ Unit) (palinglaw15_Great_L3 a1)
  (fun v24 : Int => ([(1, .o 0), (2, .y false), (5, .j v24)] : Fr DD)) (fun v24 : Int => ([.box 31 (c31 a1) false] : Heap DD)) (fun r => match r with | Sum.inl _ => .ret | Sum.inr _ => .exit 4) (fun r => match r with | Sum.inl _ => [(2, .y true)] | Sum.inr _ => [(1, .o 0), (2, .y false)]) (fun r => match r with | Sum.inl _ => [] | Sum.inr _ => [.box 31 (c31 a1) false]) := by
 refine loop_sound3 (fun s q h => ?_) (fun r => ?_)
 ·replace h : palinglaw15_Great_L3 a1 s = some q := h; revert h; revert s; intro v24 h
  unfold palinglaw15_Great_L3 at h
  obtain ⟨h25, h⟩|⟨h25, h⟩ := ite_out h
  ·obtain ⟨x26, h27, h⟩ := bo h
   obtain ⟨h28, h⟩|⟨h28, h⟩ := ite_out h
   ·obtain rfl := oi h; exact rl [2] [] [.t, .row (c113 x26), .t] (pc h25<|pc (ob113 h27)<|pc h28<|pn)
   ·obtain rfl := oi h; exact rl [1, 2, 5] [0] [.t, .row (c113 x26), .f] (pc h25<|pc (ob113 h27)<|pc h28<|pn)
  ·obtain rfl := oi h; exact rl [1, 2] [0] [.f] (pc h25<|pn)
 ·rcases r with _ | _ <;> exact Ex.noConfusion

theorem k_palinglaw15_Great_L4 {a1 : Api_Net} : LoopOK Tryz.prog UU 0 123 (subC (codeOf Tryz.f15) [1, 1, 1, 1, 1, 0, 1, 0, 0]) (ρ := Unit ⊕ Unit) (palinglaw15_Great_L4 a1)
  (fun v31 : Int => ([(1, .o 0), (2, .y false), (6, .j v31)] : Fr DD)) (fun v31 : Int => ([.box 31 (c31 a1) false] : Heap DD)) (fun r => match r with | Sum.inl _ => .ret | Sum.inr _ => .exit 6) (fun r => match r with | Sum.inl _ => [(2, .y true)] | Sum.inr _ => [(2, .y false)]) (fun r => match r with | Sum.inl _ => [] | Sum.inr _ => []) := by
 refine loop_sound3 (fun s q h => ?_) (fun r => ?_)
 ·replace h : palinglaw15_Great_L4 a1 s = some q := h; revert h; revert s; intro v31 h
  unfold palinglaw15_Great_L4 at h
  obtain ⟨h32, h⟩|⟨h32, h⟩ := ite_out h
  ·obtain ⟨x33, h34, h⟩ := bo h
   obtain ⟨h35, h⟩|⟨h35, h⟩ := ite_out h
   ·obtain rfl := oi h; exact rl [2] [] [.t, .row (c88 x33), .t] (pc h32<|pc (ob88 h34)<|pc h35<|pn)
   ·obtain ⟨x36, h37, h⟩ := bo h
    obtain ⟨h38, h⟩|⟨h38, h⟩ := ite_out h
    ·obtain rfl := oi h; exact rl [2] [] [.t, .row (c88 x33), .f, .row (c88 x36), .t] (pc h32<|pc (ob88 h34)<|pc h35<|pc (ob88 h37)<|pc h38<|pn)
    ·obtain rfl := oi h; exact rl [1, 2, 6] [0] [.t, .row (c88 x33), .f, .row (c88 x36), .f] (pc h32<|pc (ob88 h34)<|pc h35<|pc (ob88 h37)<|pc h38<|pn)
  ·obtain rfl := oi h; exact rl [2] [] [.f] (pc h32<|pn)
 ·rcases r with _ | _ <;> exact Ex.noConfusion

theorem k_palinglaw15_Great {a1 : Api_Net} {r : Bool} (h : palinglaw15_Great a1 = some r) :
  CallsOK Tryz.prog UU 15 [.agg (c31 a1)] [] (.y r) [] := by
 unfold palinglaw15_Great at h
 obtain ⟨h2, h⟩|⟨h2, h⟩ := ite_out h
 ·obtain rfl := oi h; exact rf Tryz.func15 none [.t] (pc h2<|pn)
 ·obtain ⟨h3, h⟩|⟨h3, h⟩ := ite_out h
  ·obtain rfl := oi h; exact rf Tryz.func15 none [.f, .t] (pc h2<|pc h3<|pn)
  ·obtain ⟨h4, h⟩|⟨h4, h⟩ := ite_out h
   ·obtain rfl := oi h; exact rf Tryz.func15 none [.f, .f, .t] (pc h2<|pc h3<|pc h4<|pn)
   ·obtain ⟨h5, h⟩|⟨h5, h⟩ := ite_out h
    ·obtain rfl := oi h; exact rf Tryz.func15 none [.f, .f, .f, .t] (pc h2<|pc h3<|pc h4<|pc h5<|pn)
    ·obtain ⟨h6, h⟩|⟨h6, h⟩ := ite_out h
     ·obtain rfl := oi h; exact rf Tryz.func15 none [.f, .f, .f, .f, .t] (pc h2<|pc h3<|pc h4<|pc h5<|pc h6<|pn)
     ·obtain ⟨h7, h⟩|⟨h7, h⟩ := ite_out h
      ·obtain rfl := oi h; exact rf Tryz.func15 none [.f, .f, .f, .f, .f, .t] (pc h2<|pc h3<|pc h4<|pc h5<|pc h6<|pc h7<|pn)
      ·obtain ⟨h8, h⟩|⟨h8, h⟩ := ite_out h
       ·obtain rfl := oi h; exact rf Tryz.func15 none [.f, .f, .f, .f, .f, .f, .t] (pc h2<|pc h3<|pc h4<|pc h5<|pc h6<|pc h7<|pc h8<|pn)
       ·obtain ⟨h9, h⟩|⟨h9, h⟩ := ite_out h
        ·obtain rfl := oi h; exact rf Tryz.func15 none [.f, .f, .f, .f, .f, .f, .f, .t] (pc h2<|pc h3<|pc h4<|pc h5<|pc h6<|pc h7<|pc h8<|pc h9<|pn)
        ·obtain ⟨r16, h15, h⟩ := bo h
         rcases r16 with _ | _
         ·obtain rfl := oi h; exact rf Tryz.func15 none [.f, .f, .f, .f, .f, .f, .f, .f, .sum [1, 2, 3] [0] .ret [(2, .y true)] []] (pc h2<|pc h3<|pc h4<|pc h5<|pc h6<|pc h7<|pc h8<|pc h9<|pc (k_palinglaw15_Great_L1 _ _ h15)<|pn)
         ·obtain ⟨r23, h22, h⟩ := bo h
          rcases r23 with _ | _
          ·obtain rfl := oi h; exact rf Tryz.func15 none [.f, .f, .f, .f, .f, .f, .f, .f, .sum [1, 2, 3] [0] (.exit 0) [(1, .o 0), (2, .y false)] [.box 31 (c31 a1) false], .sum [1, 2, 4] [0] .ret [(2, .y true)] []] (pc h2<|pc h3<|pc h4<|pc h5<|pc h6<|pc h7<|pc h8<|pc h9<|pc (k_palinglaw15_Great_L1 _ _ h15)<|pc (k_palinglaw15_Great_L2 _ _ h22)<|pn)
          ·obtain ⟨r30, h29, h⟩ := bo h
           rcases r30 with _ | _
           ·obtain rfl := oi h; exact rf Tryz.func15 none [.f, .f, .f, .f, .f, .f, .f, .f, .sum [1, 2, 3] [0] (.exit 0) [(1, .o 0), (2, .y false)] [.box 31 (c31 a1) false], .sum [1, 2, 4] [0] (.exit 2) [(1, .o 0), (2, .y false)] [.box 31 (c31 a1) false], .sum [1, 2, 5] [0] .ret [(2, .y true)] []] (pc h2<|pc h3<|pc h4<|pc h5<|pc h6<|pc h7<|pc h8<|pc h9<|pc (k_palinglaw15_Great_L1 _ _ h15)<|pc (k_palinglaw15_Great_L2 _ _ h22)<|pc (k_palinglaw15_Great_L3 _ _ h29)<|pn)
           ·obtain ⟨r40, h39, h⟩ := bo h
            rcases r40 with _ | _
            ·obtain rfl := oi h; exact rf Tryz.func15 none [.f, .f, .f, .f, .f, .f, .f, .f, .sum [1, 2, 3] [0] (.exit 0) [(1, .o 0), (2, .y false)] [.box 31 (c31 a1) false], .sum [1, 2, 4] [0] (.exit 2) [(1, .o 0), (2, .y false)] [.box 31 (c31 a1) false], .sum [1, 2, 5] [0] (.exit 4) [(1, .o 0), (2, .y false)] [.box 31 (c31 a1) false], .sum [1, 2, 6] [0] .ret [(2, .y true)] []] (pc h2<|pc h3<|pc h4<|pc h5<|pc h6<|pc h7<|pc h8<|pc h9<|pc (k_palinglaw15_Great_L1 _ _ h15)<|pc (k_palinglaw15_Great_L2 _ _ h22)<|pc (k_palinglaw15_Great_L3 _ _ h29)<|pc (k_palinglaw15_Great_L4 _ _ h39)<|pn)
            ·obtain rfl := oi h; exact rf Tryz.func15 none [.f, .f, .f, .f, .f, .f, .f, .f, .sum [1, 2, 3] [0] (.exit 0) [(1, .o 0), (2, .y false)] [.box 31 (c31 a1) false], .sum [1, 2, 4] [0] (.exit 2) [(1, .o 0), (2, .y false)] [.box 31 (c31 a1) false], .sum [1, 2, 5] [0] (.exit 4) [(1, .o 0), (2, .y false)] [.box 31 (c31 a1) false], .sum [1, 2, 6] [0] (.exit 6) [(2, .y false)] []] (pc h2<|pc h3<|pc h4<|pc h5<|pc h6<|pc h7<|pc h8<|pc h9<|pc (k_palinglaw15_Great_L1 _ _ h15)<|pc (k_palinglaw15_Great_L2 _ _ h22)<|pc (k_palinglaw15_Great_L3 _ _ h29)<|pc (k_palinglaw15_Great_L4 _ _ h39)<|pn)

theorem k_stmt_within {a1 : Int} {a2 : Int} {a3 : Int} {r : Bool} (h : stmt_within a1 a2 a3 = some r) :
  CallsOK Tryz.prog UU 215 [.j a1, .j a2, .j a3] [] (.y r) [] := by
 unfold stmt_within at h
 obtain ⟨h4, h⟩|⟨h4, h⟩ := ite_out h
 ·obtain rfl := oi h; exact rf Tryz.func215 none [.t] (pc h4<|pn)
 ·obtain rfl := oi h; exact rf Tryz.func215 none [.f] (pc h4<|pn)

theorem k_mac_IsHost {a1 : Int} {r : Int × Bool} (h : mac_IsHost a1 = some r) :
  CallsOK Tryz.prog UU 244 [.v (.int .u64 a1)] [] (.tup [.v (.int .u32 r.1), .y r.2]) [] := by
 unfold mac_IsHost at h
 obtain ⟨h2, h⟩|⟨h2, h⟩ := ite_out h
 ·obtain rfl := oi h; exact rf Tryz.func244 none [.t] (pc (show (0 : Int) ≤ 32 from by decide)<|pc h2<|pn)
 ·obtain rfl := oi h; exact rf Tryz.func244 none [.f] (pc (show (0 : Int) ≤ 32 from by decide)<|pc h2<|pn)

theorem k_mac_Group {a1 : Int} {r : Bool} (h : mac_Group a1 = some r) :
  CallsOK Tryz.prog UU 245 [.v (.int .u64 a1)] [] (.y r) [] := by
 unfold mac_Group at h
 obtain rfl := oi h; exact rf Tryz.func245 none [] (pn)

theorem k_stmt_station {a1 : Int} {r : Bool} (h : stmt_station a1 = some r) :
  CallsOK Tryz.prog UU 216 [.v (.int .u64 a1)] [] (.y r) [] := by
 unfold stmt_station at h
 obtain ⟨r2, h3, h⟩ := bo h
 obtain ⟨h4, h⟩|⟨h4, h⟩ := ite_out h
 ·obtain ⟨h5, h⟩|⟨h5, h⟩ := ite_out h
  ·obtain ⟨r6, h7, h⟩ := bo h
   obtain rfl := oi h; exact rf Tryz.func216 none [.callv (.tup [.v (.int .u32 r2.1), .y r2.2]), .t, .t, .b r6] (pc (k_mac_IsHost h3)<|pc h4<|pc h5<|pc (k_mac_Group h7)<|pn)
  ·obtain rfl := oi h; exact rf Tryz.func216 none [.callv (.tup [.v (.int .u32 r2.1), .y r2.2]), .t, .f] (pc (k_mac_IsHost h3)<|pc h4<|pc h5<|pn)
 ·obtain rfl := oi h; exact rf Tryz.func216 none [.callv (.tup [.v (.int .u32 r2.1), .y r2.2]), .f] (pc (k_mac_IsHost h3)<|pc h4<|pn)

theorem k_num_Name_L1 {a1 : ByteArray} : LoopOK Tryz.prog UU 0 50 (subC (codeOf Tryz.f166) [1, 0, 1, 0, 0]) (ρ := Unit ⊕ Unit) (num_Name_L1 a1)
  (fun v2 : Int => ([(0, .x a1), (2, .y false), (7, .j (a1.size : Int)), (8, .j v2)] : Fr DD)) (fun v2 : Int => ([] : Heap DD)) (fun r => match r with | Sum.inl _ => .ret | Sum.inr _ => .exit 0) (fun r => match r with | Sum.inl _ => [(2, .y false)] | Sum.inr _ => [(0, .x a1), (2, .y false)]) (fun r => match r with | Sum.inl _ => [] | Sum.inr _ => []) := by
 refine loop_sound3 (fun s q h => ?_) (fun r => ?_)
 ·replace h : num_Name_L1 a1 s = some q := h; revert h; revert s; intro v2 h
  unfold num_Name_L1 at h
  obtain ⟨h3, h⟩|⟨h3, h⟩ := ite_out h
  ·obtain ⟨h4, h⟩|⟨h4, h⟩ := ite_out h
   ·obtain ⟨h5, h⟩|⟨h5, h⟩ := ite_out h
    ·obtain ⟨h6, h⟩|⟨h6, h⟩ := ite_out h
     ·obtain ⟨h7, h⟩|⟨h7, h⟩ := ite_out h
      ·obtain ⟨h8, h⟩|⟨h8, h⟩ := ite_out h
       ·obtain rfl := oi h; exact rl [2] [] [.t, .t, .t, .t, .t] (pc h3<|pc (of_decide_eq_true h4)<|pc h5<|pd (of_decide_eq_true h4)<|pc h6<|pc (of_decide_eq_true h4)<|pc h7<|pc h8<|pn)
       ·obtain ⟨h9, h⟩|⟨h9, h⟩ := ite_out h
        ·obtain rfl := oi h; exact rl [2] [] [.t, .t, .t, .t, .f, .t] (pc h3<|pc (of_decide_eq_true h4)<|pc h5<|pd (of_decide_eq_true h4)<|pc h6<|pc (of_decide_eq_true h4)<|pc h7<|pc h8<|pc h9<|pn)
        ·obtain rfl := oi h; exact rl [0, 2, 7, 8] [] [.t, .t, .t, .t, .f, .f] (pc h3<|pc (of_decide_eq_true h4)<|pc h5<|pd (of_decide_eq_true h4)<|pc h6<|pc (of_decide_eq_true h4)<|pc h7<|pc h8<|pc h9<|pn)
      ·obtain rfl := oi h; exact rl [0, 2, 7, 8] [] [.t, .t, .t, .f] (pc h3<|pc (of_decide_eq_true h4)<|pc h5<|pd (of_decide_eq_true h4)<|pc h6<|pc (of_decide_eq_true h4)<|pc h7<|pn)
     ·obtain ⟨h10, h⟩|⟨h10, h⟩ := ite_out h
      ·obtain rfl := oi h; exact rl [2] [] [.t, .t, .f, .t, .t] (pc h3<|pc (of_decide_eq_true h4)<|pc h5<|pd (of_decide_eq_true h4)<|pc h6<|pc h10<|pc (rfl : (!false) = true)<|pn)
      ·obtain rfl := oi h; exact rl [0, 2, 7, 8] [] [.t, .t, .f, .f] (pc h3<|pc (of_decide_eq_true h4)<|pc h5<|pd (of_decide_eq_true h4)<|pc h6<|pc h10<|pn)
    ·obtain ⟨h11, h⟩|⟨h11, h⟩ := ite_out h
     ·obtain ⟨h12, h⟩|⟨h12, h⟩ := ite_out h
      ·obtain rfl := oi h; exact rl [2] [] [.t, .f, .t, .t, .t] (pc h3<|pc (of_decide_eq_true h4)<|pc h5<|pc (of_decide_eq_true h4)<|pc h11<|pc (of_decide_eq_true h4)<|pc (rfl : (!false) = true)<|pc h12<|pn)
      ·obtain ⟨h13, h⟩|⟨h13, h⟩ := ite_out h
       ·obtain rfl := oi h; exact rl [2] [] [.t, .f, .t, .t, .f, .t] (pc h3<|pc (of_decide_eq_true h4)<|pc h5<|pc (of_decide_eq_true h4)<|pc h11<|pc (of_decide_eq_true h4)<|pc (rfl : (!false) = true)<|pc h12<|pc h13<|pn)
       ·obtain rfl := oi h; exact rl [0, 2, 7, 8] [] [.t, .f, .t, .t, .f, .f] (pc h3<|pc (of_decide_eq_true h4)<|pc h5<|pc (of_decide_eq_true h4)<|pc h11<|pc (of_decide_eq_true h4)<|pc (rfl : (!false) = true)<|pc h12<|pc h13<|pn)
     ·obtain rfl := oi h; exact rl [2] [] [.t, .f, .f, .t, .t] (pc h3<|pc (of_decide_eq_true h4)<|pc h5<|pc (of_decide_eq_true h4)<|pc h11<|pd (rfl : (!false) = true)<|pn)
   ·cases h
  ·obtain rfl := oi h; exact rl [0, 2] [] [.f] (pc h3<|pn)
 ·rcases r with _ | _ <;> exact Ex.noConfusion

theorem k_num_Name {a1 : ByteArray} {r : Bool} (h : num_Name a1 = some r) :
  CallsOK Tryz.prog UU 166 [.x a1] [] (.y r) [] := by
 unfold num_Name at h
 obtain ⟨r15, h14, h⟩ := bo h
 rcases r15 with _ | _
 ·obtain rfl := oi h; exact rf Tryz.func166 none [.sum [0, 2, 7, 8] [] .ret [(2, .y false)] []] (pc (k_num_Name_L1 _ _ h14)<|pn)
 ·obtain ⟨h16, h⟩|⟨h16, h⟩ := ite_out h
  ·obtain rfl := oi h; exact rf Tryz.func166 none [.sum [0, 2, 7, 8] [] (.exit 0) [(0, .x a1), (2, .y false)] [], .t] (pc (k_num_Name_L1 _ _ h14)<|pc h16<|pn)
  ·obtain rfl := oi h; exact rf Tryz.func166 none [.sum [0, 2, 7, 8] [] (.exit 0) [(0, .x a1), (2, .y false)] [], .f] (pc (k_num_Name_L1 _ _ h14)<|pc h16<|pn)

theorem k_num_Rising_L1 {a1 : List Int} {a2 : Int} {a3 : Int} : LoopOK Tryz.prog UU 0 46 (subC (codeOf Tryz.f200) [1, 0, 1, 0, 0]) (ρ := Unit ⊕ Unit) (num_Rising_L1 a1 a2 a3)
  (fun v4 : Int => ([(0, .sl 3 a1), (1, .j a2), (2, .j a3), (6, .y false), (9, .sl 3 a1), (10, .j (a1.length : Int)), (11, .j v4)] : Fr DD)) (fun v4 : Int => ([] : Heap DD)) (fun r => match r with | Sum.inl _ => .ret | Sum.inr _ => .exit 0) (fun r => match r with | Sum.inl _ => [(6, .y false)] | Sum.inr _ => [(0, .sl 3 a1), (6, .y false)]) (fun r => match r with | Sum.inl _ => [] | Sum.inr _ => []) := by
 refine loop_sound3 (fun s q h => ?_) (fun r => ?_)
 ·replace h : num_Rising_L1 a1 a2 a3 s = some q := h; revert h; revert s; intro v4 h
  unfold num_Rising_L1 at h
  obtain ⟨h5, h⟩|⟨h5, h⟩ := ite_out h
  ·obtain ⟨x6, h7, h⟩ := bo h
   obtain ⟨h8, h⟩|⟨h8, h⟩ := ite_out h
   ·obtain rfl := oi h; exact rl [6] [] [.t, .row (c3 x6), .t] (pc h5<|pc (ob3 h7)<|pc h8<|pn)
   ·obtain ⟨h9, h⟩|⟨h9, h⟩ := ite_out h
    ·obtain rfl := oi h; exact rl [6] [] [.t, .row (c3 x6), .f, .t] (pc h5<|pc (ob3 h7)<|pc h8<|pc h9<|pn)
    ·obtain ⟨h10, h⟩|⟨h10, h⟩ := ite_out h
     ·obtain ⟨x11, h12, h⟩ := bo h
      obtain ⟨h13, h⟩|⟨h13, h⟩ := ite_out h
      ·obtain rfl := oi h; exact rl [6] [] [.t, .row (c3 x6), .f, .f, .t, .row (c3 x11), .t] (pc h5<|pc (ob3 h7)<|pc h8<|pc h9<|pc h10<|pc (ob3 h12)<|pc h13<|pn)
      ·obtain rfl := oi h; exact rl [0, 1, 2, 6, 9, 10, 11] [] [.t, .row (c3 x6), .f, .f, .t, .row (c3 x11), .f] (pc h5<|pc (ob3 h7)<|pc h8<|pc h9<|pc h10<|pc (ob3 h12)<|pc h13<|pn)
     ·obtain rfl := oi h; exact rl [0, 1, 2, 6, 9, 10, 11] [] [.t, .row (c3 x6), .f, .f, .f] (pc h5<|pc (ob3 h7)<|pc h8<|pc h9<|pc h10<|pn)
  ·obtain rfl := oi h; exact rl [0, 6] [] [.f] (pc h5<|pn)
 ·rcases r with _ | _ <;> exact Ex.noConfusion

theorem k_num_Rising {a1 : List Int} {a2 : Int} {a3 : Int} {r : Bool} (h : num_Rising a1 a2 a3 = some r) :
  CallsOK Tryz.prog UU 200 [.sl 3 a1, .j a2, .j a3] [] (.y r) [] := by
 unfold num_Rising at h
 obtain ⟨r15, h14, h⟩ := bo h
 rcases r15 with _ | _
 ·obtain rfl := oi h; exact rf Tryz.func200 none [.sum [0, 1, 2, 6, 9, 10, 11] [] .ret [(6, .y false)] []] (pc (k_num_Rising_L1 _ _ h14)<|pn)
 ·obtain ⟨h16, h⟩|⟨h16, h⟩ := ite_out h
  ·obtain rfl := oi h; exact rf Tryz.func200 none [.sum [0, 1, 2, 6, 9, 10, 11] [] (.exit 0) [(0, .sl 3 a1), (6, .y false)] [], .t] (pc (k_num_Rising_L1 _ _ h14)<|pc h16<|pn)
  ·obtain rfl := oi h; exact rf Tryz.func200 none [.sum [0, 1, 2, 6, 9, 10, 11] [] (.exit 0) [(0, .sl 3 a1), (6, .y false)] [], .f] (pc (k_num_Rising_L1 _ _ h14)<|pc h16<|pn)

theorem k_stmt_list {a1 : List Int} {a2 : Int} {r : Bool} (h : stmt_list a1 a2 = some r) :
  CallsOK Tryz.prog UU 217 [.sl 3 a1, .j a2] [] (.y r) [] := by
 unfold stmt_list at h
 obtain ⟨h3, h⟩|⟨h3, h⟩ := ite_out h
 ·obtain rfl := oi h; exact rf Tryz.func217 none [.t] (pc h3<|pn)
 ·obtain ⟨r4, h5, h⟩ := bo h
  obtain rfl := oi h; exact rf Tryz.func217 none [.f, .b r4] (pc h3<|pc (k_num_Rising h5)<|pn)

theorem k_slices_Index_int_L1 {a1 : List Int} {a2 : Int} : LoopOK Tryz.prog UU 0 19 (subC (codeOf Tryz.f76) [1, 0, 1, 0, 0]) (ρ := Int ⊕ Unit) (slices_Index_int_L1 a1 a2)
  (fun v3 : Int => ([(0, .sl 3 a1), (1, .j a2), (4, .z), (7, .j (a1.length : Int)), (8, .j v3)] : Fr DD)) (fun v3 : Int => ([] : Heap DD)) (fun r => match r with | Sum.inl v9 => .ret | Sum.inr _ => .exit 0) (fun r => match r with | Sum.inl v9 => [(4, .j v9)] | Sum.inr _ => [(4, .z)]) (fun r => match r with | Sum.inl v9 => [] | Sum.inr _ => []) := by
 refine loop_sound3 (fun s q h => ?_) (fun r => ?_)
 ·replace h : slices_Index_int_L1 a1 a2 s = some q := h; revert h; revert s; intro v3 h
  unfold slices_Index_int_L1 at h
  obtain ⟨h4, h⟩|⟨h4, h⟩ := ite_out h
  ·obtain ⟨x5, h6, h⟩ := bo h
   obtain ⟨h7, h⟩|⟨h7, h⟩ := ite_out h
   ·obtain rfl := oi h; exact rl [4] [] [.t, .row (c3 x5), .t] (pc h4<|pc (ob3 h6)<|pc h7<|pn)
   ·obtain rfl := oi h; exact rl [0, 1, 4, 7, 8] [] [.t, .row (c3 x5), .f] (pc h4<|pc (ob3 h6)<|pc h7<|pn)
  ·obtain rfl := oi h; exact rl [4] [] [.f] (pc h4<|pn)
 ·rcases r with _ | _ <;> exact Ex.noConfusion

theorem k_slices_Index_int {a1 : List Int} {a2 : Int} {r : Int} (h : slices_Index_int a1 a2 = some r) :
  CallsOK Tryz.prog UU 76 [.sl 3 a1, .j a2] [] (.j r) [] := by
 unfold slices_Index_int at h
 obtain ⟨r11, h10, h⟩ := bo h
 rcases r11 with v9 | _
 ·obtain rfl := oi h; exact rf Tryz.func76 none [.sum [0, 1, 4, 7, 8] [] .ret [(4, .j v9)] []] (pc (k_slices_Index_int_L1 _ _ h10)<|pn)
 ·obtain rfl := oi h; exact rf Tryz.func76 none [.sum [0, 1, 4, 7, 8] [] (.exit 0) [(4, .z)] []] (pc (k_slices_Index_int_L1 _ _ h10)<|pn)

theorem k_slices_Contains_int {a1 : List Int} {a2 : Int} {r : Bool} (h : slices_Contains_int a1 a2 = some r) :
  CallsOK Tryz.prog UU 97 [.sl 3 a1, .j a2] [] (.y r) [] := by
 unfold slices_Contains_int at h
 obtain ⟨r3, h4, h⟩ := bo h
 obtain rfl := oi h; exact rf Tryz.func97 none [.callv (.j r3)] (pc (k_slices_Index_int h4)<|pn)

theorem k_stmt_members {a1 : Api_Line} {r : Bool} (h : stmt_members a1 = some r) :
  CallsOK Tryz.prog UU 218 [.agg (c37 a1)] [] (.y r) [] := by
 unfold stmt_members at h
 obtain ⟨h2, h⟩|⟨h2, h⟩ := ite_out h
 ·obtain ⟨r3, h4, h⟩ := bo h
  obtain rfl := oi h; exact rf Tryz.func218 none [.t, .b r3] (pc h2<|pc (k_slices_Contains_int h4)<|pn)
 ·obtain ⟨h5, h⟩|⟨h5, h⟩ := ite_out h
  ·obtain ⟨r6, h7, h⟩ := bo h
   obtain rfl := oi h; exact rf Tryz.func218 none [.f, .t, .b r6] (pc h2<|pc h5<|pc (k_slices_Contains_int h7)<|pn)
  ·obtain rfl := oi h; exact rf Tryz.func218 none [.f, .f] (pc h2<|pc h5<|pn)

theorem k_stmt_addrs_L1 {a1 : List Int} : LoopOK Tryz.prog UU 0 36 (subC (codeOf Tryz.f219) [1, 0, 1, 0, 0]) (ρ := Unit ⊕ Unit) (stmt_addrs_L1 a1)
  (fun v2 : Int => ([(0, .sl 33 a1), (2, .y false), (5, .sl 33 a1), (6, .j (a1.length : Int)), (7, .j v2)] : Fr DD)) (fun v2 : Int => ([] : Heap DD)) (fun r => match r with | Sum.inl _ => .ret | Sum.inr _ => .exit 0) (fun r => match r with | Sum.inl _ => [(2, .y false)] | Sum.inr _ => [(0, .sl 33 a1), (2, .y false)]) (fun r => match r with | Sum.inl _ => [] | Sum.inr _ => []) := by
 refine loop_sound3 (fun s q h => ?_) (fun r => ?_)
 ·replace h : stmt_addrs_L1 a1 s = some q := h; revert h; revert s; intro v2 h
  unfold stmt_addrs_L1 at h
  obtain ⟨h3, h⟩|⟨h3, h⟩ := ite_out h
  ·obtain ⟨x4, h5, h⟩ := bo h
   obtain ⟨h6, h⟩|⟨h6, h⟩ := ite_out h
   ·obtain rfl := oi h; exact rl [2] [] [.t, .row (c33 x4), .t] (pc h3<|pc (ob33 h5)<|pc h6<|pn)
   ·obtain ⟨h7, h⟩|⟨h7, h⟩ := ite_out h
    ·obtain ⟨x8, h9, h⟩ := bo h
     obtain ⟨h10, h⟩|⟨h10, h⟩ := ite_out h
     ·obtain rfl := oi h; exact rl [2] [] [.t, .row (c33 x4), .f, .t, .row (c33 x8), .t] (pc h3<|pc (ob33 h5)<|pc h6<|pc h7<|pc (ob33 h9)<|pc h10<|pn)
     ·obtain rfl := oi h; exact rl [0, 2, 5, 6, 7] [] [.t, .row (c33 x4), .f, .t, .row (c33 x8), .f] (pc h3<|pc (ob33 h5)<|pc h6<|pc h7<|pc (ob33 h9)<|pc h10<|pn)
    ·obtain rfl := oi h; exact rl [0, 2, 5, 6, 7] [] [.t, .row (c33 x4), .f, .f] (pc h3<|pc (ob33 h5)<|pc h6<|pc h7<|pn)
  ·obtain rfl := oi h; exact rl [0, 2] [] [.f] (pc h3<|pn)
 ·rcases r with _ | _ <;> exact Ex.noConfusion

theorem k_stmt_addrs {a1 : List Int} {r : Bool} (h : stmt_addrs a1 = some r) :
  CallsOK Tryz.prog UU 219 [.sl 33 a1] [] (.y r) [] := by
 unfold stmt_addrs at h
 obtain ⟨r12, h11, h⟩ := bo h
 rcases r12 with _ | _
 ·obtain rfl := oi h; exact rf Tryz.func219 none [.sum [0, 2, 5, 6, 7] [] .ret [(2, .y false)] []] (pc (k_stmt_addrs_L1 _ _ h11)<|pn)
 ·obtain ⟨h13, h⟩|⟨h13, h⟩ := ite_out h
  ·obtain rfl := oi h; exact rf Tryz.func219 none [.sum [0, 2, 5, 6, 7] [] (.exit 0) [(0, .sl 33 a1), (2, .y false)] [], .t] (pc (k_stmt_addrs_L1 _ _ h11)<|pc h13<|pn)
  ·obtain rfl := oi h; exact rf Tryz.func219 none [.sum [0, 2, 5, 6, 7] [] (.exit 0) [(0, .sl 33 a1), (2, .y false)] [], .f] (pc (k_stmt_addrs_L1 _ _ h11)<|pc h13<|pn)

theorem k_addr_Right {a1 : Api_Prefix} {r : Bool} (h : addr_Right a1 = some r) :
  CallsOK Tryz.prog UU 187 [.agg (c103 a1)] [] (.y r) [] := by
 unfold addr_Right at h
 obtain ⟨h2, h⟩|⟨h2, h⟩ := ite_out h
 ·obtain rfl := oi h; exact rf Tryz.func187 none [.t] (pc h2<|pn)
 ·obtain rfl := oi h; exact rf Tryz.func187 none [.f] (pc h2<|pn)

theorem k_addr_rest {a1 : Api_Prefix} {r : Int} (h : addr_rest a1 = some r) :
  CallsOK Tryz.prog UU 188 [.agg (c103 a1)] [] (.v (.int .u32 r)) [] := by
 unfold addr_rest at h
 obtain ⟨h2, h⟩|⟨h2, h⟩ := ite_out h
 ·obtain rfl := oi h; exact rf Tryz.func188 none [] (pc (of_decide_eq_true h2)<|pn)
 ·cases h

theorem k_addr_First {a1 : Api_Prefix} {r : Int} (h : addr_First a1 = some r) :
  CallsOK Tryz.prog UU 239 [.agg (c103 a1)] [] (.v (.int .u32 r)) [] := by
 unfold addr_First at h
 obtain ⟨r2, h3, h⟩ := bo h
 obtain ⟨h4, h⟩|⟨h4, h⟩ := ite_out h
 ·obtain rfl := oi h; exact rf Tryz.func239 none [.b r2, .t] (pc (k_addr_Right h3)<|pc h4<|pn)
 ·obtain ⟨r5, h6, h⟩ := bo h
  obtain rfl := oi h; exact rf Tryz.func239 none [.b r2, .f, .callv (.v (.int .u32 r5))] (pc (k_addr_Right h3)<|pc h4<|pc (k_addr_rest h6)<|pn)

theorem k_addr_Last {a1 : Api_Prefix} {r : Int} (h : addr_Last a1 = some r) :
  CallsOK Tryz.prog UU 240 [.agg (c103 a1)] [] (.v (.int .u32 r)) [] := by
 unfold addr_Last at h
 obtain ⟨r2, h3, h⟩ := bo h
 obtain ⟨h4, h⟩|⟨h4, h⟩ := ite_out h
 ·obtain rfl := oi h; exact rf Tryz.func240 none [.b r2, .t] (pc (k_addr_Right h3)<|pc h4<|pn)
 ·obtain ⟨r5, h6, h⟩ := bo h
  obtain rfl := oi h; exact rf Tryz.func240 none [.b r2, .f, .callv (.v (.int .u32 r5))] (pc (k_addr_Right h3)<|pc h4<|pc (k_addr_rest h6)<|pn)

theorem k_stmt_subnet {a1 : Api_Prefix} {r : Bool} (h : stmt_subnet a1 = some r) :
  CallsOK Tryz.prog UU 220 [.agg (c103 a1)] [] (.y r) [] := by
 unfold stmt_subnet at h
 obtain ⟨h2, h⟩|⟨h2, h⟩ := ite_out h
 ·obtain ⟨h3, h⟩|⟨h3, h⟩ := ite_out h
  ·obtain ⟨r4, h5, h⟩ := bo h
   obtain ⟨h6, h⟩|⟨h6, h⟩ := ite_out h
   ·obtain ⟨r7, h8, h⟩ := bo h
    obtain rfl := oi h; exact rf Tryz.func220 none [.t, .t, .callv (.v (.int .u32 r4)), .t, .callv (.v (.int .u32 r7))] (pc h2<|pc h3<|pc (k_addr_First h5)<|pc h6<|pc (k_addr_Last h8)<|pn)
   ·obtain rfl := oi h; exact rf Tryz.func220 none [.t, .t, .callv (.v (.int .u32 r4)), .f] (pc h2<|pc h3<|pc (k_addr_First h5)<|pc h6<|pn)
  ·obtain rfl := oi h; exact rf Tryz.func220 none [.t, .f] (pc h2<|pc h3<|pn)
 ·obtain rfl := oi h; exact rf Tryz.func220 none [.f] (pc h2<|pn)

end Go.Eng
