/- Part of the proof of OverlayMeshes: printed mirrors of the functions, or their contracts. No conditions. -/
import Derived.Test.YtcclngfmkodgjaaGreatMAK6
set_option linter.unusedVariables false
set_option maxRecDepth 100000
namespace Go.Eng
open Go Go.Proofs
theorem k_palingref15_tops_L1 {a1 : Api_Net} {a2 : Api_Net} : LoopOK Tryz.prog UU 0 115 (subC (codeOf Tryz.f55) [1, 1, 0, 1, 0, 0]) (ρ := Unit ⊕ Unit) (palingref15_tops_L1 a1 a2)
  (fun v7 : Int => ([(2, .o 0), (3, .o 1), (4, .y false), (5, .j v7)] : Fr DD)) (fun v7 : Int => ([.box 31 (c31 a1) false, .box 31 (c31 a2) false] : Heap DD)) (fun r => match r with | Sum.inl _ => .ret | Sum.inr _ => .exit 0) (fun r => match r with | Sum.inl _ => [(4, .y false)] | Sum.inr _ => [(2, .o 0), (3, .o 1), (4, .y false)]) (fun r => match r with | Sum.inl _ => [] | Sum.inr _ => [.box 31 (c31 a1) false, .box 31 (c31 a2) false]) := by
 refine loop_sound3 (fun s q h => ?_) (fun r => ?_)
 ·replace h : palingref15_tops_L1 a1 a2 s = some q := h; revert h; revert s; intro v7 h
  unfold palingref15_tops_L1 at h
  obtain ⟨h8, h⟩|⟨h8, h⟩ := ite_out h
  ·obtain ⟨x9, h10, h⟩ := bo h
   obtain ⟨x11, h12, h⟩ := bo h
   obtain ⟨h13, h⟩|⟨h13, h⟩ := ite_out h
   ·obtain rfl := oi h; exact rl [4] [] [.t, .row (c56 x9), .row (c56 x11), .t] (pc h8<|pc (ob56 h10)<|pc (ob56 h12)<|pc h13<|pn)
   ·obtain rfl := oi h; exact rl [2, 3, 4, 5] [0, 1] [.t, .row (c56 x9), .row (c56 x11), .f] (pc h8<|pc (ob56 h10)<|pc (ob56 h12)<|pc h13<|pn)
  ·obtain rfl := oi h; exact rl [2, 3, 4] [0, 1] [.f] (pc h8<|pn)
 ·rcases r with _ | _ <;> exact Ex.noConfusion

theorem k_palingref15_tops_L2 {a1 : Api_Net} {a2 : Api_Net} : LoopOK Tryz.prog UU 0 115 (subC (codeOf Tryz.f55) [1, 1, 1, 0, 1, 0, 0]) (ρ := Unit ⊕ Unit) (palingref15_tops_L2 a1 a2)
  (fun v16 : Int => ([(2, .o 0), (3, .o 1), (4, .y false), (6, .j v16)] : Fr DD)) (fun v16 : Int => ([.box 31 (c31 a1) false, .box 31 (c31 a2) false] : Heap DD)) (fun r => match r with | Sum.inl _ => .ret | Sum.inr _ => .exit 2) (fun r => match r with | Sum.inl _ => [(4, .y false)] | Sum.inr _ => [(2, .o 0), (3, .o 1), (4, .y false)]) (fun r => match r with | Sum.inl _ => [] | Sum.inr _ => [.box 31 (c31 a1) false, .box 31 (c31 a2) false]) := by
 refine loop_sound3 (fun s q h => ?_) (fun r => ?_)
 ·replace h : palingref15_tops_L2 a1 a2 s = some q := h; revert h; revert s; intro v16 h
  unfold palingref15_tops_L2 at h
  obtain ⟨h17, h⟩|⟨h17, h⟩ := ite_out h
  ·obtain ⟨x18, h19, h⟩ := bo h
   obtain ⟨x20, h21, h⟩ := bo h
   obtain ⟨h22, h⟩|⟨h22, h⟩ := ite_out h
   ·obtain rfl := oi h; exact rl [4] [] [.t, .row (c174 x18), .row (c174 x20), .t] (pc h17<|pc (ob174 h19)<|pc (ob174 h21)<|pc h22<|pn)
   ·obtain rfl := oi h; exact rl [2, 3, 4, 6] [0, 1] [.t, .row (c174 x18), .row (c174 x20), .f] (pc h17<|pc (ob174 h19)<|pc (ob174 h21)<|pc h22<|pn)
  ·obtain rfl := oi h; exact rl [2, 3, 4] [0, 1] [.f] (pc h17<|pn)
 ·rcases r with _ | _ <;> exact Ex.noConfusion

theorem k_palingref15_tops_L3 {a1 : Api_Net} {a2 : Api_Net} : LoopOK Tryz.prog UU 0 115 (subC (codeOf Tryz.f55) [1, 1, 1, 1, 0, 1, 0, 0]) (ρ := Unit ⊕ Unit) (palingref15_tops_L3 a1 a2)
  (fun v25 : Int => ([(2, .o 0), (3, .o 1), (4, .y false), (7, .j v25)] : Fr DD)) (fun v25 : Int => ([.box 31 (c31 a1) false, .box 31 (c31 a2) false] : Heap DD)) (fun r => match r with | Sum.inl _ => .ret | Sum.inr _ => .exit 4) (fun r => match r with | Sum.inl _ => [(4, .y false)] | Sum.inr _ => [(2, .o 0), (3, .o 1), (4, .y false)]) (fun r => match r with | Sum.inl _ => [] | Sum.inr _ => [.box 31 (c31 a1) false, .box 31 (c31 a2) false]) := by
 refine loop_sound3 (fun s q h => ?_) (fun r => ?_)
 ·replace h : palingref15_tops_L3 a1 a2 s = some q := h; revert h; revert s; intro v25 h
  unfold palingref15_tops_L3 at h
  obtain ⟨h26, h⟩|⟨h26, h⟩ := ite_out h
  ·obtain ⟨x27, h28, h⟩ := bo h
   obtain ⟨x29, h30, h⟩ := bo h
   obtain ⟨h31, h⟩|⟨h31, h⟩ := ite_out h
   ·obtain rfl := oi h; exact rl [4] [] [.t, .row (c178 x27), .row (c178 x29), .t] (pc h26<|pc (ob178 h28)<|pc (ob178 h30)<|pc h31<|pn)
   ·obtain rfl := oi h; exact rl [2, 3, 4, 7] [0, 1] [.t, .row (c178 x27), .row (c178 x29), .f] (pc h26<|pc (ob178 h28)<|pc (ob178 h30)<|pc h31<|pn)
  ·obtain rfl := oi h; exact rl [2, 3, 4] [0, 1] [.f] (pc h26<|pn)
 ·rcases r with _ | _ <;> exact Ex.noConfusion

theorem k_palingref15_tops_L4 {a1 : Api_Net} {a2 : Api_Net} : LoopOK Tryz.prog UU 0 115 (subC (codeOf Tryz.f55) [1, 1, 1, 1, 1, 0, 1, 0, 0]) (ρ := Unit ⊕ Unit) (palingref15_tops_L4 a1 a2)
  (fun v34 : Int => ([(2, .o 0), (3, .o 1), (4, .y false), (8, .j v34)] : Fr DD)) (fun v34 : Int => ([.box 31 (c31 a1) false, .box 31 (c31 a2) false] : Heap DD)) (fun r => match r with | Sum.inl _ => .ret | Sum.inr _ => .exit 6) (fun r => match r with | Sum.inl _ => [(4, .y false)] | Sum.inr _ => [(4, .y false)]) (fun r => match r with | Sum.inl _ => [] | Sum.inr _ => []) := by
 refine loop_sound3 (fun s q h => ?_) (fun r => ?_)
 ·replace h : palingref15_tops_L4 a1 a2 s = some q := h; revert h; revert s; intro v34 h
  unfold palingref15_tops_L4 at h
  obtain ⟨h35, h⟩|⟨h35, h⟩ := ite_out h
  ·obtain ⟨x36, h37, h⟩ := bo h
   obtain ⟨x38, h39, h⟩ := bo h
   obtain ⟨h40, h⟩|⟨h40, h⟩ := ite_out h
   ·obtain rfl := oi h; exact rl [4] [] [.t, .row (c105 x36), .row (c105 x38), .t] (pc h35<|pc (ob105 h37)<|pc (ob105 h39)<|pc h40<|pn)
   ·obtain rfl := oi h; exact rl [2, 3, 4, 8] [0, 1] [.t, .row (c105 x36), .row (c105 x38), .f] (pc h35<|pc (ob105 h37)<|pc (ob105 h39)<|pc h40<|pn)
  ·obtain rfl := oi h; exact rl [4] [] [.f] (pc h35<|pn)
 ·rcases r with _ | _ <;> exact Ex.noConfusion

theorem k_palingref15_tops {a1 : Api_Net} {a2 : Api_Net} {r : Bool} (h : palingref15_tops a1 a2 = some r) :
  CallsOK Tryz.prog UU 55 [.agg (c31 a1), .agg (c31 a2)] [] (.y r) [] := by
 unfold palingref15_tops at h
 obtain ⟨h3, h⟩|⟨h3, h⟩ := ite_out h
 ·obtain rfl := oi h; exact rf Tryz.func55 none [.t] (pc h3<|pn)
 ·obtain ⟨h4, h⟩|⟨h4, h⟩ := ite_out h
  ·obtain rfl := oi h; exact rf Tryz.func55 none [.f, .t] (pc h3<|pc h4<|pn)
  ·obtain ⟨h5, h⟩|⟨h5, h⟩ := ite_out h
   ·obtain rfl := oi h; exact rf Tryz.func55 none [.f, .f, .t] (pc h3<|pc h4<|pc h5<|pn)
   ·obtain ⟨h6, h⟩|⟨h6, h⟩ := ite_out h
    ·obtain rfl := oi h; exact rf Tryz.func55 none [.f, .f, .f, .t] (pc h3<|pc h4<|pc h5<|pc h6<|pn)
    ·obtain ⟨r15, h14, h⟩ := bo h
     rcases r15 with _ | _
     ·obtain rfl := oi h; exact rf Tryz.func55 none [.f, .f, .f, .f, .sum [2, 3, 4, 5] [0, 1] .ret [(4, .y false)] []] (pc h3<|pc h4<|pc h5<|pc h6<|pc (k_palingref15_tops_L1 _ _ h14)<|pn)
     ·obtain ⟨r24, h23, h⟩ := bo h
      rcases r24 with _ | _
      ·obtain rfl := oi h; exact rf Tryz.func55 none [.f, .f, .f, .f, .sum [2, 3, 4, 5] [0, 1] (.exit 0) [(2, .o 0), (3, .o 1), (4, .y false)] [.box 31 (c31 a1) false, .box 31 (c31 a2) false], .sum [2, 3, 4, 6] [0, 1] .ret [(4, .y false)] []] (pc h3<|pc h4<|pc h5<|pc h6<|pc (k_palingref15_tops_L1 _ _ h14)<|pc (k_palingref15_tops_L2 _ _ h23)<|pn)
      ·obtain ⟨r33, h32, h⟩ := bo h
       rcases r33 with _ | _
       ·obtain rfl := oi h; exact rf Tryz.func55 none [.f, .f, .f, .f, .sum [2, 3, 4, 5] [0, 1] (.exit 0) [(2, .o 0), (3, .o 1), (4, .y false)] [.box 31 (c31 a1) false, .box 31 (c31 a2) false], .sum [2, 3, 4, 6] [0, 1] (.exit 2) [(2, .o 0), (3, .o 1), (4, .y false)] [.box 31 (c31 a1) false, .box 31 (c31 a2) false], .sum [2, 3, 4, 7] [0, 1] .ret [(4, .y false)] []] (pc h3<|pc h4<|pc h5<|pc h6<|pc (k_palingref15_tops_L1 _ _ h14)<|pc (k_palingref15_tops_L2 _ _ h23)<|pc (k_palingref15_tops_L3 _ _ h32)<|pn)
       ·obtain ⟨r42, h41, h⟩ := bo h
        rcases r42 with _ | _
        ·obtain rfl := oi h; exact rf Tryz.func55 none [.f, .f, .f, .f, .sum [2, 3, 4, 5] [0, 1] (.exit 0) [(2, .o 0), (3, .o 1), (4, .y false)] [.box 31 (c31 a1) false, .box 31 (c31 a2) false], .sum [2, 3, 4, 6] [0, 1] (.exit 2) [(2, .o 0), (3, .o 1), (4, .y false)] [.box 31 (c31 a1) false, .box 31 (c31 a2) false], .sum [2, 3, 4, 7] [0, 1] (.exit 4) [(2, .o 0), (3, .o 1), (4, .y false)] [.box 31 (c31 a1) false, .box 31 (c31 a2) false], .sum [2, 3, 4, 8] [0, 1] .ret [(4, .y false)] []] (pc h3<|pc h4<|pc h5<|pc h6<|pc (k_palingref15_tops_L1 _ _ h14)<|pc (k_palingref15_tops_L2 _ _ h23)<|pc (k_palingref15_tops_L3 _ _ h32)<|pc (k_palingref15_tops_L4 _ _ h41)<|pn)
        ·obtain rfl := oi h; exact rf Tryz.func55 none [.f, .f, .f, .f, .sum [2, 3, 4, 5] [0, 1] (.exit 0) [(2, .o 0), (3, .o 1), (4, .y false)] [.box 31 (c31 a1) false, .box 31 (c31 a2) false], .sum [2, 3, 4, 6] [0, 1] (.exit 2) [(2, .o 0), (3, .o 1), (4, .y false)] [.box 31 (c31 a1) false, .box 31 (c31 a2) false], .sum [2, 3, 4, 7] [0, 1] (.exit 4) [(2, .o 0), (3, .o 1), (4, .y false)] [.box 31 (c31 a1) false, .box 31 (c31 a2) false], .sum [2, 3, 4, 8] [0, 1] (.exit 6) [(4, .y false)] []] (pc h3<|pc h4<|pc h5<|pc h6<|pc (k_palingref15_tops_L1 _ _ h14)<|pc (k_palingref15_tops_L2 _ _ h23)<|pc (k_palingref15_tops_L3 _ _ h32)<|pc (k_palingref15_tops_L4 _ _ h41)<|pn)

theorem k_palingref03_Ints_L1 {a1 : List Int} {a2 : List Int} : LoopOK Tryz.prog UU 0 26 (subC (codeOf Tryz.f56) [1, 1, 0, 1, 0, 0]) (ρ := Unit ⊕ Unit) (palingref03_Ints_L1 a1 a2)
  (fun v4 : Int => ([(0, .sl 3 a1), (1, .sl 3 a2), (4, .y false), (5, .j v4)] : Fr DD)) (fun v4 : Int => ([] : Heap DD)) (fun r => match r with | Sum.inl _ => .ret | Sum.inr _ => .exit 0) (fun r => match r with | Sum.inl _ => [(4, .y false)] | Sum.inr _ => [(4, .y false)]) (fun r => match r with | Sum.inl _ => [] | Sum.inr _ => []) := by
 refine loop_sound3 (fun s q h => ?_) (fun r => ?_)
 ·replace h : palingref03_Ints_L1 a1 a2 s = some q := h; revert h; revert s; intro v4 h
  unfold palingref03_Ints_L1 at h
  obtain ⟨h5, h⟩|⟨h5, h⟩ := ite_out h
  ·obtain ⟨x6, h7, h⟩ := bo h
   obtain ⟨x8, h9, h⟩ := bo h
   obtain ⟨h10, h⟩|⟨h10, h⟩ := ite_out h
   ·obtain rfl := oi h; exact rl [4] [] [.t, .row (c3 x6), .row (c3 x8), .t] (pc h5<|pc (ob3 h7)<|pc (ob3 h9)<|pc h10<|pn)
   ·obtain rfl := oi h; exact rl [0, 1, 4, 5] [] [.t, .row (c3 x6), .row (c3 x8), .f] (pc h5<|pc (ob3 h7)<|pc (ob3 h9)<|pc h10<|pn)
  ·obtain rfl := oi h; exact rl [4] [] [.f] (pc h5<|pn)
 ·rcases r with _ | _ <;> exact Ex.noConfusion

theorem k_palingref03_Ints {a1 : List Int} {a2 : List Int} {r : Bool} (h : palingref03_Ints a1 a2 = some r) :
  CallsOK Tryz.prog UU 56 [.sl 3 a1, .sl 3 a2] [] (.y r) [] := by
 unfold palingref03_Ints at h
 obtain ⟨h3, h⟩|⟨h3, h⟩ := ite_out h
 ·obtain rfl := oi h; exact rf Tryz.func56 none [.t] (pc h3<|pn)
 ·obtain ⟨r12, h11, h⟩ := bo h
  rcases r12 with _ | _
  ·obtain rfl := oi h; exact rf Tryz.func56 none [.f, .sum [0, 1, 4, 5] [] .ret [(4, .y false)] []] (pc h3<|pc (k_palingref03_Ints_L1 _ _ h11)<|pn)
  ·obtain rfl := oi h; exact rf Tryz.func56 none [.f, .sum [0, 1, 4, 5] [] (.exit 0) [(4, .y false)] []] (pc h3<|pc (k_palingref03_Ints_L1 _ _ h11)<|pn)

theorem k_palingref03_Addrs_L1 {a1 : List Int} {a2 : List Int} : LoopOK Tryz.prog UU 0 26 (subC (codeOf Tryz.f57) [1, 1, 0, 1, 0, 0]) (ρ := Unit ⊕ Unit) (palingref03_Addrs_L1 a1 a2)
  (fun v4 : Int => ([(0, .sl 33 a1), (1, .sl 33 a2), (4, .y false), (5, .j v4)] : Fr DD)) (fun v4 : Int => ([] : Heap DD)) (fun r => match r with | Sum.inl _ => .ret | Sum.inr _ => .exit 0) (fun r => match r with | Sum.inl _ => [(4, .y false)] | Sum.inr _ => [(4, .y false)]) (fun r => match r with | Sum.inl _ => [] | Sum.inr _ => []) := by
 refine loop_sound3 (fun s q h => ?_) (fun r => ?_)
 ·replace h : palingref03_Addrs_L1 a1 a2 s = some q := h; revert h; revert s; intro v4 h
  unfold palingref03_Addrs_L1 at h
  obtain ⟨h5, h⟩|⟨h5, h⟩ := ite_out h
  ·obtain ⟨x6, h7, h⟩ := bo h
   obtain ⟨x8, h9, h⟩ := bo h
   obtain ⟨h10, h⟩|⟨h10, h⟩ := ite_out h
   ·obtain rfl := oi h; exact rl [4] [] [.t, .row (c33 x6), .row (c33 x8), .t] (pc h5<|pc (ob33 h7)<|pc (ob33 h9)<|pc h10<|pn)
   ·obtain rfl := oi h; exact rl [0, 1, 4, 5] [] [.t, .row (c33 x6), .row (c33 x8), .f] (pc h5<|pc (ob33 h7)<|pc (ob33 h9)<|pc h10<|pn)
  ·obtain rfl := oi h; exact rl [4] [] [.f] (pc h5<|pn)
 ·rcases r with _ | _ <;> exact Ex.noConfusion

theorem k_palingref03_Addrs {a1 : List Int} {a2 : List Int} {r : Bool} (h : palingref03_Addrs a1 a2 = some r) :
  CallsOK Tryz.prog UU 57 [.sl 33 a1, .sl 33 a2] [] (.y r) [] := by
 unfold palingref03_Addrs at h
 obtain ⟨h3, h⟩|⟨h3, h⟩ := ite_out h
 ·obtain rfl := oi h; exact rf Tryz.func57 none [.t] (pc h3<|pn)
 ·obtain ⟨r12, h11, h⟩ := bo h
  rcases r12 with _ | _
  ·obtain rfl := oi h; exact rf Tryz.func57 none [.f, .sum [0, 1, 4, 5] [] .ret [(4, .y false)] []] (pc h3<|pc (k_palingref03_Addrs_L1 _ _ h11)<|pn)
  ·obtain rfl := oi h; exact rf Tryz.func57 none [.f, .sum [0, 1, 4, 5] [] (.exit 0) [(4, .y false)] []] (pc h3<|pc (k_palingref03_Addrs_L1 _ _ h11)<|pn)

theorem k_palingref15_Same_L1 {a1 : Api_Net} {a2 : Api_Net} : LoopOK Tryz.prog UU 0 276 (subC (codeOf Tryz.f14) [1, 1, 0, 1, 0, 0]) (ρ := Unit ⊕ Unit) (palingref15_Same_L1 a1 a2)
  (fun v10 : Int => ([(2, .o 0), (3, .o 1), (4, .y false), (5, .j v10)] : Fr DD)) (fun v10 : Int => ([.box 31 (c31 a1) false, .box 31 (c31 a2) false] : Heap DD)) (fun r => match r with | Sum.inl _ => .ret | Sum.inr _ => .exit 0) (fun r => match r with | Sum.inl _ => [(4, .y false)] | Sum.inr _ => [(2, .o 0), (3, .o 1), (4, .y false)]) (fun r => match r with | Sum.inl _ => [] | Sum.inr _ => [.box 31 (c31 a1) false, .box 31 (c31 a2) false]) := by
 refine loop_sound3 (fun s q h => ?_) (fun r => ?_)
 ·replace h : palingref15_Same_L1 a1 a2 s = some q := h; revert h; revert s; intro v10 h
  unfold palingref15_Same_L1 at h
  obtain ⟨h11, h⟩|⟨h11, h⟩ := ite_out h
  ·obtain ⟨x12, h13, h⟩ := bo h
   obtain ⟨x14, h15, h⟩ := bo h
   obtain ⟨h16, h⟩|⟨h16, h⟩ := ite_out h
   ·obtain rfl := oi h; exact rl [4] [] [.t, .row (c110 x12), .row (c110 x14), .t] (pc h11<|pc (ob110 h13)<|pc (ob110 h15)<|pc h16<|pn)
   ·obtain ⟨h17, h⟩|⟨h17, h⟩ := ite_out h
    ·obtain rfl := oi h; exact rl [4] [] [.t, .row (c110 x12), .row (c110 x14), .f, .t] (pc h11<|pc (ob110 h13)<|pc (ob110 h15)<|pc h16<|pc h17<|pn)
    ·obtain ⟨h18, h⟩|⟨h18, h⟩ := ite_out h
     ·obtain rfl := oi h; exact rl [4] [] [.t, .row (c110 x12), .row (c110 x14), .f, .f, .t] (pc h11<|pc (ob110 h13)<|pc (ob110 h15)<|pc h16<|pc h17<|pc h18<|pn)
     ·obtain ⟨h19, h⟩|⟨h19, h⟩ := ite_out h
      ·obtain rfl := oi h; exact rl [4] [] [.t, .row (c110 x12), .row (c110 x14), .f, .f, .f, .t] (pc h11<|pc (ob110 h13)<|pc (ob110 h15)<|pc h16<|pc h17<|pc h18<|pc h19<|pn)
      ·obtain ⟨h20, h⟩|⟨h20, h⟩ := ite_out h
       ·obtain rfl := oi h; exact rl [4] [] [.t, .row (c110 x12), .row (c110 x14), .f, .f, .f, .f, .t] (pc h11<|pc (ob110 h13)<|pc (ob110 h15)<|pc h16<|pc h17<|pc h18<|pc h19<|pc h20<|pn)
       ·obtain ⟨h21, h⟩|⟨h21, h⟩ := ite_out h
        ·obtain rfl := oi h; exact rl [4] [] [.t, .row (c110 x12), .row (c110 x14), .f, .f, .f, .f, .f, .t] (pc h11<|pc (ob110 h13)<|pc (ob110 h15)<|pc h16<|pc h17<|pc h18<|pc h19<|pc h20<|pc h21<|pn)
        ·obtain ⟨r22, h23, h⟩ := bo h
         obtain ⟨h24, h⟩|⟨h24, h⟩ := ite_out h
         ·obtain rfl := oi h; exact rl [4] [] [.t, .row (c110 x12), .row (c110 x14), .f, .f, .f, .f, .f, .f, .b r22, .t] (pc h11<|pc (ob110 h13)<|pc (ob110 h15)<|pc h16<|pc h17<|pc h18<|pc h19<|pc h20<|pc h21<|pc (k_palingref03_Ints h23)<|pc h24<|pn)
         ·obtain rfl := oi h; exact rl [2, 3, 4, 5] [0, 1] [.t, .row (c110 x12), .row (c110 x14), .f, .f, .f, .f, .f, .f, .b r22, .f] (pc h11<|pc (ob110 h13)<|pc (ob110 h15)<|pc h16<|pc h17<|pc h18<|pc h19<|pc h20<|pc h21<|pc (k_palingref03_Ints h23)<|pc h24<|pn)
  ·obtain rfl := oi h; exact rl [2, 3, 4] [0, 1] [.f] (pc h11<|pn)
 ·rcases r with _ | _ <;> exact Ex.noConfusion

theorem k_palingref15_Same_L2 {a1 : Api_Net} {a2 : Api_Net} : LoopOK Tryz.prog UU 0 276 (subC (codeOf Tryz.f14) [1, 1, 1, 0, 1, 0, 0]) (ρ := Unit ⊕ Unit) (palingref15_Same_L2 a1 a2)
  (fun v27 : Int => ([(2, .o 0), (3, .o 1), (4, .y false), (8, .j v27)] : Fr DD)) (fun v27 : Int => ([.box 31 (c31 a1) false, .box 31 (c31 a2) false] : Heap DD)) (fun r => match r with | Sum.inl _ => .ret | Sum.inr _ => .exit 2) (fun r => match r with | Sum.inl _ => [(4, .y false)] | Sum.inr _ => [(2, .o 0), (3, .o 1), (4, .y false)]) (fun r => match r with | Sum.inl _ => [] | Sum.inr _ => [.box 31 (c31 a1) false, .box 31 (c31 a2) false]) := by
 refine loop_sound3 (fun s q h => ?_) (fun r => ?_)
 ·replace h : palingref15_Same_L2 a1 a2 s = some q := h; revert h; revert s; intro v27 h
  unfold palingref15_Same_L2 at h
  obtain ⟨h28, h⟩|⟨h28, h⟩ := ite_out h
  ·obtain ⟨x29, h30, h⟩ := bo h
   obtain ⟨x31, h32, h⟩ := bo h
   obtain ⟨h33, h⟩|⟨h33, h⟩ := ite_out h
   ·obtain rfl := oi h; exact rl [4] [] [.t, .row (c90 x29), .row (c90 x31), .t] (pc h28<|pc (ob90 h30)<|pc (ob90 h32)<|pc h33<|pn)
   ·obtain ⟨h34, h⟩|⟨h34, h⟩ := ite_out h
    ·obtain rfl := oi h; exact rl [4] [] [.t, .row (c90 x29), .row (c90 x31), .f, .t] (pc h28<|pc (ob90 h30)<|pc (ob90 h32)<|pc h33<|pc h34<|pn)
    ·obtain ⟨h35, h⟩|⟨h35, h⟩ := ite_out h
     ·obtain rfl := oi h; exact rl [4] [] [.t, .row (c90 x29), .row (c90 x31), .f, .f, .t] (pc h28<|pc (ob90 h30)<|pc (ob90 h32)<|pc h33<|pc h34<|pc h35<|pn)
     ·obtain ⟨h36, h⟩|⟨h36, h⟩ := ite_out h
      ·obtain rfl := oi h; exact rl [4] [] [.t, .row (c90 x29), .row (c90 x31), .f, .f, .f, .t] (pc h28<|pc (ob90 h30)<|pc (ob90 h32)<|pc h33<|pc h34<|pc h35<|pc h36<|pn)
      ·obtain ⟨h37, h⟩|⟨h37, h⟩ := ite_out h
       ·obtain rfl := oi h; exact rl [4] [] [.t, .row (c90 x29), .row (c90 x31), .f, .f, .f, .f, .t] (pc h28<|pc (ob90 h30)<|pc (ob90 h32)<|pc h33<|pc h34<|pc h35<|pc h36<|pc h37<|pn)
       ·obtain ⟨r38, h39, h⟩ := bo h
        obtain ⟨h40, h⟩|⟨h40, h⟩ := ite_out h
        ·obtain rfl := oi h; exact rl [4] [] [.t, .row (c90 x29), .row (c90 x31), .f, .f, .f, .f, .f, .b r38, .t] (pc h28<|pc (ob90 h30)<|pc (ob90 h32)<|pc h33<|pc h34<|pc h35<|pc h36<|pc h37<|pc (k_palingref03_Ints h39)<|pc h40<|pn)
        ·obtain rfl := oi h; exact rl [2, 3, 4, 8] [0, 1] [.t, .row (c90 x29), .row (c90 x31), .f, .f, .f, .f, .f, .b r38, .f] (pc h28<|pc (ob90 h30)<|pc (ob90 h32)<|pc h33<|pc h34<|pc h35<|pc h36<|pc h37<|pc (k_palingref03_Ints h39)<|pc h40<|pn)
  ·obtain rfl := oi h; exact rl [2, 3, 4] [0, 1] [.f] (pc h28<|pn)
 ·rcases r with _ | _ <;> exact Ex.noConfusion

theorem k_palingref15_Same_L3 {a1 : Api_Net} {a2 : Api_Net} : LoopOK Tryz.prog UU 0 276 (subC (codeOf Tryz.f14) [1, 1, 1, 1, 0, 1, 0, 0]) (ρ := Unit ⊕ Unit) (palingref15_Same_L3 a1 a2)
  (fun v43 : Int => ([(2, .o 0), (3, .o 1), (4, .y false), (11, .j v43)] : Fr DD)) (fun v43 : Int => ([.box 31 (c31 a1) false, .box 31 (c31 a2) false] : Heap DD)) (fun r => match r with | Sum.inl _ => .ret | Sum.inr _ => .exit 4) (fun r => match r with | Sum.inl _ => [(4, .y false)] | Sum.inr _ => [(2, .o 0), (3, .o 1), (4, .y false)]) (fun r => match r with | Sum.inl _ => [] | Sum.inr _ => [.box 31 (c31 a1) false, .box 31 (c31 a2) false]) := by
 refine loop_sound3 (fun s q h => ?_) (fun r => ?_)
 ·replace h : palingref15_Same_L3 a1 a2 s = some q := h; revert h; revert s; intro v43 h
  unfold palingref15_Same_L3 at h
  obtain ⟨h44, h⟩|⟨h44, h⟩ := ite_out h
  ·obtain ⟨x45, h46, h⟩ := bo h
   obtain ⟨x47, h48, h⟩ := bo h
   obtain ⟨h49, h⟩|⟨h49, h⟩ := ite_out h
   ·obtain rfl := oi h; exact rl [4] [] [.t, .row (c113 x45), .row (c113 x47), .t] (pc h44<|pc (ob113 h46)<|pc (ob113 h48)<|pc h49<|pn)
   ·obtain ⟨h50, h⟩|⟨h50, h⟩ := ite_out h
    ·obtain rfl := oi h; exact rl [4] [] [.t, .row (c113 x45), .row (c113 x47), .f, .t] (pc h44<|pc (ob113 h46)<|pc (ob113 h48)<|pc h49<|pc h50<|pn)
    ·obtain ⟨h51, h⟩|⟨h51, h⟩ := ite_out h
     ·obtain rfl := oi h; exact rl [4] [] [.t, .row (c113 x45), .row (c113 x47), .f, .f, .t] (pc h44<|pc (ob113 h46)<|pc (ob113 h48)<|pc h49<|pc h50<|pc h51<|pn)
     ·obtain ⟨r52, h53, h⟩ := bo h
      obtain ⟨h54, h⟩|⟨h54, h⟩ := ite_out h
      ·obtain rfl := oi h; exact rl [4] [] [.t, .row (c113 x45), .row (c113 x47), .f, .f, .f, .b r52, .t] (pc h44<|pc (ob113 h46)<|pc (ob113 h48)<|pc h49<|pc h50<|pc h51<|pc (k_palingref03_Addrs h53)<|pc h54<|pn)
      ·obtain rfl := oi h; exact rl [2, 3, 4, 11] [0, 1] [.t, .row (c113 x45), .row (c113 x47), .f, .f, .f, .b r52, .f] (pc h44<|pc (ob113 h46)<|pc (ob113 h48)<|pc h49<|pc h50<|pc h51<|pc (k_palingref03_Addrs h53)<|pc h54<|pn)
  ·obtain rfl := oi h; exact rl [2, 3, 4] [0, 1] [.f] (pc h44<|pn)
 ·rcases r with _ | _ <;> exact Ex.noConfusion

theorem k_palingref15_Same_L4 {a1 : Api_Net} {a2 : Api_Net} : LoopOK Tryz.prog UU 0 276 (subC (codeOf Tryz.f14) [1, 1, 1, 1, 1, 0, 1, 0, 0]) (ρ := Unit ⊕ Unit) (palingref15_Same_L4 a1 a2)
  (fun v57 : Int => ([(2, .o 0), (3, .o 1), (4, .y false), (14, .j v57)] : Fr DD)) (fun v57 : Int => ([.box 31 (c31 a1) false, .box 31 (c31 a2) false] : Heap DD)) (fun r => match r with | Sum.inl _ => .ret | Sum.inr _ => .exit 6) (fun r => match r with | Sum.inl _ => [(4, .y false)] | Sum.inr _ => [(4, .y false)]) (fun r => match r with | Sum.inl _ => [] | Sum.inr _ => []) := by
 refine loop_sound3 (fun s q h => ?_) (fun r => ?_)
 ·replace h : palingref15_Same_L4 a1 a2 s = some q := h; revert h; revert s; intro v57 h
  unfold palingref15_Same_L4 at h
  obtain ⟨h58, h⟩|⟨h58, h⟩ := ite_out h
  ·obtain ⟨x59, h60, h⟩ := bo h
   obtain ⟨x61, h62, h⟩ := bo h
   obtain ⟨h63, h⟩|⟨h63, h⟩ := ite_out h
   ·obtain rfl := oi h; exact rl [4] [] [.t, .row (c88 x59), .row (c88 x61), .t] (pc h58<|pc (ob88 h60)<|pc (ob88 h62)<|pc h63<|pn)
   ·obtain ⟨h64, h⟩|⟨h64, h⟩ := ite_out h
    ·obtain rfl := oi h; exact rl [4] [] [.t, .row (c88 x59), .row (c88 x61), .f, .t] (pc h58<|pc (ob88 h60)<|pc (ob88 h62)<|pc h63<|pc h64<|pn)
    ·obtain ⟨h65, h⟩|⟨h65, h⟩ := ite_out h
     ·obtain rfl := oi h; exact rl [4] [] [.t, .row (c88 x59), .row (c88 x61), .f, .f, .t] (pc h58<|pc (ob88 h60)<|pc (ob88 h62)<|pc h63<|pc h64<|pc h65<|pn)
     ·obtain ⟨r66, h67, h⟩ := bo h
      obtain ⟨h68, h⟩|⟨h68, h⟩ := ite_out h
      ·obtain rfl := oi h; exact rl [4] [] [.t, .row (c88 x59), .row (c88 x61), .f, .f, .f, .b r66, .t] (pc h58<|pc (ob88 h60)<|pc (ob88 h62)<|pc h63<|pc h64<|pc h65<|pc (k_palingref03_Ints h67)<|pc h68<|pn)
      ·obtain ⟨r69, h70, h⟩ := bo h
       obtain ⟨h71, h⟩|⟨h71, h⟩ := ite_out h
       ·obtain rfl := oi h; exact rl [4] [] [.t, .row (c88 x59), .row (c88 x61), .f, .f, .f, .b r66, .f, .b r69, .t] (pc h58<|pc (ob88 h60)<|pc (ob88 h62)<|pc h63<|pc h64<|pc h65<|pc (k_palingref03_Ints h67)<|pc h68<|pc (k_palingref03_Ints h70)<|pc h71<|pn)
       ·obtain rfl := oi h; exact rl [2, 3, 4, 14] [0, 1] [.t, .row (c88 x59), .row (c88 x61), .f, .f, .f, .b r66, .f, .b r69, .f] (pc h58<|pc (ob88 h60)<|pc (ob88 h62)<|pc h63<|pc h64<|pc h65<|pc (k_palingref03_Ints h67)<|pc h68<|pc (k_palingref03_Ints h70)<|pc h71<|pn)
  ·obtain rfl := oi h; exact rl [4] [] [.f] (pc h58<|pn)
 ·rcases r with _ | _ <;> exact Ex.noConfusion

theorem k_palingref15_Same {a1 : Api_Net} {a2 : Api_Net} {r : Bool} (h : palingref15_Same a1 a2 = some r) :
  CallsOK Tryz.prog UU 14 [.agg (c31 a1), .agg (c31 a2)] [] (.y r) [] := by
 unfold palingref15_Same at h
 obtain ⟨r3, h4, h⟩ := bo h
 obtain ⟨h5, h⟩|⟨h5, h⟩ := ite_out h
 ·obtain rfl := oi h; exact rf Tryz.func14 none [.b r3, .t] (pc (k_palingref15_tops h4)<|pc h5<|pn)
 ·obtain ⟨h6, h⟩|⟨h6, h⟩ := ite_out h
  ·obtain rfl := oi h; exact rf Tryz.func14 none [.b r3, .f, .t] (pc (k_palingref15_tops h4)<|pc h5<|pc h6<|pn)
  ·obtain ⟨h7, h⟩|⟨h7, h⟩ := ite_out h
   ·obtain rfl := oi h; exact rf Tryz.func14 none [.b r3, .f, .f, .t] (pc (k_palingref15_tops h4)<|pc h5<|pc h6<|pc h7<|pn)
   ·obtain ⟨h8, h⟩|⟨h8, h⟩ := ite_out h
    ·obtain rfl := oi h; exact rf Tryz.func14 none [.b r3, .f, .f, .f, .t] (pc (k_palingref15_tops h4)<|pc h5<|pc h6<|pc h7<|pc h8<|pn)
    ·obtain ⟨h9, h⟩|⟨h9, h⟩ := ite_out h
     ·obtain rfl := oi h; exact rf Tryz.func14 none [.b r3, .f, .f, .f, .f, .t] (pc (k_palingref15_tops h4)<|pc h5<|pc h6<|pc h7<|pc h8<|pc h9<|pn)
     ·obtain ⟨r26, h25, h⟩ := bo h
      rcases r26 with _ | _
      ·obtain rfl := oi h; exact rf Tryz.func14 none [.b r3, .f, .f, .f, .f, .f, .sum [2, 3, 4, 5] [0, 1] .ret [(4, .y false)] []] (pc (k_palingref15_tops h4)<|pc h5<|pc h6<|pc h7<|pc h8<|pc h9<|pc (k_palingref15_Same_L1 _ _ h25)<|pn)
      ·obtain ⟨r42, h41, h⟩ := bo h
       rcases r42 with _ | _
       ·obtain rfl := oi h; exact rf Tryz.func14 none [.b r3, .f, .f, .f, .f, .f, .sum [2, 3, 4, 5] [0, 1] (.exit 0) [(2, .o 0), (3, .o 1), (4, .y false)] [.box 31 (c31 a1) false, .box 31 (c31 a2) false], .sum [2, 3, 4, 8] [0, 1] .ret [(4, .y false)] []] (pc (k_palingref15_tops h4)<|pc h5<|pc h6<|pc h7<|pc h8<|pc h9<|pc (k_palingref15_Same_L1 _ _ h25)<|pc (k_palingref15_Same_L2 _ _ h41)<|pn)
       ·obtain ⟨r56, h55, h⟩ := bo h
        rcases r56 with _ | _
        ·obtain rfl := oi h; exact rf Tryz.func14 none [.b r3, .f, .f, .f, .f, .f, .sum [2, 3, 4, 5] [0, 1] (.exit 0) [(2, .o 0), (3, .o 1), (4, .y false)] [.box 31 (c31 a1) false, .box 31 (c31 a2) false], .sum [2, 3, 4, 8] [0, 1] (.exit 2) [(2, .o 0), (3, .o 1), (4, .y false)] [.box 31 (c31 a1) false, .box 31 (c31 a2) false], .sum [2, 3, 4, 11] [0, 1] .ret [(4, .y false)] []] (pc (k_palingref15_tops h4)<|pc h5<|pc h6<|pc h7<|pc h8<|pc h9<|pc (k_palingref15_Same_L1 _ _ h25)<|pc (k_palingref15_Same_L2 _ _ h41)<|pc (k_palingref15_Same_L3 _ _ h55)<|pn)
        ·obtain ⟨r73, h72, h⟩ := bo h
         rcases r73 with _ | _
         ·obtain rfl := oi h; exact rf Tryz.func14 none [.b r3, .f, .f, .f, .f, .f, .sum [2, 3, 4, 5] [0, 1] (.exit 0) [(2, .o 0), (3, .o 1), (4, .y false)] [.box 31 (c31 a1) false, .box 31 (c31 a2) false], .sum [2, 3, 4, 8] [0, 1] (.exit 2) [(2, .o 0), (3, .o 1), (4, .y false)] [.box 31 (c31 a1) false, .box 31 (c31 a2) false], .sum [2, 3, 4, 11] [0, 1] (.exit 4) [(2, .o 0), (3, .o 1), (4, .y false)] [.box 31 (c31 a1) false, .box 31 (c31 a2) false], .sum [2, 3, 4, 14] [0, 1] .ret [(4, .y false)] []] (pc (k_palingref15_tops h4)<|pc h5<|pc h6<|pc h7<|pc h8<|pc h9<|pc (k_palingref15_Same_L1 _ _ h25)<|pc (k_palingref15_Same_L2 _ _ h41)<|pc (k_palingref15_Same_L3 _ _ h55)<|pc (k_palingref15_Same_L4 _ _ h72)<|pn)
         ·obtain rfl := oi h; exact rf Tryz.func14 none [.b r3, .f, .f, .f, .f, .f, .sum [2, 3, 4, 5] [0, 1] (.exit 0) [(2, .o 0), (3, .o 1), (4, .y false)] [.box 31 (c31 a1) false, .box 31 (c31 a2) false], .sum [2, 3, 4, 8] [0, 1] (.exit 2) [(2, .o 0), (3, .o 1), (4, .y false)] [.box 31 (c31 a1) false, .box 31 (c31 a2) false], .sum [2, 3, 4, 11] [0, 1] (.exit 4) [(2, .o 0), (3, .o 1), (4, .y false)] [.box 31 (c31 a1) false, .box 31 (c31 a2) false], .sum [2, 3, 4, 14] [0, 1] (.exit 6) [(4, .y false)] []] (pc (k_palingref15_tops h4)<|pc h5<|pc h6<|pc h7<|pc h8<|pc h9<|pc (k_palingref15_Same_L1 _ _ h25)<|pc (k_palingref15_Same_L2 _ _ h41)<|pc (k_palingref15_Same_L3 _ _ h55)<|pc (k_palingref15_Same_L4 _ _ h72)<|pn)

theorem k_overlay_Find {a1 : Api_Net} {a2 : Int} {a3 : Int} {r : Int} (h : overlay_Find a1 a2 a3 = some r) :
  CallsOK Tryz.prog UU 21 [.agg (c31 a1), .j a2, .j a3] [] (.j r) [] := by
 unfold overlay_Find at h
 obtain ⟨r4, h5, h⟩ := bo h
 obtain ⟨h6, h⟩|⟨h6, h⟩ := ite_out h
 ·obtain rfl := oi h; exact rf Tryz.func21 none [.b r4, .t] (pc (k_names_Right h5)<|pc h6<|pn)
 ·obtain ⟨r7, h8, h⟩ := bo h
  obtain rfl := oi h; exact rf Tryz.func21 none [.b r4, .f, .callv (.j r7)] (pc (k_names_Right h5)<|pc h6<|pc (k_overlay_find h8)<|pn)

theorem k_palinglaw19_OverlayMeshes_J1 {a1 : Api_Net} {a2 : Int} {a3 : Int} {l11 : List Api_Device} {l12 : List Api_Port} {l13 : List Api_Link} {l14 : List Api_Domain} {l15 : List Api_Static} {l16 : List Api_Flood} {l17 : List Api_Vrf} {l18 : List Api_Irb} {n19 : Nat} {n20 : Nat} {n21 : Nat} {n22 : Nat} {v23 : Int} {v24 : Int} {l27 : List Api_Device} {l28 : List Api_Port} {l29 : List Api_Link} {l30 : List Api_Domain} {l31 : List Api_Static} {l32 : List Api_Flood} {l33 : List Api_Vrf} {l34 : List Api_Irb} {n35 : Nat} {n36 : Nat} {n37 : Nat} {n38 : Nat} {v39 : Int} {v40 : Int} {r : Int} (h : palinglaw19_OverlayMeshes_J1 a1 a2 a3 l11 l12 l13 l14 l15 l16 l17 l18 n19 n20 n21 n22 v23 v24 l27 l28 l29 l30 l31 l32 l33 l34 n35 n36 n37 n38 v39 v40 = some r) :
  ExecOK Tryz.prog UU 0 59 (subC (codeOf Tryz.f4) [1, 1, 1, 1, 1, 0]) [(1, .j a2), (2, .j a3), (3, .o 0), (6, .y false), (7, .o 1), (8, .j v23), (9, .j v24), (10, .o 10), (11, .j v39), (12, .j v40), (13, .j (-1))] [.box 31 (c31 a1) false, .box 31 [.os 2 l11.length, .os 3 n19, .os 4 l13.length, .os 5 n20, .os 6 l15.length, .os 7 n21, .os 8 n22, .os 9 l18.length] false, .w 56 l11, .arr 110 l12 n19 false, .w 174 l13, .arr 90 l14 n20 false, .w 178 l15, .arr 113 l16 n21 false, .arr 88 l17 n22 false, .w 105 l18, .box 31 [.os 11 l27.length, .os 12 n35, .os 13 l29.length, .os 14 n36, .os 15 l31.length, .os 16 n37, .os 17 n38, .os 18 l34.length] false, .w 56 l27, .arr 110 l28 n35 false, .w 174 l29, .arr 90 l30 n36 false, .w 178 l31, .arr 113 l32 n37 false, .arr 88 l33 n38 false, .w 105 l34] ((fun r => match r with | v47 => .nor) r) ((fun r => match r with | v47 => [(1, .j a2), (2, .j a3), (3, .o 0), (6, .y false), (7, .o 1), (8, .j v23), (9, .j v24), (10, .o 10), (11, .j v39), (12, .j v40), (13, .j v47)]) r) ((fun r => match r with | v47 => [.box 31 (c31 a1) false, .box 31 [.os 2 l11.length, .os 3 n19, .os 4 l13.length, .os 5 n20, .os 6 l15.length, .os 7 n21, .os 8 n22, .os 9 l18.length] false, .w 56 l11, .arr 110 l12 n19 false, .w 174 l13, .arr 90 l14 n20 false, .w 178 l15, .arr 113 l16 n21 false, .arr 88 l17 n22 false, .w 105 l18, .box 31 [.os 11 l27.length, .os 12 n35, .os 13 l29.length, .os 14 n36, .os 15 l31.length, .os 16 n37, .os 17 n38, .os 18 l34.length] false, .w 56 l27, .arr 110 l28 n35 false, .w 174 l29, .arr 90 l30 n36 false, .w 178 l31, .arr 113 l32 n37 false, .arr 88 l33 n38 false, .w 105 l34]) r) := by
 unfold palinglaw19_OverlayMeshes_J1 at h
 obtain ⟨r41, h42, h⟩ := bo h
 obtain ⟨h43, h⟩|⟨h43, h⟩ := ite_out h
 ·obtain ⟨r44, h45, h⟩ := bo h
  obtain rfl := oi h; exact rl [1, 2, 3, 6, 7, 8, 9, 10, 11, 12, 13] [0, 1, 2, 3, 4, 5, 6, 7, 8, 9, 10, 11, 12, 13, 14, 15, 16, 17, 18] [.b r41, .t, .callv (.j r44)] (pc (k_palingref15_Right h42)<|pc h43<|pc (k_palingref19_Find h45)<|pn)
 ·obtain rfl := oi h; exact rl [1, 2, 3, 6, 7, 8, 9, 10, 11, 12, 13] [0, 1, 2, 3, 4, 5, 6, 7, 8, 9, 10, 11, 12, 13, 14, 15, 16, 17, 18] [.b r41, .f] (pc (k_palingref15_Right h42)<|pc h43<|pn)

theorem k_palinglaw19_OverlayMeshes {a1 : Api_Net} {a2 : Int} {a3 : Int} {r : Bool} (h : palinglaw19_OverlayMeshes a1 a2 a3 = some r) :
  CallsOK Tryz.prog UU 4 [.agg (c31 a1), .j a2, .j a3] [] (.y r) [] := by
 unfold palinglaw19_OverlayMeshes at h
 obtain ⟨r4, h5, h⟩ := bo h
 obtain ⟨h6, h⟩|⟨h6, h⟩ := ite_out h
 ·obtain ⟨r7, h8, h⟩ := bo h
  obtain rfl := oi h; exact rf Tryz.func4 none [.b r4, .t, .b r7] (pc (k_palinglaw15_Great h5)<|pc h6<|pc (k_palinglaw19_works h8)<|pn)
 ·obtain ⟨r9, h10, h⟩ := bo h
  obtain ⟨l11, l12, l13, l14, l15, l16, l17, l18, n19, n20, n21, n22, v23, v24⟩ := r9
  obtain ⟨r25, h26, h⟩ := bo h
  obtain ⟨l27, l28, l29, l30, l31, l32, l33, l34, n35, n36, n37, n38, v39, v40⟩ := r25
  obtain ⟨v47, h48, h⟩ := bo h
  obtain ⟨r50, h51, h⟩ := bo h
  obtain ⟨h52, h⟩|⟨h52, h⟩ := ite_out h
  ·obtain ⟨h53, h⟩|⟨h53, h⟩ := ite_out h
   ·obtain ⟨h54, h⟩|⟨h54, h⟩ := ite_out h
    ·obtain ⟨r55, h56, h⟩ := bo h
     obtain ⟨h57, h⟩|⟨h57, h⟩ := ite_out h
     ·obtain ⟨r58, h59, h⟩ := bo h
      obtain rfl := oi h; exact rf Tryz.func4 none [.b r4, .f, .callm [] (.tup [.agg [.os 0 l11.length, .os 1 n19, .os 2 l13.length, .os 3 n20, .os 4 l15.length, .os 5 n21, .os 6 n22, .os 7 l18.length], .j v23, .j v24]) [.w 56 l11, .arr 110 l12 n19 false, .w 174 l13, .arr 90 l14 n20 false, .w 178 l15, .arr 113 l16 n21 false, .arr 88 l17 n22 false, .w 105 l18], .callm [] (.tup [.agg [.os 0 l27.length, .os 1 n35, .os 2 l29.length, .os 3 n36, .os 4 l31.length, .os 5 n37, .os 6 n38, .os 7 l34.length], .j v39, .j v40]) [.w 56 l27, .arr 110 l28 n35 false, .w 174 l29, .arr 90 l30 n36 false, .w 178 l31, .arr 113 l32 n37 false, .arr 88 l33 n38 false, .w 105 l34], .skp, .cut [1, 2, 3, 6, 7, 8, 9, 10, 11, 12, 13] [0, 17, 1, 2, 3, 4, 5, 6, 7, 8, 34, 18, 19, 20, 21, 22, 23, 24, 25] .nor [(1, .j a2), (2, .j a3), (3, .o 0), (6, .y false), (7, .o 1), (8, .j v23), (9, .j v24), (10, .o 10), (11, .j v39), (12, .j v40), (13, .j v47)] [.box 31 (c31 a1) false, .box 31 [.os 2 l11.length, .os 3 n19, .os 4 l13.length, .os 5 n20, .os 6 l15.length, .os 7 n21, .os 8 n22, .os 9 l18.length] false, .w 56 l11, .arr 110 l12 n19 false, .w 174 l13, .arr 90 l14 n20 false, .w 178 l15, .arr 113 l16 n21 false, .arr 88 l17 n22 false, .w 105 l18, .box 31 [.os 11 l27.length, .os 12 n35, .os 13 l29.length, .os 14 n36, .os 15 l31.length, .os 16 n37, .os 17 n38, .os 18 l34.length] false, .w 56 l27, .arr 110 l28 n35 false, .w 174 l29, .arr 90 l30 n36 false, .w 178 l31, .arr 113 l32 n37 false, .arr 88 l33 n38 false, .w 105 l34], .b r50, .t, .t, .t, .callv (.j r55), .t, .b r58] (pc (k_palinglaw15_Great h5)<|pc h6<|pc (k_overlay_Mesh h10)<|pc (k_palingref19_Mesh h26)<|pc (k_palinglaw19_OverlayMeshes_J1 h48)<|pc (k_palingref15_Same h51)<|pc (rn l11.length)<|pc (rn n19)<|pc (rn l13.length)<|pc (rn n20)<|pc (rn l15.length)<|pc (rn n21)<|pc (rn n22)<|pc (rn l18.length)<|pc (rn l27.length)<|pc (rn n35)<|pc (rn l29.length)<|pc (rn n36)<|pc (rn l31.length)<|pc (rn n37)<|pc (rn n38)<|pc (rn l34.length)<|pc h52<|pc h53<|pc h54<|pc (k_overlay_Find h56)<|pc h57<|pc (k_palinglaw19_works h59)<|pn)
     ·obtain rfl := oi h; exact rf Tryz.func4 none [.b r4, .f, .callm [] (.tup [.agg [.os 0 l11.length, .os 1 n19, .os 2 l13.length, .os 3 n20, .os 4 l15.length, .os 5 n21, .os 6 n22, .os 7 l18.length], .j v23, .j v24]) [.w 56 l11, .arr 110 l12 n19 false, .w 174 l13, .arr 90 l14 n20 false, .w 178 l15, .arr 113 l16 n21 false, .arr 88 l17 n22 false, .w 105 l18], .callm [] (.tup [.agg [.os 0 l27.length, .os 1 n35, .os 2 l29.length, .os 3 n36, .os 4 l31.length, .os 5 n37, .os 6 n38, .os 7 l34.length], .j v39, .j v40]) [.w 56 l27, .arr 110 l28 n35 false, .w 174 l29, .arr 90 l30 n36 false, .w 178 l31, .arr 113 l32 n37 false, .arr 88 l33 n38 false, .w 105 l34], .skp, .cut [1, 2, 3, 6, 7, 8, 9, 10, 11, 12, 13] [0, 17, 1, 2, 3, 4, 5, 6, 7, 8, 34, 18, 19, 20, 21, 22, 23, 24, 25] .nor [(1, .j a2), (2, .j a3), (3, .o 0), (6, .y false), (7, .o 1), (8, .j v23), (9, .j v24), (10, .o 10), (11, .j v39), (12, .j v40), (13, .j v47)] [.box 31 (c31 a1) false, .box 31 [.os 2 l11.length, .os 3 n19, .os 4 l13.length, .os 5 n20, .os 6 l15.length, .os 7 n21, .os 8 n22, .os 9 l18.length] false, .w 56 l11, .arr 110 l12 n19 false, .w 174 l13, .arr 90 l14 n20 false, .w 178 l15, .arr 113 l16 n21 false, .arr 88 l17 n22 false, .w 105 l18, .box 31 [.os 11 l27.length, .os 12 n35, .os 13 l29.length, .os 14 n36, .os 15 l31.length, .os 16 n37, .os 17 n38, .os 18 l34.length] false, .w 56 l27, .arr 110 l28 n35 false, .w 174 l29, .arr 90 l30 n36 false, .w 178 l31, .arr 113 l32 n37 false, .arr 88 l33 n38 false, .w 105 l34], .b r50, .t, .t, .t, .callv (.j r55), .f] (pc (k_palinglaw15_Great h5)<|pc h6<|pc (k_overlay_Mesh h10)<|pc (k_palingref19_Mesh h26)<|pc (k_palinglaw19_OverlayMeshes_J1 h48)<|pc (k_palingref15_Same h51)<|pc (rn l11.length)<|pc (rn n19)<|pc (rn l13.length)<|pc (rn n20)<|pc (rn l15.length)<|pc (rn n21)<|pc (rn n22)<|pc (rn l18.length)<|pc (rn l27.length)<|pc (rn n35)<|pc (rn l29.length)<|pc (rn n36)<|pc (rn l31.length)<|pc (rn n37)<|pc (rn n38)<|pc (rn l34.length)<|pc h52<|pc h53<|pc h54<|pc (k_overlay_Find h56)<|pc h57<|pn)
    ·obtain rfl := oi h; exact rf Tryz.func4 none [.b r4, .f, .callm [] (.tup [.agg [.os 0 l11.length, .os 1 n19, .os 2 l13.length, .os 3 n20, .os 4 l15.length, .os 5 n21, .os 6 n22, .os 7 l18.length], .j v23, .j v24]) [.w 56 l11, .arr 110 l12 n19 false, .w 174 l13, .arr 90 l14 n20 false, .w 178 l15, .arr 113 l16 n21 false, .arr 88 l17 n22 false, .w 105 l18], .callm [] (.tup [.agg [.os 0 l27.length, .os 1 n35, .os 2 l29.length, .os 3 n36, .os 4 l31.length, .os 5 n37, .os 6 n38, .os 7 l34.length], .j v39, .j v40]) [.w 56 l27, .arr 110 l28 n35 false, .w 174 l29, .arr 90 l30 n36 false, .w 178 l31, .arr 113 l32 n37 false, .arr 88 l33 n38 false, .w 105 l34], .skp, .cut [1, 2, 3, 6, 7, 8, 9, 10, 11, 12, 13] [0, 17, 1, 2, 3, 4, 5, 6, 7, 8, 34, 18, 19, 20, 21, 22, 23, 24, 25] .nor [(1, .j a2), (2, .j a3), (3, .o 0), (6, .y false), (7, .o 1), (8, .j v23), (9, .j v24), (10, .o 10), (11, .j v39), (12, .j v40), (13, .j v47)] [.box 31 (c31 a1) false, .box 31 [.os 2 l11.length, .os 3 n19, .os 4 l13.length, .os 5 n20, .os 6 l15.length, .os 7 n21, .os 8 n22, .os 9 l18.length] false, .w 56 l11, .arr 110 l12 n19 false, .w 174 l13, .arr 90 l14 n20 false, .w 178 l15, .arr 113 l16 n21 false, .arr 88 l17 n22 false, .w 105 l18, .box 31 [.os 11 l27.length, .os 12 n35, .os 13 l29.length, .os 14 n36, .os 15 l31.length, .os 16 n37, .os 17 n38, .os 18 l34.length] false, .w 56 l27, .arr 110 l28 n35 false, .w 174 l29, .arr 90 l30 n36 false, .w 178 l31, .arr 113 l32 n37 false, .arr 88 l33 n38 false, .w 105 l34], .b r50, .t, .t, .f] (pc (k_palinglaw15_Great h5)<|pc h6<|pc (k_overlay_Mesh h10)<|pc (k_palingref19_Mesh h26)<|pc (k_palinglaw19_OverlayMeshes_J1 h48)<|pc (k_palingref15_Same h51)<|pc (rn l11.length)<|pc (rn n19)<|pc (rn l13.length)<|pc (rn n20)<|pc (rn l15.length)<|pc (rn n21)<|pc (rn n22)<|pc (rn l18.length)<|pc (rn l27.length)<|pc (rn n35)<|pc (rn l29.length)<|pc (rn n36)<|pc (rn l31.length)<|pc (rn n37)<|pc (rn n38)<|pc (rn l34.length)<|pc h52<|pc h53<|pc h54<|pn)
   ·obtain rfl := oi h; exact rf Tryz.func4 none [.b r4, .f, .callm [] (.tup [.agg [.os 0 l11.length, .os 1 n19, .os 2 l13.length, .os 3 n20, .os 4 l15.length, .os 5 n21, .os 6 n22, .os 7 l18.length], .j v23, .j v24]) [.w 56 l11, .arr 110 l12 n19 false, .w 174 l13, .arr 90 l14 n20 false, .w 178 l15, .arr 113 l16 n21 false, .arr 88 l17 n22 false, .w 105 l18], .callm [] (.tup [.agg [.os 0 l27.length, .os 1 n35, .os 2 l29.length, .os 3 n36, .os 4 l31.length, .os 5 n37, .os 6 n38, .os 7 l34.length], .j v39, .j v40]) [.w 56 l27, .arr 110 l28 n35 false, .w 174 l29, .arr 90 l30 n36 false, .w 178 l31, .arr 113 l32 n37 false, .arr 88 l33 n38 false, .w 105 l34], .skp, .cut [1, 2, 3, 6, 7, 8, 9, 10, 11, 12, 13] [0, 17, 1, 2, 3, 4, 5, 6, 7, 8, 34, 18, 19, 20, 21, 22, 23, 24, 25] .nor [(1, .j a2), (2, .j a3), (3, .o 0), (6, .y false), (7, .o 1), (8, .j v23), (9, .j v24), (10, .o 10), (11, .j v39), (12, .j v40), (13, .j v47)] [.box 31 (c31 a1) false, .box 31 [.os 2 l11.length, .os 3 n19, .os 4 l13.length, .os 5 n20, .os 6 l15.length, .os 7 n21, .os 8 n22, .os 9 l18.length] false, .w 56 l11, .arr 110 l12 n19 false, .w 174 l13, .arr 90 l14 n20 false, .w 178 l15, .arr 113 l16 n21 false, .arr 88 l17 n22 false, .w 105 l18, .box 31 [.os 11 l27.length, .os 12 n35, .os 13 l29.length, .os 14 n36, .os 15 l31.length, .os 16 n37, .os 17 n38, .os 18 l34.length] false, .w 56 l27, .arr 110 l28 n35 false, .w 174 l29, .arr 90 l30 n36 false, .w 178 l31, .arr 113 l32 n37 false, .arr 88 l33 n38 false, .w 105 l34], .b r50, .t, .f] (pc (k_palinglaw15_Great h5)<|pc h6<|pc (k_overlay_Mesh h10)<|pc (k_palingref19_Mesh h26)<|pc (k_palinglaw19_OverlayMeshes_J1 h48)<|pc (k_palingref15_Same h51)<|pc (rn l11.length)<|pc (rn n19)<|pc (rn l13.length)<|pc (rn n20)<|pc (rn l15.length)<|pc (rn n21)<|pc (rn n22)<|pc (rn l18.length)<|pc (rn l27.length)<|pc (rn n35)<|pc (rn l29.length)<|pc (rn n36)<|pc (rn l31.length)<|pc (rn n37)<|pc (rn n38)<|pc (rn l34.length)<|pc h52<|pc h53<|pn)
  ·obtain rfl := oi h; exact rf Tryz.func4 none [.b r4, .f, .callm [] (.tup [.agg [.os 0 l11.length, .os 1 n19, .os 2 l13.length, .os 3 n20, .os 4 l15.length, .os 5 n21, .os 6 n22, .os 7 l18.length], .j v23, .j v24]) [.w 56 l11, .arr 110 l12 n19 false, .w 174 l13, .arr 90 l14 n20 false, .w 178 l15, .arr 113 l16 n21 false, .arr 88 l17 n22 false, .w 105 l18], .callm [] (.tup [.agg [.os 0 l27.length, .os 1 n35, .os 2 l29.length, .os 3 n36, .os 4 l31.length, .os 5 n37, .os 6 n38, .os 7 l34.length], .j v39, .j v40]) [.w 56 l27, .arr 110 l28 n35 false, .w 174 l29, .arr 90 l30 n36 false, .w 178 l31, .arr 113 l32 n37 false, .arr 88 l33 n38 false, .w 105 l34], .skp, .cut [1, 2, 3, 6, 7, 8, 9, 10, 11, 12, 13] [0, 17, 1, 2, 3, 4, 5, 6, 7, 8, 34, 18, 19, 20, 21, 22, 23, 24, 25] .nor [(1, .j a2), (2, .j a3), (3, .o 0), (6, .y false), (7, .o 1), (8, .j v23), (9, .j v24), (10, .o 10), (11, .j v39), (12, .j v40), (13, .j v47)] [.box 31 (c31 a1) false, .box 31 [.os 2 l11.length, .os 3 n19, .os 4 l13.length, .os 5 n20, .os 6 l15.length, .os 7 n21, .os 8 n22, .os 9 l18.length] false, .w 56 l11, .arr 110 l12 n19 false, .w 174 l13, .arr 90 l14 n20 false, .w 178 l15, .arr 113 l16 n21 false, .arr 88 l17 n22 false, .w 105 l18, .box 31 [.os 11 l27.length, .os 12 n35, .os 13 l29.length, .os 14 n36, .os 15 l31.length, .os 16 n37, .os 17 n38, .os 18 l34.length] false, .w 56 l27, .arr 110 l28 n35 false, .w 174 l29, .arr 90 l30 n36 false, .w 178 l31, .arr 113 l32 n37 false, .arr 88 l33 n38 false, .w 105 l34], .b r50, .f] (pc (k_palinglaw15_Great h5)<|pc h6<|pc (k_overlay_Mesh h10)<|pc (k_palingref19_Mesh h26)<|pc (k_palinglaw19_OverlayMeshes_J1 h48)<|pc (k_palingref15_Same h51)<|pc (rn l11.length)<|pc (rn n19)<|pc (rn l13.length)<|pc (rn n20)<|pc (rn l15.length)<|pc (rn n21)<|pc (rn n22)<|pc (rn l18.length)<|pc (rn l27.length)<|pc (rn n35)<|pc (rn l29.length)<|pc (rn n36)<|pc (rn l31.length)<|pc (rn n37)<|pc (rn n38)<|pc (rn l34.length)<|pc h52<|pn)

end Go.Eng
