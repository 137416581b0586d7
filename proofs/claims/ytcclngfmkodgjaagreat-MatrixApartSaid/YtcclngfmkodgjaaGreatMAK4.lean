/- Part of the proof of MatrixApart: printed mirrors of the functions, or their contracts. No conditions. -/
import Derived.Test.YtcclngfmkodgjaaGreatMAK3
set_option linter.unusedVariables false
set_option maxRecDepth 100000
namespace Go.Eng
open Go Go.Proofs
theorem k_palinglaw43_works {r : Bool} (h : palinglaw43_works = some r) :
  CallsOK Tryz.prog UU 23 [] [] (.y r) [] := by
 have hr : some true = some r := (by kernel_rfl : palinglaw43_works = some true).symm.trans h
 unfold palinglaw43_works at h
 obtain ⟨r1, h2, h⟩ := bo h
 obtain ⟨l3, n4, v5⟩ := r1
 obtain ⟨r6, h7, h⟩ := bo h
 obtain ⟨r8, h9, h⟩ := bo h
 obtain ⟨h10, h⟩|⟨h10, h⟩ := ite_out h
 ·obtain ⟨h11, h⟩|⟨h11, h⟩ := ite_out h
  ·obtain ⟨h12, h⟩|⟨h12, h⟩ := ite_out h
   ·obtain ⟨r13, h14, h⟩ := bo h
    obtain ⟨h15, h⟩|⟨h15, h⟩ := ite_out h
    ·obtain ⟨h16, h⟩|⟨h16, h⟩ := ite_out h
     ·obtain rfl := oi h; exact rf Tryz.func23 none [.obj [] (.w 56 [(⟨0, 0, (⟨#[97]⟩ : ByteArray), 0, 0⟩ : Api_Device)]), .obj [] (.w 110 [(⟨0, 0, 10, 0, (-1), (⟨#[112]⟩ : ByteArray), []⟩ : Api_Port), (⟨0, 0, 10, 0, (-1), (⟨#[113]⟩ : ByteArray), []⟩ : Api_Port), (⟨0, 0, 20, 0, (-1), (⟨#[114]⟩ : ByteArray), []⟩ : Api_Port)]), .obj [] (.w 90 [(⟨0, 10, 0, (-1), 0, []⟩ : Api_Domain), (⟨0, 20, 0, (-1), 0, []⟩ : Api_Domain)]), .obj [] (.w 3 [(0 : Int), (0 : Int), (1 : Int)]), .frz [0, 1, 12, 2, 13, 14, 15, 16, 17], .callm [] (.tup [.os 0 n4, .y v5]) [.arr 70 l3 n4 false], .obj [] (.w 9 [(⟨#[120]⟩ : ByteArray), (⟨#[121]⟩ : ByteArray)]), .callv (.tup [.x r6.1, .j r6.2]), .obj [] (.w 3 [(0 : Int), (0 : Int), (1 : Int)]), .obj [] (.w 9 [(⟨#[120]⟩ : ByteArray), (⟨#[121]⟩ : ByteArray)]), .callv (.tup [.x r8.1, .j r8.2]), .t, .t, .t, .b r13, .t, .t] (pc (bs_ob 56 [(⟨0, 0, (⟨#[97]⟩ : ByteArray), 0, 0⟩ : Api_Device)])<|pc (bs_ob 110 [(⟨0, 0, 10, 0, (-1), (⟨#[112]⟩ : ByteArray), []⟩ : Api_Port), (⟨0, 0, 10, 0, (-1), (⟨#[113]⟩ : ByteArray), []⟩ : Api_Port), (⟨0, 0, 20, 0, (-1), (⟨#[114]⟩ : ByteArray), []⟩ : Api_Port)])<|pc (bs_ob 90 [(⟨0, 10, 0, (-1), 0, []⟩ : Api_Domain), (⟨0, 20, 0, (-1), 0, []⟩ : Api_Domain)])<|pc (bs_ob 3 [(0 : Int), (0 : Int), (1 : Int)])<|pc (rn (List.length [(⟨0, 0, (⟨#[97]⟩ : ByteArray), 0, 0⟩ : Api_Device)]))<|pc (rn (List.length [(⟨0, 0, 10, 0, (-1), (⟨#[112]⟩ : ByteArray), []⟩ : Api_Port), (⟨0, 0, 10, 0, (-1), (⟨#[113]⟩ : ByteArray), []⟩ : Api_Port), (⟨0, 0, 20, 0, (-1), (⟨#[114]⟩ : ByteArray), []⟩ : Api_Port)]))<|pc (rn 0)<|pc (rn (List.length [(⟨0, 10, 0, (-1), 0, []⟩ : Api_Domain), (⟨0, 20, 0, (-1), 0, []⟩ : Api_Domain)]))<|pd (rn 0)<|pd (rn 0)<|pc (rn (List.length [(0 : Int), (0 : Int), (1 : Int)]))<|pc (k_matrix_Of h2)<|pc (bs_ob 9 [(⟨#[120]⟩ : ByteArray), (⟨#[121]⟩ : ByteArray)])<|pc (k_matrix_Text h7)<|pc (rn (List.length [(⟨#[120]⟩ : ByteArray), (⟨#[121]⟩ : ByteArray)]))<|pc (rn n4)<|pc (bs_ob 3 [(0 : Int), (0 : Int), (1 : Int)])<|pc (bs_ob 9 [(⟨#[120]⟩ : ByteArray), (⟨#[121]⟩ : ByteArray)])<|pc (k_matrix_Floods h9)<|pc (rn (List.length [(⟨0, 0, (⟨#[97]⟩ : ByteArray), 0, 0⟩ : Api_Device)]))<|pc (rn (List.length [(⟨0, 0, 10, 0, (-1), (⟨#[112]⟩ : ByteArray), []⟩ : Api_Port), (⟨0, 0, 10, 0, (-1), (⟨#[113]⟩ : ByteArray), []⟩ : Api_Port), (⟨0, 0, 20, 0, (-1), (⟨#[114]⟩ : ByteArray), []⟩ : Api_Port)]))<|pc (rn 0)<|pc (rn (List.length [(⟨0, 10, 0, (-1), 0, []⟩ : Api_Domain), (⟨0, 20, 0, (-1), 0, []⟩ : Api_Domain)]))<|pd (rn 0)<|pd (rn 0)<|pc (rn (List.length [(0 : Int), (0 : Int), (1 : Int)]))<|pc (rn (List.length [(⟨#[120]⟩ : ByteArray), (⟨#[121]⟩ : ByteArray)]))<|pc h10<|pc h11<|pc h12<|pc (k_matrix_Apart h14)<|pc (rn n4)<|pc h15<|pc h16<|pn)
     ·exact absurd (hr.trans h.symm) (by decide)
    ·exact absurd (hr.trans h.symm) (by decide)
   ·exact absurd (hr.trans h.symm) (by decide)
  ·exact absurd (hr.trans h.symm) (by decide)
 ·exact absurd (hr.trans h.symm) (by decide)

theorem k_palinglaw15_Great_L1 {a1 : Api_Net} : LoopOK Tryz.prog UU 0 123 (subC (codeOf Tryz.f15) [1, 1, 0, 1, 0, 0]) (ρ := Unit ⊕ Unit) (palinglaw15_Great_L1 a1)
  (fun v10 : Int => ([(1, .o 0), (2, .y false), (3, .j v10)] : Fr DD)) (fun v10 : Int => ([.box 31 (c31 a1) false] : Heap DD)) (fun r => match r with | Sum.inl _ => .ret | Sum.inr _ => .exit 0) (fun r => match r with | Sum.inl _ => [(2, .y true)] | Sum.inr _ => [(1, .o 0), (2, .y false)]) (fun r => match r with | Sum.inl _ => [] | Sum.inr _ => [.box 31 (c31 a1) false]) := by
 refine loop_sound3 (fun s q h => ?_) (fun r => ?_)
 ·replace h : palinglaw15_Great_L1 a1 s = some q := h; revert h; revert s; intro v10 h
  unfold palinglaw15_Great_L1 at h
  obtain ⟨h11, h⟩|⟨h11, h⟩ := ite_out h
  ·obtain ⟨x12, h13, h⟩ := bo h
   obtain ⟨h14, h⟩|⟨h14, h⟩ := ite_out h
   ·obtain rfl := oi h; exact rl [2] [] [.t, .row (c110 x12), .t] (pc h11<|pc (ob110 h13)<|pc h14<|pn)
   ·obtain rfl := oi h; exact rl [1, 2, 3] [0] [.t, .row (c110 x12), .f] (pc h11<|pc (ob110 h13)<|pc h14<|pn)
  ·obtain rfl := oi h; exact rl [1, 2] [0] [.f] (pc h11<|pn)
 ·rcases r with _ | _ <;> exact Ex.noConfusion

theorem k_palinglaw15_Great_L2 {a1 : Api_Net} : LoopOK Tryz.prog UU 0 123 (subC (codeOf Tryz.f15) [1, 1, 1, 0, 1, 0, 0]) (ρ := Unit ⊕ Unit) (palinglaw15_Great_L2 a1)
  (fun v17 : Int => ([(1, .o 0), (2, .y false), (4, .j v17)] : Fr DD)) (fun v17 : Int => ([.box 31 (c31 a1) false] : Heap DD)) (fun r => match r with | Sum.inl _ => .ret | Sum.inr _ => .exit 2) (fun r => match r with | Sum.inl _ => [(2, .y true)] | Sum.inr _ => [(1, .o 0), (2, .y false)]) (fun r => match r with | Sum.inl _ => [] | Sum.inr _ => [.box 31 (c31 a1) false]) := by
 refine loop_sound3 (fun s q h => ?_) (fun r => ?_)
 ·replace h : palinglaw15_Great_L2 a1 s = some q := h; revert h; revert s; intro v17 h
  unfold palinglaw15_Great_L2 at h
  obtain ⟨h18, h⟩|⟨h18, h⟩ := ite_out h
  ·obtain ⟨x19, h20, h⟩ := bo h
   obtain ⟨h21, h⟩|⟨h21, h⟩ := ite_out h
   ·obtain rfl := oi h; exact rl [2] [] [.t, .row (c90 x19), .t] (pc h18<|pc (ob90 h20)<|pc h21<|pn)
   ·obtain rfl := oi h; exact rl [1, 2, 4] [0] [.t, .row (c90 x19), .f] (pc h18<|pc (ob90 h20)<|pc h21<|pn)
  ·obtain rfl := oi h; exact rl [1, 2] [0] [.f] (pc h18<|pn)
 ·rcases r with _ | _ <;> exact Ex.noConfusion

theorem k_palinglaw15_Great_L3 {a1 : Api_Net} : LoopOK Tryz.prog UU 0 123 (subC (codeOf Tryz.f15) [1, 1, 1, 1, 0, 1, 0, 0]) (ρ := Unit ⊕ Unit) (palinglaw15_Great_L3 a1)
  (fun v24 : Int => ([(1, .o 0), (2, .y false), (5, .j v24)] : Fr DD)) (fun v24 : Int => ([.box 31 (c31 a1) false] : Heap DD)) (fun r => match r with | Sum.inl _ => .ret | Sum.inr _ => .exit 4) (fun r => match r with | Sum.inl _ => [(2, .y true)] | Sum.inr _ => [(1, .o 0), (2, .y false)]) (fun r => match r with | Sum.inl _ => [] | Sum.inr _ => [.box 31 (c31 a1) false]) := by
 refine loop_sound3 (fun s q h => ?_) (fun r => ?_)
 ·replace h : palinglaw15_Great_L3 a1 s = some q := h; revert h; revert s; intro v24 h
  unfold palinglaw15_Great_L3 at h
  obtain ⟨h25, h⟩|⟨h25, h⟩ := ite_out h
  ·obtain ⟨x26, h27, h⟩ := bo h
   obtain ⟨h28, h⟩|⟨h28, h⟩ := ite_out h
   ·obtain rfl := oi h; exact rl [2] [] [.t, .row (c113 x26), .t] (pc h25<|pc (ob113 h27)<|pc h28<|pn)
   ·obtain rfl := oi h; exact rl [1, 2, 5] [0] [.t, .row (c113 x26), .f] (pc h25<|pc (ob113 h27)<|pc h28<|pn)
  ·obtain rfl := oi h; exact rl [1, 2] [0] [.f] (pc h25<|pn)
 ·rcases r with _ | _ <;> exact Ex.noConfusion

theorem k_palinglaw15_Great_L4 {a1 : Api_Net} : LoopOK Tryz.prog UU 0 123 (subC (codeOf Tryz.f15) [1, 1, 1, 1, 1, 0, 1, 0, 0]) (ρ := Unit ⊕ Unit) (palinglaw15_Great_L4 a1)
  (fun v31 : Int => ([(1, .o 0), (2, .y false), (6, .j v31)] : Fr DD)) (fun v31 : Int => ([.box 31 (c31 a1) false] : Heap DD)) (fun r => match r with | Sum.inl _ => .ret | Sum.inr _ => .exit 6) (fun r => match r with | Sum.inl _ => [(2, .y true)] | Sum.inr _ => [(2, .y false)]) (fun r => match r with | Sum.inl _ => [] | Sum.inr _ => []) := by
 refine loop_sound3 (fun s q h => ?_) (fun r => ?_)
 ·replace h : palinglaw15_Great_L4 a1 s = some q := h; revert h; revert s; intro v31 h
  unfold palinglaw15_Great_L4 at h
  obtain ⟨h32, h⟩|⟨h32, h⟩ := ite_out h
  ·obtain ⟨x33, h34, h⟩ := bo h
   obtain ⟨h35, h⟩|⟨h35, h⟩ := ite_out h
   ·obtain rfl := oi h; exact rl [2] [] [.t, .row (c88 x33), .t] (pc h32<|pc (ob88 h34)<|pc h35<|pn)
   ·obtain ⟨x36, h37, h⟩ := bo h
    obtain ⟨h38, h⟩|⟨h38, h⟩ := ite_out h
    ·obtain rfl := oi h; exact rl [2] [] [.t, .row (c88 x33), .f, .row (c88 x36), .t] (pc h32<|pc (ob88 h34)<|pc h35<|pc (ob88 h37)<|pc h38<|pn)
    ·obtain rfl := oi h; exact rl [1, 2, 6] [0] [.t, .row (c88 x33), .f, .row (c88 x36), .f] (pc h32<|pc (ob88 h34)<|pc h35<|pc (ob88 h37)<|pc h38<|pn)
  ·obtain rfl := oi h; exact rl [2] [] [.f] (pc h32<|pn)
 ·rcases r with _ | _ <;> exact Ex.noConfusion

theorem k_palinglaw15_Great {a1 : Api_Net} {r : Bool} (h : palinglaw15_Great a1 = some r) :
  CallsOK Tryz.prog UU 15 [.agg (c31 a1)] [] (.y r) [] := by
 unfold palinglaw15_Great at h
 obtain ⟨h2, h⟩|⟨h2, h⟩ := ite_out h
 ·obtain rfl := oi h; exact rf Tryz.func15 none [.t] (pc h2<|pn)
 ·obtain ⟨h3, h⟩|⟨h3, h⟩ := ite_out h
  ·obtain rfl := oi h; exact rf Tryz.func15 none [.f, .t] (pc h2<|pc h3<|pn)
  ·obtain ⟨h4, h⟩|⟨h4, h⟩ := ite_out h
   ·obtain rfl := oi h; exact rf Tryz.func15 none [.f, .f, .t] (pc h2<|pc h3<|pc h4<|pn)
   ·obtain ⟨h5, h⟩|⟨h5, h⟩ := ite_out h
    ·obtain rfl := oi h; exact rf Tryz.func15 none [.f, .f, .f, .t] (pc h2<|pc h3<|pc h4<|pc h5<|pn)
    ·obtain ⟨h6, h⟩|⟨h6, h⟩ := ite_out h
     ·obtain rfl := oi h; exact rf Tryz.func15 none [.f, .f, .f, .f, .t] (pc h2<|pc h3<|pc h4<|pc h5<|pc h6<|pn)
     ·obtain ⟨h7, h⟩|⟨h7, h⟩ := ite_out h
      ·obtain rfl := oi h; exact rf Tryz.func15 none [.f, .f, .f, .f, .f, .t] (pc h2<|pc h3<|pc h4<|pc h5<|pc h6<|pc h7<|pn)
      ·obtain ⟨h8, h⟩|⟨h8, h⟩ := ite_out h
       ·obtain rfl := oi h; exact rf Tryz.func15 none [.f, .f, .f, .f, .f, .f, .t] (pc h2<|pc h3<|pc h4<|pc h5<|pc h6<|pc h7<|pc h8<|pn)
       ·obtain ⟨h9, h⟩|⟨h9, h⟩ := ite_out h
        ·obtain rfl := oi h; exact rf Tryz.func15 none [.f, .f, .f, .f, .f, .f, .f, .t] (pc h2<|pc h3<|pc h4<|pc h5<|pc h6<|pc h7<|pc h8<|pc h9<|pn)
        ·obtain ⟨r16, h15, h⟩ := bo h
         rcases r16 with _ | _
         ·obtain rfl := oi h; exact rf Tryz.func15 none [.f, .f, .f, .f, .f, .f, .f, .f, .sum [1, 2, 3] [0] .ret [(2, .y true)] []] (pc h2<|pc h3<|pc h4<|pc h5<|pc h6<|pc h7<|pc h8<|pc h9<|pc (k_palinglaw15_Great_L1 _ _ h15)<|pn)
         ·obtain ⟨r23, h22, h⟩ := bo h
          rcases r23 with _ | _
          ·obtain rfl := oi h; exact rf Tryz.func15 none [.f, .f, .f, .f, .f, .f, .f, .f, .sum [1, 2, 3] [0] (.exit 0) [(1, .o 0), (2, .y false)] [.box 31 (c31 a1) false], .sum [1, 2, 4] [0] .ret [(2, .y true)] []] (pc h2<|pc h3<|pc h4<|pc h5<|pc h6<|pc h7<|pc h8<|pc h9<|pc (k_palinglaw15_Great_L1 _ _ h15)<|pc (k_palinglaw15_Great_L2 _ _ h22)<|pn)
          ·obtain ⟨r30, h29, h⟩ := bo h
           rcases r30 with _ | _
           ·obtain rfl := oi h; exact rf Tryz.func15 none [.f, .f, .f, .f, .f, .f, .f, .f, .sum [1, 2, 3] [0] (.exit 0) [(1, .o 0), (2, .y false)] [.box 31 (c31 a1) false], .sum [1, 2, 4] [0] (.exit 2) [(1, .o 0), (2, .y false)] [.box 31 (c31 a1) false], .sum [1, 2, 5] [0] .ret [(2, .y true)] []] (pc h2<|pc h3<|pc h4<|pc h5<|pc h6<|pc h7<|pc h8<|pc h9<|pc (k_palinglaw15_Great_L1 _ _ h15)<|pc (k_palinglaw15_Great_L2 _ _ h22)<|pc (k_palinglaw15_Great_L3 _ _ h29)<|pn)
           ·obtain ⟨r40, h39, h⟩ := bo h
            rcases r40 with _ | _
            ·obtain rfl := oi h; exact rf Tryz.func15 none [.f, .f, .f, .f, .f, .f, .f, .f, .sum [1, 2, 3] [0] (.exit 0) [(1, .o 0), (2, .y false)] [.box 31 (c31 a1) false], .sum [1, 2, 4] [0] (.exit 2) [(1, .o 0), (2, .y false)] [.box 31 (c31 a1) false], .sum [1, 2, 5] [0] (.exit 4) [(1, .o 0), (2, .y false)] [.box 31 (c31 a1) false], .sum [1, 2, 6] [0] .ret [(2, .y true)] []] (pc h2<|pc h3<|pc h4<|pc h5<|pc h6<|pc h7<|pc h8<|pc h9<|pc (k_palinglaw15_Great_L1 _ _ h15)<|pc (k_palinglaw15_Great_L2 _ _ h22)<|pc (k_palinglaw15_Great_L3 _ _ h29)<|pc (k_palinglaw15_Great_L4 _ _ h39)<|pn)
            ·obtain rfl := oi h; exact rf Tryz.func15 none [.f, .f, .f, .f, .f, .f, .f, .f, .sum [1, 2, 3] [0] (.exit 0) [(1, .o 0), (2, .y false)] [.box 31 (c31 a1) false], .sum [1, 2, 4] [0] (.exit 2) [(1, .o 0), (2, .y false)] [.box 31 (c31 a1) false], .sum [1, 2, 5] [0] (.exit 4) [(1, .o 0), (2, .y false)] [.box 31 (c31 a1) false], .sum [1, 2, 6] [0] (.exit 6) [(2, .y false)] []] (pc h2<|pc h3<|pc h4<|pc h5<|pc h6<|pc h7<|pc h8<|pc h9<|pc (k_palinglaw15_Great_L1 _ _ h15)<|pc (k_palinglaw15_Great_L2 _ _ h22)<|pc (k_palinglaw15_Great_L3 _ _ h29)<|pc (k_palinglaw15_Great_L4 _ _ h39)<|pn)

theorem k_witness_host {a1 : Api_Net} {a2 : Int} {r : Bool} (h : witness_host a1 a2 = some r) :
  CallsOK Tryz.prog UU 95 [.agg (c31 a1), .j a2] [] (.y r) [] := by
 unfold witness_host at h
 obtain ⟨h3, h⟩|⟨h3, h⟩ := ite_out h
 ·obtain ⟨h4, h⟩|⟨h4, h⟩ := ite_out h
  ·obtain ⟨x5, h6, h⟩ := bo h
   obtain rfl := oi h; exact rf Tryz.func95 none [.t, .t, .row (c110 x5)] (pc h3<|pc h4<|pc (ob110 h6)<|pn)
  ·obtain rfl := oi h; exact rf Tryz.func95 none [.t, .f] (pc h3<|pc h4<|pn)
 ·obtain rfl := oi h; exact rf Tryz.func95 none [.f] (pc h3<|pn)

theorem k_witness_search_meet_own_J1 {a1 : List Api_Device} {a2 : List Api_Port} {a3 : List Api_Link} {a4 : List Api_Domain} {a5 : List Api_Static} {a6 : List Api_Flood} {a7 : List Api_Vrf} {a8 : List Api_Irb} {a9 : List Bool} {n10 : Nat} {a11 : List Bool} {n12 : Nat} {a13 : List Witness_found} {a14 : Witness_state} {a15 : Reach_Hop} {a16 : Int} {r : Bool} (h : witness_search_meet_own_J1 a1 a2 a3 a4 a5 a6 a7 a8 a9 n10 a11 n12 a13 a14 a15 a16 = some r) :
  ExecOK Tryz.prog UU 4 43 (subC (codeOf Tryz.f172) [1, 0]) [(0, .o 0), (3, .j a16), (5, .o 4), (6, .o 5)] [.box 154 [.sl 56 a1, .sl 110 a2, .sl 174 a3, .sl 90 a4, .sl 178 a5, .sl 113 a6, .sl 88 a7, .sl 105 a8, .os 1 n10, .os 2 n12, .os 3 a13.length] false, .arr 4 a9 n10 false, .arr 4 a11 n12 false, .w 163 a13, .box 159 (c159 a14) false, .box 161 (c161 a15) false] ((fun r => match r with | v26 => .nor) r) ((fun r => match r with | v26 => [(0, .o 0), (3, .j a16), (5, .o 4), (6, .o 5), (19, .y v26)]) r) ((fun r => match r with | v26 => [.box 154 [.sl 56 a1, .sl 110 a2, .sl 174 a3, .sl 90 a4, .sl 178 a5, .sl 113 a6, .sl 88 a7, .sl 105 a8, .os 1 n10, .os 2 n12, .os 3 a13.length] false, .arr 4 a9 n10 false, .arr 4 a11 n12 false, .w 163 a13, .box 159 (c159 a14) false, .box 161 (c161 a15) false]) r) := by
 unfold witness_search_meet_own_J1 at h
 obtain ⟨h17, h⟩|⟨h17, h⟩ := ite_out h
 ·obtain ⟨h18, h⟩|⟨h18, h⟩ := ite_out h
  ·obtain ⟨x19, h20, h⟩ := bo h
   obtain rfl := oi h; exact rl [0, 3, 5, 6, 19] [0, 1, 2, 3, 4, 5] [.frz [0], .row (c4 x19)] (pc (eq_of_beq h17)<|pc (an n10 (lin_ob h18))<|pc (an n10 (obn4 h20))<|pn)
  ·cases h
 ·obtain ⟨h21, h⟩|⟨h21, h⟩ := ite_out h
  ·obtain ⟨h22, h⟩|⟨h22, h⟩ := ite_out h
   ·obtain ⟨x23, h24, h⟩ := bo h
    obtain rfl := oi h; exact rl [0, 3, 5, 6, 19] [0, 1, 2, 3, 4, 5] [.frz [1], .row (c4 x23)] (pc (eq_of_beq h21)<|pc (an n12 (lin_ob h22))<|pc (an n12 (obn4 h24))<|pn)
   ·cases h
  ·cases h

theorem k_witness_search_meet_own_J2 {a1 : List Api_Device} {a2 : List Api_Port} {a3 : List Api_Link} {a4 : List Api_Domain} {a5 : List Api_Static} {a6 : List Api_Flood} {a7 : List Api_Vrf} {a8 : List Api_Irb} {a9 : List Bool} {n10 : Nat} {a11 : List Bool} {n12 : Nat} {a13 : List Witness_found} {a14 : Witness_state} {a15 : Reach_Hop} {a16 : Int} {r : ((List Bool) × (List Bool))} (h : witness_search_meet_own_J2 a1 a2 a3 a4 a5 a6 a7 a8 a9 n10 a11 n12 a13 a14 a15 a16 = some r) :
  ExecOK Tryz.prog UU 4 43 (subC (codeOf Tryz.f172) [1, 1, 0, 0]) [(0, .o 0), (3, .j a16), (5, .o 4), (6, .o 5)] [.box 154 [.sl 56 a1, .sl 110 a2, .sl 174 a3, .sl 90 a4, .sl 178 a5, .sl 113 a6, .sl 88 a7, .sl 105 a8, .os 1 n10, .os 2 n12, .os 3 a13.length] false, .arr 4 a9 n10 false, .arr 4 a11 n12 false, .w 163 a13, .box 159 (c159 a14) false, .box 161 (c161 a15) false] ((fun r => match r with | (l46, l47) => .nor) r) ((fun r => match r with | (l46, l47) => [(0, .o 0), (3, .j a16), (5, .o 4), (6, .o 5)]) r) ((fun r => match r with | (l46, l47) => [.box 154 [.sl 56 a1, .sl 110 a2, .sl 174 a3, .sl 90 a4, .sl 178 a5, .sl 113 a6, .sl 88 a7, .sl 105 a8, .os 1 n10, .os 2 n12, .os 3 a13.length] false, .arr 4 l46 n10 false, .arr 4 l47 n12 false, .w 163 a13, .box 159 (c159 a14) false, .box 161 (c161 a15) false]) r) := by
 unfold witness_search_meet_own_J2 at h
 obtain ⟨h30, h⟩|⟨h30, h⟩ := ite_out h
 ·obtain ⟨h31, h⟩|⟨h31, h⟩ := ite_out h
  ·obtain ⟨x32, h33, h⟩ := bo h
   obtain rfl := oi h; exact rl [0, 3, 5, 6] [0, 1, 2, 3, 4, 5] [.frz [0], .row (c4 x32), .obj [] (.arr 4 (List.set a9 (Int.toNat a14.domain) true) n10 false)] (pc (eq_of_beq h30)<|pc (an n10 (lin_ob h31))<|pc (st_ob (e := 4) (n := n10) (l := a9) (i := (Int.toNat a14.domain)) true [.y true] (obn4 h33) rfl)<|pn)
  ·cases h
 ·obtain ⟨h34, h⟩|⟨h34, h⟩ := ite_out h
  ·obtain ⟨h35, h⟩|⟨h35, h⟩ := ite_out h
   ·obtain ⟨x36, h37, h⟩ := bo h
    obtain rfl := oi h; exact rl [0, 3, 5, 6] [0, 1, 2, 3, 4, 5] [.frz [1], .row (c4 x36), .obj [] (.arr 4 (List.set a11 (Int.toNat a14.domain) true) n12 false)] (pc (eq_of_beq h34)<|pc (an n12 (lin_ob h35))<|pc (st_ob (e := 4) (n := n12) (l := a11) (i := (Int.toNat a14.domain)) true [.y true] (obn4 h37) rfl)<|pn)
   ·cases h
  ·cases h

theorem k_witness_search_meet_own {a1 : List Api_Device} {a2 : List Api_Port} {a3 : List Api_Link} {a4 : List Api_Domain} {a5 : List Api_Static} {a6 : List Api_Flood} {a7 : List Api_Vrf} {a8 : List Api_Irb} {a9 : List Bool} {n10 : Nat} {a11 : List Bool} {n12 : Nat} {a13 : List Witness_found} {a14 : Witness_state} {a15 : Reach_Hop} {a16 : Int} {r : ((List Bool) × (List Bool) × (List Witness_found))} (h : witness_search_meet_own a1 a2 a3 a4 a5 a6 a7 a8 a9 n10 a11 n12 a13 a14 a15 a16 = some r) :
  CallsOK Tryz.prog UU 172 [.o 0, .agg (c159 a14), .agg (c161 a15), .j a16] [.box 154 [.sl 56 a1, .sl 110 a2, .sl 174 a3, .sl 90 a4, .sl 178 a5, .sl 113 a6, .sl 88 a7, .sl 105 a8, .os 1 n10, .os 2 n12, .os 3 a13.length] false, .arr 4 a9 n10 false, .arr 4 a11 n12 false, .w 163 a13] ((fun r => match r with | (l51, l52, l53) => .tup []) r) ((fun r => match r with | (l51, l52, l53) => [.box 154 [.sl 56 a1, .sl 110 a2, .sl 174 a3, .sl 90 a4, .sl 178 a5, .sl 113 a6, .sl 88 a7, .sl 105 a8, .os 1 n10, .os 2 n12, .os 3 l53.length] false, .arr 4 l51 n10 false, .arr 4 l52 n12 false, .w 163 l53]) r) := by
 unfold witness_search_meet_own at h
 obtain ⟨v26, h27, h⟩ := bo h
 obtain ⟨h29, h⟩|⟨h29, h⟩ := ite_out h
 ·obtain ⟨r49, h48, h⟩ := bo h
  obtain ⟨l46, l47⟩ := r49
  obtain ⟨h50, h⟩|⟨h50, h⟩ := ite_out h
  ·obtain rfl := oi h; exact rf Tryz.func172 (some [0, 1, 2, 3]) [.skp, .cut [0, 3, 5, 6] [0, 1, 2, 3, 4, 5] .nor [(0, .o 0), (3, .j a16), (5, .o 4), (6, .o 5), (19, .y v26)] [.box 154 [.sl 56 a1, .sl 110 a2, .sl 174 a3, .sl 90 a4, .sl 178 a5, .sl 113 a6, .sl 88 a7, .sl 105 a8, .os 1 n10, .os 2 n12, .os 3 a13.length] false, .arr 4 a9 n10 false, .arr 4 a11 n12 false, .w 163 a13, .box 159 (c159 a14) false, .box 161 (c161 a15) false], .t, .cut [0, 3, 5, 6] [0, 1, 2, 3, 4, 5] .nor [(0, .o 0), (3, .j a16), (5, .o 4), (6, .o 5)] [.box 154 [.sl 56 a1, .sl 110 a2, .sl 174 a3, .sl 90 a4, .sl 178 a5, .sl 113 a6, .sl 88 a7, .sl 105 a8, .os 1 n10, .os 2 n12, .os 3 a13.length] false, .arr 4 l46 n10 false, .arr 4 l47 n12 false, .w 163 a13, .box 159 (c159 a14) false, .box 161 (c161 a15) false], .sum [10] [] .nor [] [.box 154 [.sl 56 a1, .sl 110 a2, .sl 174 a3, .sl 90 a4, .sl 178 a5, .sl 113 a6, .sl 88 a7, .sl 105 a8, .os 1 n10, .os 2 n12, .os 3 a13.length] false, .arr 4 l46 n10 false, .arr 4 l47 n12 false, .w 163 (a13 ++ [(⟨a14, a15, a16⟩ : Witness_found)]), .box 159 (c159 a14) false, .box 161 (c161 a15) false], .obj [] (.w 163 [(⟨a14, a15, a16⟩ : Witness_found)]), .obj [] (.w 163 (a13 ++ [(⟨a14, a15, a16⟩ : Witness_found)]))] (pc (k_witness_search_meet_own_J1 h27)<|pc h29<|pc (k_witness_search_meet_own_J2 h48)<|pc (rr (.o 0))<|pc (bs_ob 163 [(⟨a14, a15, a16⟩ : Witness_found)])<|pc (rh [.box 154 [.sl 56 a1, .sl 110 a2, .sl 174 a3, .sl 90 a4, .sl 178 a5, .sl 113 a6, .sl 88 a7, .sl 105 a8, .os 1 n10, .os 2 n12, .os 3 a13.length] false, .arr 4 l46 n10 false, .arr 4 l47 n12 false, .w 163 (a13 ++ [(⟨a14, a15, a16⟩ : Witness_found)]), .box 159 (c159 a14) false, .box 161 (c161 a15) false])<|pc (app_ob 163 (n := a13.length) (l := a13) (xs := [(⟨a14, a15, a16⟩ : Witness_found)]) h50)<|pn)
  ·cases h
 ·obtain rfl := oi h; exact rf Tryz.func172 (some [0, 1, 2, 3]) [.skp, .cut [0, 3, 5, 6] [0, 1, 2, 3, 4, 5] .nor [(0, .o 0), (3, .j a16), (5, .o 4), (6, .o 5), (19, .y v26)] [.box 154 [.sl 56 a1, .sl 110 a2, .sl 174 a3, .sl 90 a4, .sl 178 a5, .sl 113 a6, .sl 88 a7, .sl 105 a8, .os 1 n10, .os 2 n12, .os 3 a13.length] false, .arr 4 a9 n10 false, .arr 4 a11 n12 false, .w 163 a13, .box 159 (c159 a14) false, .box 161 (c161 a15) false], .f] (pc (k_witness_search_meet_own_J1 h27)<|pc h29<|pn)

theorem k_witness_search_begin_own_L1 {a1 : List Api_Device} {a2 : List Api_Port} {a3 : List Api_Link} {a4 : List Api_Domain} {a5 : List Api_Static} {a6 : List Api_Flood} {a7 : List Api_Vrf} {a8 : List Api_Irb} {a9 : List Bool} {a10 : List Bool} {x13 : Api_Port} : LoopOK Tryz.prog UU 4 61 (subC (codeOf Tryz.f96) [1, 1, 1, 0, 0]) (fun s : (List Witness_found) × (List Bool) × (List Bool) × Int => match s with | (l17, l18, l19, v20) => witness_search_begin_own_L1 a1 a2 a3 a4 a5 a6 a7 a8 a9 a10 x13 l17 l18 l19 v20)
  (fun s : (List Witness_found) × (List Bool) × (List Bool) × Int => (match s with | (l17, l18, l19, v20) => [(0, .o 0), (4, .o 4), (38, .os 5 (List.length ([x13.native] ++ x13.tagged))), (39, .j ((List.length ([x13.native] ++ x13.tagged)) : Int)), (40, .j v20)] : Fr DD)) (fun s : (List Witness_found) × (List Bool) × (List Bool) × Int => (match s with | (l17, l18, l19, v20) => [.box 154 [.sl 56 a1, .sl 110 a2, .sl 174 a3, .sl 90 a4, .sl 178 a5, .sl 113 a6, .sl 88 a7, .sl 105 a8, .os 6 (Int.toNat (a4.length : Int)), .os 7 (Int.toNat (a4.length : Int)), .os 3 l17.length] false, .w 4 a9, .w 4 a10, .w 163 l17, .box 110 (c110 x13) false, .w 3 ([x13.native] ++ x13.tagged), .arr 4 l18 (Int.toNat (a4.length : Int)) false, .arr 4 l19 (Int.toNat (a4.length : Int)) false] : Heap DD)) (fun r => match r with | (l33, l34, l35) => .exit 2) (fun r => match r with | (l33, l34, l35) => []) (fun r => match r with | (l33, l34, l35) => [.box 154 [.sl 56 a1, .sl 110 a2, .sl 174 a3, .sl 90 a4, .sl 178 a5, .sl 113 a6, .sl 88 a7, .sl 105 a8, .os 4 (Int.toNat (a4.length : Int)), .os 5 (Int.toNat (a4.length : Int)), .os 3 l33.length] false, .w 4 a9, .w 4 a10, .w 163 l33, .arr 4 l34 (Int.toNat (a4.length : Int)) false, .arr 4 l35 (Int.toNat (a4.length : Int)) false]) := by
 refine loop_sound3 (fun s q h => ?_) (fun r => ?_)
 ·obtain ⟨l17, l18, l19, v20⟩ := s; replace h : witness_search_begin_own_L1 a1 a2 a3 a4 a5 a6 a7 a8 a9 a10 x13 l17 l18 l19 v20 = some q := h
  unfold witness_search_begin_own_L1 at h
  obtain ⟨h21, h⟩|⟨h21, h⟩ := ite_out h
  ·obtain ⟨h22, h⟩|⟨h22, h⟩ := ite_out h
   ·obtain ⟨x23, h24, h⟩ := bo h
    obtain ⟨h25, h⟩|⟨h25, h⟩ := ite_out h
    ·obtain ⟨r26, h27, h⟩ := bo h
     obtain ⟨r28, h29, h⟩ := bo h
     obtain ⟨l30, l31, l32⟩ := r28
     obtain rfl := oi h; exact rl [0, 4, 38, 39, 40] [0, 1, 2, 3, 4, 5, 6, 7] [.t, .row (c3 x23), .t, .callv (.j r26), .callm [0, 6, 7, 3] (.tup []) [.box 154 [.sl 56 a1, .sl 110 a2, .sl 174 a3, .sl 90 a4, .sl 178 a5, .sl 113 a6, .sl 88 a7, .sl 105 a8, .os 1 (Int.toNat (a4.length : Int)), .os 2 (Int.toNat (a4.length : Int)), .os 3 l32.length] false, .arr 4 l30 (Int.toNat (a4.length : Int)) false, .arr 4 l31 (Int.toNat (a4.length : Int)) false, .w 163 l32]] (pc h21<|pc (an (List.length ([x13.native] ++ x13.tagged)) (lin_ob h22))<|pc (an (List.length ([x13.native] ++ x13.tagged)) (obn3 h24))<|pc h25<|pc (k_names_Domain h27)<|pc (k_witness_search_meet_own h29)<|pn)
    ·obtain rfl := oi h; exact rl [0, 4, 38, 39, 40] [0, 1, 2, 3, 4, 5, 6, 7] [.t, .row (c3 x23), .f] (pc h21<|pc (an (List.length ([x13.native] ++ x13.tagged)) (lin_ob h22))<|pc (an (List.length ([x13.native] ++ x13.tagged)) (obn3 h24))<|pc h25<|pn)
   ·cases h
  ·obtain rfl := oi h; exact rl [] [0, 1, 2, 3, 6, 7] [.f] (pc h21<|pn)
 ·exact Ex.noConfusion

def b0_k_witness_search_begin_own (a1 : List Api_Device) (a2 : List Api_Port) (a3 : List Api_Link) (a4 : List Api_Domain) (a5 : List Api_Static) (a6 : List Api_Flood) (a7 : List Api_Vrf) (a8 : List Api_Irb) (a10 : List Bool) (a11 : List Witness_found) : AObj DD := .box 154 [.sl 56 a1, .sl 110 a2, .sl 174 a3, .sl 90 a4, .sl 178 a5, .sl 113 a6, .sl 88 a7, .sl 105 a8, .os 6 (Int.toNat (a4.length : Int)), .os 2 a10.length, .os 3 a11.length] false
def b1_k_witness_search_begin_own (a1 : List Api_Device) (a2 : List Api_Port) (a3 : List Api_Link) (a4 : List Api_Domain) (a5 : List Api_Static) (a6 : List Api_Flood) (a7 : List Api_Vrf) (a8 : List Api_Irb) (a9 : List Bool) (a10 : List Bool) (a11 : List Witness_found) : AObj DD := .box 154 [.sl 56 a1, .sl 110 a2, .sl 174 a3, .sl 90 a4, .sl 178 a5, .sl 113 a6, .sl 88 a7, .sl 105 a8, .os 1 a9.length, .os 2 a10.length, .os 3 a11.length] false
theorem k_witness_search_begin_own {a1 : List Api_Device} {a2 : List Api_Port} {a3 : List Api_Link} {a4 : List Api_Domain} {a5 : List Api_Static} {a6 : List Api_Flood} {a7 : List Api_Vrf} {a8 : List Api_Irb} {a9 : List Bool} {a10 : List Bool} {a11 : List Witness_found} {a12 : Int} {r : ((List Witness_found) × (List Bool) × (List Bool))} (h : witness_search_begin_own a1 a2 a3 a4 a5 a6 a7 a8 a9 a10 a11 a12 = some r) :
  CallsOK Tryz.prog UU 96 [.o 0, .j a12] [(b1_k_witness_search_begin_own a1 a2 a3 a4 a5 a6 a7 a8 a9 a10 a11), .w 4 a9, .w 4 a10, .w 163 a11] ((fun r => match r with | (l38, l39, l40) => .tup []) r) ((fun r => match r with | (l38, l39, l40) => [.box 154 [.sl 56 a1, .sl 110 a2, .sl 174 a3, .sl 90 a4, .sl 178 a5, .sl 113 a6, .sl 88 a7, .sl 105 a8, .os 4 (Int.toNat (a4.length : Int)), .os 5 (Int.toNat (a4.length : Int)), .os 3 l38.length] false, .w 4 a9, .w 4 a10, .w 163 l38, .arr 4 l39 (Int.toNat (a4.length : Int)) false, .arr 4 l40 (Int.toNat (a4.length : Int)) false]) r) := by
 unfold witness_search_begin_own at h
 obtain ⟨x13, h14, h⟩ := bo h
 obtain ⟨h15, h⟩|⟨h15, h⟩ := ite_out h
 ·obtain ⟨h16, h⟩|⟨h16, h⟩ := ite_out h
  ·obtain ⟨r37, h36, h⟩ := bo h
   obtain ⟨l33, l34, l35⟩ := r37
   obtain rfl := oi h; exact rf Tryz.func96 (some [0, 1, 2, 3, 4, 5]) [.row (c110 x13), .frz [9], .t, .sum [8] [] .nor [] [(b1_k_witness_search_begin_own a1 a2 a3 a4 a5 a6 a7 a8 a9 a10 a11), .w 4 a9, .w 4 a10, .w 163 a11, .n 3, .box 110 (c110 x13) false, .arr 4 (List.replicate (Int.toNat (a4.length : Int)) false) (Int.toNat (a4.length : Int)) false], .obj [] (.arr 4 (List.replicate (Int.toNat (a4.length : Int)) false) (Int.toNat (a4.length : Int)) false), .frz [0], .t, .sum [8] [] .nor [] [(b0_k_witness_search_begin_own a1 a2 a3 a4 a5 a6 a7 a8 a10 a11), .w 4 a9, .w 4 a10, .w 163 a11, .n 3, .box 110 (c110 x13) false, .arr 4 (List.replicate (Int.toNat (a4.length : Int)) false) (Int.toNat (a4.length : Int)) false, .arr 4 (List.replicate (Int.toNat (a4.length : Int)) false) (Int.toNat (a4.length : Int)) false], .obj [] (.arr 4 (List.replicate (Int.toNat (a4.length : Int)) false) (Int.toNat (a4.length : Int)) false), .frz [1], .f, .obj [] (.w 3 [x13.native]), .obj [] (.w 3 ([x13.native] ++ x13.tagged)), .sum [0, 4, 38, 39, 40] [0, 1, 2, 3, 5, 8, 6, 7] (.exit 2) [] [.box 154 [.sl 56 a1, .sl 110 a2, .sl 174 a3, .sl 90 a4, .sl 178 a5, .sl 113 a6, .sl 88 a7, .sl 105 a8, .os 4 (Int.toNat (a4.length : Int)), .os 5 (Int.toNat (a4.length : Int)), .os 3 l33.length] false, .w 4 a9, .w 4 a10, .w 163 l33, .arr 4 l34 (Int.toNat (a4.length : Int)) false, .arr 4 l35 (Int.toNat (a4.length : Int)) false]] (pc (ob110 h14)<|pc (rfl : (true) = true)<|pc (rr (.o 0))<|pc (rr (.z))<|pc (rh [(b1_k_witness_search_begin_own a1 a2 a3 a4 a5 a6 a7 a8 a9 a10 a11), .w 4 a9, .w 4 a10, .w 163 a11, .n 3, .box 110 (c110 x13) false, .arr 4 (List.replicate (Int.toNat (a4.length : Int)) false) (Int.toNat (a4.length : Int)) false])<|pc (mk_ob 4 false h15)<|pc (rn (Int.toNat (a4.length : Int)))<|pc (rr (.o 0))<|pc (rr (.op 0 1 0 8))<|pc (rfl : (0 : Int) = ((0 : Nat) : Int))<|pc (rfl : (true) = true)<|pc (rr (.o 0))<|pc (rr (.j 1))<|pc (rh [(b0_k_witness_search_begin_own a1 a2 a3 a4 a5 a6 a7 a8 a10 a11), .w 4 a9, .w 4 a10, .w 163 a11, .n 3, .box 110 (c110 x13) false, .arr 4 (List.replicate (Int.toNat (a4.length : Int)) false) (Int.toNat (a4.length : Int)) false, .arr 4 (List.replicate (Int.toNat (a4.length : Int)) false) (Int.toNat (a4.length : Int)) false])<|pc (mk_ob 4 false h15)<|pc (rn (Int.toNat (a4.length : Int)))<|pc (rr (.o 0))<|pc (rr (.op 0 1 0 8))<|pc (rfl : (1 : Int) = ((1 : Nat) : Int))<|pc (rfl : (false) = false)<|pc (bs_ob 3 [x13.native])<|pc (app_ob 3 (n := (List.length [x13.native])) (l := [x13.native]) (xs := x13.tagged) h16)<|pc (rn (List.length ([x13.native] ++ x13.tagged)))<|pc (k_witness_search_begin_own_L1 _ _ h36)<|pn)
  ·cases h
 ·cases h

theorem k_slices_Reverse_Hop_own_L1 {a1 : List Reach_Hop} : LoopOK Tryz.prog UU 1 28 (subC (codeOf Tryz.f175) [1, 0, 0]) (fun s : (List Reach_Hop) × Int × Int => match s with | (l2, v3, v4) => slices_Reverse_Hop_own_L1 a1 l2 v3 v4)
  (fun s : (List Reach_Hop) × Int × Int => (match s with | (l2, v3, v4) => [(0, .os 0 a1.length), (2, .j v3), (3, .j v4)] : Fr DD)) (fun s : (List Reach_Hop) × Int × Int => (match s with | (l2, v3, v4) => [.arr 161 l2 a1.length false] : Heap DD)) (fun r => match r with | l17 => .exit 0) (fun r => match r with | l17 => []) (fun r => match r with | l17 => [.arr 161 l17 a1.length false]) := by
 refine loop_sound3 (fun s q h => ?_) (fun r => ?_)
 ·obtain ⟨l2, v3, v4⟩ := s; replace h : slices_Reverse_Hop_own_L1 a1 l2 v3 v4 = some q := h
  unfold slices_Reverse_Hop_own_L1 at h
  obtain ⟨h5, h⟩|⟨h5, h⟩ := ite_out h
  ·obtain ⟨h6, h⟩|⟨h6, h⟩ := ite_out h
   ·obtain ⟨x7, h8, h⟩ := bo h
    obtain ⟨h9, h⟩|⟨h9, h⟩ := ite_out h
    ·obtain ⟨x10, h11, h⟩ := bo h
     obtain ⟨x12, h13, h⟩ := bo h
     obtain ⟨h14, h⟩|⟨h14, h⟩ := ite_out h
     ·obtain ⟨x15, h16, h⟩ := bo h
      obtain rfl := oi h; exact rl [0, 2, 3] [0] [.t, .sum [13] [] .nor [] [.arr 161 (List.set l2 v3.toNat x7) a1.length false], .row (c161 x7), .row (c161 x10), .row (c161 x12), .obj [] (.arr 161 (List.set l2 v3.toNat x7) a1.length false), .row (c161 x15), .obj [] (.arr 161 (List.set (List.set l2 v3.toNat x7) v4.toNat x10) a1.length false)] (pc h5<|pc (rr (.os 0 a1.length))<|pc (rr (.j v4))<|pc (an a1.length (lin_ob h6))<|pc (an a1.length (obn161 h8))<|pc (an a1.length (lin_ob h9))<|pc (an a1.length (obn161 h11))<|pc (an a1.length (lin_ob h9))<|pc (rh [.arr 161 (List.set l2 v3.toNat x7) a1.length false])<|pc (st_ob (e := 161) (n := a1.length) (l := l2) (i := v3.toNat) x7 [.j x7.kind, .j x7.port, .j x7.domain, .v (.int .u32 x7.addr)] (obn161 h13) rfl)<|pc (an a1.length (lin_ob h14))<|pc (st_ob (e := 161) (n := a1.length) (l := List.set l2 v3.toNat x7) (i := v4.toNat) x10 [.j x10.kind, .j x10.port, .j x10.domain, .v (.int .u32 x10.addr)] (obn161 h16) rfl)<|pn)
     ·cases h
    ·cases h
   ·cases h
  ·obtain rfl := oi h; exact rl [] [0] [.f] (pc h5<|pn)
 ·exact Ex.noConfusion

theorem k_slices_Reverse_Hop_own {a1 : List Reach_Hop} {r : ((List Reach_Hop))} (h : slices_Reverse_Hop_own a1 = some r) :
  CallsOK Tryz.prog UU 175 [.os 0 a1.length] [.w 161 a1] ((fun r => match r with | l20 => .tup []) r) ((fun r => match r with | l20 => [.arr 161 l20 a1.length false]) r) := by
 unfold slices_Reverse_Hop_own at h
 obtain ⟨l17, h18, h⟩ := bo h
 obtain rfl := oi h; exact rf Tryz.func175 (some [0]) [.sum [0, 2, 3] [0] (.exit 0) [] [.arr 161 l17 a1.length false]] (pc (rn a1.length)<|pc (k_slices_Reverse_Hop_own_L1 _ _ h18)<|pn)

theorem k_witness_search_back_L1 {a1 : List Api_Device} {a2 : List Api_Port} {a3 : List Api_Link} {a4 : List Api_Domain} {a5 : List Api_Static} {a6 : List Api_Flood} {a7 : List Api_Vrf} {a8 : List Api_Irb} {a9 : List Bool} {a10 : List Bool} {a11 : List Witness_found} : LoopOK Tryz.prog UU 0 30 (subC (codeOf Tryz.f99) [1, 1, 0, 0, 0]) (fun s : (List Reach_Hop) × Int => match s with | (l13, v14) => witness_search_back_L1 a1 a2 a3 a4 a5 a6 a7 a8 a9 a10 a11 l13 v14)
  (fun s : (List Reach_Hop) × Int => (match s with | (l13, v14) => [(0, .rp [.sl 56 a1, .sl 110 a2, .sl 174 a3, .sl 90 a4, .sl 178 a5, .sl 113 a6, .sl 88 a7, .sl 105 a8, .sl 4 a9, .sl 4 a10, .sl 163 a11] 0), (1, .j v14), (4, .os 0 0), (5, .os 1 l13.length)] : Fr DD)) (fun s : (List Reach_Hop) × Int => (match s with | (l13, v14) => [.n 161, .w 161 l13] : Heap DD)) (fun r => match r with | l23 => .exit 0) (fun r => match r with | l23 => [(4, .os 0 0), (5, .os 1 l23.length)]) (fun r => match r with | l23 => [.n 161, .w 161 l23]) := by
 refine loop_sound3 (fun s q h => ?_) (fun r => ?_)
 ·obtain ⟨l13, v14⟩ := s; replace h : witness_search_back_L1 a1 a2 a3 a4 a5 a6 a7 a8 a9 a10 a11 l13 v14 = some q := h
  unfold witness_search_back_L1 at h
  obtain ⟨h15, h⟩|⟨h15, h⟩ := ite_out h
  ·obtain ⟨x16, h17, h⟩ := bo h
   obtain ⟨h18, h⟩|⟨h18, h⟩ := ite_out h
   ·obtain ⟨x19, h20, h⟩ := bo h
    obtain rfl := oi h; exact rl [0, 1, 4, 5] [0, 1] [.t, .row (c163 x16), .obj [] (.w 161 [x16.hop]), .obj [] (.w 161 (l13 ++ [x16.hop])), .row (c163 x19)] (pc h15<|pc (ob163 h17)<|pc (bs_ob 161 [x16.hop])<|pc (app_ob 161 (n := l13.length) (l := l13) (xs := [x16.hop]) h18)<|pc (rn (List.length [x16.hop]))<|pc (ob163 h20)<|pn)
   ·cases h
  ·obtain rfl := oi h; exact rl [4, 5] [0, 1] [.f] (pc h15<|pn)
 ·exact Ex.noConfusion

theorem k_witness_search_back {a1 : List Api_Device} {a2 : List Api_Port} {a3 : List Api_Link} {a4 : List Api_Domain} {a5 : List Api_Static} {a6 : List Api_Flood} {a7 : List Api_Vrf} {a8 : List Api_Irb} {a9 : List Bool} {a10 : List Bool} {a11 : List Witness_found} {a12 : Int} {r : ((List Reach_Hop) × Nat)} (h : witness_search_back a1 a2 a3 a4 a5 a6 a7 a8 a9 a10 a11 a12 = some r) :
  CallsOK Tryz.prog UU 99 [.rp [.sl 56 a1, .sl 110 a2, .sl 174 a3, .sl 90 a4, .sl 178 a5, .sl 113 a6, .sl 88 a7, .sl 105 a8, .sl 4 a9, .sl 4 a10, .sl 163 a11] 0, .j a12] [] ((fun r => match r with | (l29, n30) => .os 0 n30) r) ((fun r => match r with | (l29, n30) => [.arr 161 l29 n30 false]) r) := by
 unfold witness_search_back at h
 obtain ⟨l23, h24, h⟩ := bo h
 obtain ⟨l28, h27, h⟩ := bo h
 obtain rfl := oi h; exact rf Tryz.func99 (some [1]) [.sum [0, 1, 4, 5] [0, 1] (.exit 0) [(4, .os 0 0), (5, .os 1 l23.length)] [.n 161, .w 161 l23], .callm [1] (.tup []) [.arr 161 l28 l23.length false]] (pc (k_witness_search_back_L1 _ _ h24)<|pc (k_slices_Reverse_Hop_own h27)<|pn)

theorem k_witness_search_extend_own_L1 {a1 : List Api_Device} {a2 : List Api_Port} {a3 : List Api_Link} {a4 : List Api_Domain} {a5 : List Api_Static} {a6 : List Api_Flood} {a7 : List Api_Vrf} {a8 : List Api_Irb} {n10 : Nat} {n12 : Nat} {a14 : Int} {x16 : Witness_found} {l20 : List Reach_Hop} : LoopOK Tryz.prog UU 4 66 (subC (codeOf Tryz.f100) [1, 0, 1, 0, 0]) (fun s : (List Bool) × (List Bool) × (List Witness_found) × Int => match s with | (l21, l22, l23, v24) => witness_search_extend_own_L1 a1 a2 a3 a4 a5 a6 a7 a8 n10 n12 a14 x16 l20 l21 l22 l23 v24)
  (fun s : (List Bool) × (List Bool) × (List Witness_found) × Int => (match s with | (l21, l22, l23, v24) => [(0, .o 0), (1, .j a14), (4, .o 4), (23, .os 5 l20.length), (24, .j (l20.length : Int)), (25, .j v24)] : Fr DD)) (fun s : (List Bool) × (List Bool) × (List Witness_found) × Int => (match s with | (l21, l22, l23, v24) => [.box 154 [.sl 56 a1, .sl 110 a2, .sl 174 a3, .sl 90 a4, .sl 178 a5, .sl 113 a6, .sl 88 a7, .sl 105 a8, .os 1 n10, .os 2 n12, .os 3 l23.length] false, .arr 4 l21 n10 false, .arr 4 l22 n12 false, .w 163 l23, .box 159 (c159 x16.state) false, .w 161 l20] : Heap DD)) (fun r => match r with | (l43, l44, l45) => .exit 0) (fun r => match r with | (l43, l44, l45) => [(0, .o 0), (1, .j a14), (4, .o 4)]) (fun r => match r with | (l43, l44, l45) => [.box 154 [.sl 56 a1, .sl 110 a2, .sl 174 a3, .sl 90 a4, .sl 178 a5, .sl 113 a6, .sl 88 a7, .sl 105 a8, .os 1 n10, .os 2 n12, .os 3 l45.length] false, .arr 4 l43 n10 false, .arr 4 l44 n12 false, .w 163 l45, .box 159 (c159 x16.state) false]) := by
 refine loop_sound3 (fun s q h => ?_) (fun r => ?_)
 ·obtain ⟨l21, l22, l23, v24⟩ := s; replace h : witness_search_extend_own_L1 a1 a2 a3 a4 a5 a6 a7 a8 n10 n12 a14 x16 l20 l21 l22 l23 v24 = some q := h
  unfold witness_search_extend_own_L1 at h
  obtain ⟨h25, h⟩|⟨h25, h⟩ := ite_out h
  ·obtain ⟨h26, h⟩|⟨h26, h⟩ := ite_out h
   ·obtain ⟨x27, h28, h⟩ := bo h
    obtain ⟨r29, h30, h⟩ := bo h
    obtain ⟨l31, l32, l33⟩ := r29
    obtain rfl := oi h; exact rl [0, 1, 4, 23, 24, 25] [0, 1, 2, 3, 4, 5] [.t, .row (c161 x27), .callm [0, 1, 2, 3] (.tup []) [.box 154 [.sl 56 a1, .sl 110 a2, .sl 174 a3, .sl 90 a4, .sl 178 a5, .sl 113 a6, .sl 88 a7, .sl 105 a8, .os 1 n10, .os 2 n12, .os 3 l33.length] false, .arr 4 l31 n10 false, .arr 4 l32 n12 false, .w 163 l33]] (pc h25<|pc (an l20.length (lin_ob h26))<|pc (an l20.length (obn161 h28))<|pc (k_witness_search_meet_own h30)<|pn)
   ·cases h
  ·obtain rfl := oi h; exact rl [0, 1, 4] [0, 1, 2, 3, 4] [.f] (pc h25<|pn)
 ·exact Ex.noConfusion

theorem k_witness_search_extend_own_L2 {a1 : List Api_Device} {a2 : List Api_Port} {a3 : List Api_Link} {a4 : List Api_Domain} {a5 : List Api_Static} {a6 : List Api_Flood} {a7 : List Api_Vrf} {a8 : List Api_Irb} {n10 : Nat} {n12 : Nat} {a14 : Int} {l51 : List Choose_Lead} : LoopOK Tryz.prog UU 4 66 (subC (codeOf Tryz.f100) [1, 1, 1, 0, 1, 0, 0]) (fun s : (List Bool) × (List Bool) × (List Witness_found) × Int => match s with | (l52, l53, l54, v55) => witness_search_extend_own_L2 a1 a2 a3 a4 a5 a6 a7 a8 n10 n12 a14 l51 l52 l53 l54 v55)
  (fun s : (List Bool) × (List Bool) × (List Witness_found) × Int => (match s with | (l52, l53, l54, v55) => [(0, .o 0), (1, .j a14), (48, .os 4 l51.length), (49, .j (l51.length : Int)), (50, .j v55)] : Fr DD)) (fun s : (List Bool) × (List Bool) × (List Witness_found) × Int => (match s with | (l52, l53, l54, v55) => [.box 154 [.sl 56 a1, .sl 110 a2, .sl 174 a3, .sl 90 a4, .sl 178 a5, .sl 113 a6, .sl 88 a7, .sl 105 a8, .os 1 n10, .os 2 n12, .os 3 l54.length] false, .arr 4 l52 n10 false, .arr 4 l53 n12 false, .w 163 l54, .w 242 l51] : Heap DD)) (fun r => match r with | (l65, l66, l67) => .exit 2) (fun r => match r with | (l65, l66, l67) => []) (fun r => match r with | (l65, l66, l67) => [.box 154 [.sl 56 a1, .sl 110 a2, .sl 174 a3, .sl 90 a4, .sl 178 a5, .sl 113 a6, .sl 88 a7, .sl 105 a8, .os 1 n10, .os 2 n12, .os 3 l67.length] false, .arr 4 l65 n10 false, .arr 4 l66 n12 false, .w 163 l67]) := by
 refine loop_sound3 (fun s q h => ?_) (fun r => ?_)
 ·obtain ⟨l52, l53, l54, v55⟩ := s; replace h : witness_search_extend_own_L2 a1 a2 a3 a4 a5 a6 a7 a8 n10 n12 a14 l51 l52 l53 l54 v55 = some q := h
  unfold witness_search_extend_own_L2 at h
  obtain ⟨h56, h⟩|⟨h56, h⟩ := ite_out h
  ·obtain ⟨h57, h⟩|⟨h57, h⟩ := ite_out h
   ·obtain ⟨x58, h59, h⟩ := bo h
    obtain ⟨r60, h61, h⟩ := bo h
    obtain ⟨l62, l63, l64⟩ := r60
    obtain rfl := oi h; exact rl [0, 1, 48, 49, 50] [0, 1, 2, 3, 4] [.t, .row (c242 x58), .callm [0, 1, 2, 3] (.tup []) [.box 154 [.sl 56 a1, .sl 110 a2, .sl 174 a3, .sl 90 a4, .sl 178 a5, .sl 113 a6, .sl 88 a7, .sl 105 a8, .os 1 n10, .os 2 n12, .os 3 l64.length] false, .arr 4 l62 n10 false, .arr 4 l63 n12 false, .w 163 l64]] (pc h56<|pc (an l51.length (lin_ob h57))<|pc (an l51.length (obn242 h59))<|pc (k_witness_search_meet_own h61)<|pn)
   ·cases h
  ·obtain rfl := oi h; exact rl [] [0, 1, 2, 3] [.f] (pc h56<|pn)
 ·exact Ex.noConfusion

theorem k_witness_search_extend_own {a1 : List Api_Device} {a2 : List Api_Port} {a3 : List Api_Link} {a4 : List Api_Domain} {a5 : List Api_Static} {a6 : List Api_Flood} {a7 : List Api_Vrf} {a8 : List Api_Irb} {a9 : List Bool} {n10 : Nat} {a11 : List Bool} {n12 : Nat} {a13 : List Witness_found} {a14 : Int} {r : ((List Bool) × (List Bool) × (List Witness_found))} (h : witness_search_extend_own a1 a2 a3 a4 a5 a6 a7 a8 a9 n10 a11 n12 a13 a14 = some r) :
  CallsOK Tryz.prog UU 100 [.o 0, .j a14] [.box 154 [.sl 56 a1, .sl 110 a2, .sl 174 a3, .sl 90 a4, .sl 178 a5, .sl 113 a6, .sl 88 a7, .sl 105 a8, .os 1 n10, .os 2 n12, .os 3 a13.length] false, .arr 4 a9 n10 false, .arr 4 a11 n12 false, .w 163 a13] ((fun r => match r with | (l70, l71, l72) => .tup []) r) ((fun r => match r with | (l70, l71, l72) => [.box 154 [.sl 56 a1, .sl 110 a2, .sl 174 a3, .sl 90 a4, .sl 178 a5, .sl 113 a6, .sl 88 a7, .sl 105 a8, .os 1 n10, .os 2 n12, .os 3 l72.length] false, .arr 4 l70 n10 false, .arr 4 l71 n12 false, .w 163 l72]) r) := by
 unfold witness_search_extend_own at h
 obtain ⟨h15, h⟩|⟨h15, h⟩ := ite_out h
 ·obtain ⟨x16, h17, h⟩ := bo h
  obtain ⟨l20, h19, h⟩ := bo h
  obtain ⟨r47, h46, h⟩ := bo h
  obtain ⟨l43, l44, l45⟩ := r47
  obtain ⟨h48, h⟩|⟨h48, h⟩ := ite_out h
  ·obtain ⟨l51, h50, h⟩ := bo h
   obtain ⟨r69, h68, h⟩ := bo h
   obtain ⟨l65, l66, l67⟩ := r69
   obtain rfl := oi h; exact rf Tryz.func100 (some [0, 1, 2, 3]) [.row (c163 x16), .sum [6] [] .nor [] [.box 154 [.sl 56 a1, .sl 110 a2, .sl 174 a3, .sl 90 a4, .sl 178 a5, .sl 113 a6, .sl 88 a7, .sl 105 a8, .os 1 n10, .os 2 n12, .os 3 a13.length] false, .arr 4 a9 n10 false, .arr 4 a11 n12 false, .w 163 a13, .box 159 (c159 x16.state) false, .w 161 l20], .callo (.os 0 l20.length) [.w 161 l20], .sum [0, 1, 4, 23, 24, 25] [0, 1, 2, 3, 4, 5] (.exit 0) [(0, .o 0), (1, .j a14), (4, .o 4)] [.box 154 [.sl 56 a1, .sl 110 a2, .sl 174 a3, .sl 90 a4, .sl 178 a5, .sl 113 a6, .sl 88 a7, .sl 105 a8, .os 1 n10, .os 2 n12, .os 3 l45.length] false, .arr 4 l43 n10 false, .arr 4 l44 n12 false, .w 163 l45, .box 159 (c159 x16.state) false], .t, .sum [6] [] .nor [] [.box 154 [.sl 56 a1, .sl 110 a2, .sl 174 a3, .sl 90 a4, .sl 178 a5, .sl 113 a6, .sl 88 a7, .sl 105 a8, .os 1 n10, .os 2 n12, .os 3 l45.length] false, .arr 4 l43 n10 false, .arr 4 l44 n12 false, .w 163 l45, .box 159 (c159 x16.state) false, .w 242 l51], .callo (.os 0 l51.length) [.w 242 l51], .sum [0, 1, 48, 49, 50] [0, 1, 2, 3, 5] (.exit 2) [] [.box 154 [.sl 56 a1, .sl 110 a2, .sl 174 a3, .sl 90 a4, .sl 178 a5, .sl 113 a6, .sl 88 a7, .sl 105 a8, .os 1 n10, .os 2 n12, .os 3 l67.length] false, .arr 4 l65 n10 false, .arr 4 l66 n12 false, .w 163 l67]] (pc (an a13.length (lin_ob h15))<|pc (rn a13.length)<|pc (an a13.length (obn163 h17))<|pc (rh [.box 154 [.sl 56 a1, .sl 110 a2, .sl 174 a3, .sl 90 a4, .sl 178 a5, .sl 113 a6, .sl 88 a7, .sl 105 a8, .os 1 n10, .os 2 n12, .os 3 a13.length] false, .arr 4 a9 n10 false, .arr 4 a11 n12 false, .w 163 a13, .box 159 (c159 x16.state) false, .w 161 l20])<|pc (k_reach_Hops h19)<|pc (im161 l20)<|pc (rn l20.length)<|pc (rr (.z))<|pc (k_witness_search_extend_own_L1 _ _ h46)<|pc h48<|pc (rh [.box 154 [.sl 56 a1, .sl 110 a2, .sl 174 a3, .sl 90 a4, .sl 178 a5, .sl 113 a6, .sl 88 a7, .sl 105 a8, .os 1 n10, .os 2 n12, .os 3 l45.length] false, .arr 4 l43 n10 false, .arr 4 l44 n12 false, .w 163 l45, .box 159 (c159 x16.state) false, .w 242 l51])<|pc (k_choose_Routes h50)<|pc (im242 l51)<|pc (rn l51.length)<|pc (rr (.z))<|pc (k_witness_search_extend_own_L2 _ _ h68)<|pn)
  ·obtain rfl := oi h; exact rf Tryz.func100 (some [0, 1, 2, 3]) [.row (c163 x16), .sum [6] [] .nor [] [.box 154 [.sl 56 a1, .sl 110 a2, .sl 174 a3, .sl 90 a4, .sl 178 a5, .sl 113 a6, .sl 88 a7, .sl 105 a8, .os 1 n10, .os 2 n12, .os 3 a13.length] false, .arr 4 a9 n10 false, .arr 4 a11 n12 false, .w 163 a13, .box 159 (c159 x16.state) false, .w 161 l20], .callo (.os 0 l20.length) [.w 161 l20], .sum [0, 1, 4, 23, 24, 25] [0, 1, 2, 3, 4, 5] (.exit 0) [(0, .o 0), (1, .j a14), (4, .o 4)] [.box 154 [.sl 56 a1, .sl 110 a2, .sl 174 a3, .sl 90 a4, .sl 178 a5, .sl 113 a6, .sl 88 a7, .sl 105 a8, .os 1 n10, .os 2 n12, .os 3 l45.length] false, .arr 4 l43 n10 false, .arr 4 l44 n12 false, .w 163 l45, .box 159 (c159 x16.state) false], .f] (pc (an a13.length (lin_ob h15))<|pc (rn a13.length)<|pc (an a13.length (obn163 h17))<|pc (rh [.box 154 [.sl 56 a1, .sl 110 a2, .sl 174 a3, .sl 90 a4, .sl 178 a5, .sl 113 a6, .sl 88 a7, .sl 105 a8, .os 1 n10, .os 2 n12, .os 3 a13.length] false, .arr 4 a9 n10 false, .arr 4 a11 n12 false, .w 163 a13, .box 159 (c159 x16.state) false, .w 161 l20])<|pc (k_reach_Hops h19)<|pc (im161 l20)<|pc (rn l20.length)<|pc (rr (.z))<|pc (k_witness_search_extend_own_L1 _ _ h46)<|pc h48<|pn)
 ·cases h

theorem k_witness_Way_L1 {a1 : Api_Net} {a3 : Int} : LoopOK Tryz.prog UU 0 64 (subC (codeOf Tryz.f36) [1, 1, 1, 1, 0, 1, 0, 0]) (fun s : (List Bool) × (List Bool) × (List Witness_found) × Int => match s with | (l19, l20, l21, v22) => witness_Way_L1 a1 a3 l19 l20 l21 v22)
  (fun s : (List Bool) × (List Bool) × (List Witness_found) × Int => (match s with | (l19, l20, l21, v22) => [(2, .j a3), (3, .o 0), (6, .os 1 0), (7, .y false), (8, .o 2), (9, .j v22)] : Fr DD)) (fun s : (List Bool) × (List Bool) × (List Witness_found) × Int => (match s with | (l19, l20, l21, v22) => [.box 31 (c31 a1) false, .n 161, .box 154 [.sl 56 a1.devices, .sl 110 a1.ports, .sl 174 a1.links, .sl 90 a1.domains, .sl 178 a1.statics, .sl 113 a1.floods, .sl 88 a1.vrfs, .sl 105 a1.irbs, .os 3 (Int.toNat (a1.domains.length : Int)), .os 4 (Int.toNat (a1.domains.length : Int)), .os 5 l21.length] false, .arr 4 l19 (Int.toNat (a1.domains.length : Int)) false, .arr 4 l20 (Int.toNat (a1.domains.length : Int)) false, .w 163 l21] : Heap DD)) (fun r => match r with | Sum.inl (l46, n47) => .ret | Sum.inr _ => .exit 0) (fun r => match r with | Sum.inl (l46, n47) => [(6, .os 0 n47), (7, .y true)] | Sum.inr _ => [(6, .os 0 0), (7, .y false)]) (fun r => match r with | Sum.inl (l46, n47) => [.arr 161 l46 n47 false] | Sum.inr _ => [.n 161]) := by
 refine loop_sound3 (fun s q h => ?_) (fun r => ?_)
 ·obtain ⟨l19, l20, l21, v22⟩ := s; replace h : witness_Way_L1 a1 a3 l19 l20 l21 v22 = some q := h
  unfold witness_Way_L1 at h
  obtain ⟨h23, h⟩|⟨h23, h⟩ := ite_out h
  ·obtain ⟨h24, h⟩|⟨h24, h⟩ := ite_out h
   ·obtain ⟨x25, h26, h⟩ := bo h
    obtain ⟨l29, h28, h⟩ := bo h
    obtain ⟨r30, h31, h⟩ := bo h
    obtain ⟨h32, h⟩|⟨h32, h⟩ := ite_out h
    ·obtain ⟨r33, h34, h⟩ := bo h
     obtain ⟨l35, n36⟩ := r33
     obtain rfl := oi h; exact rl [6, 7] [7] [.t, .sum [10] [] .nor [] [.box 31 (c31 a1) false, .n 161, .box 154 [.sl 56 a1.devices, .sl 110 a1.ports, .sl 174 a1.links, .sl 90 a1.domains, .sl 178 a1.statics, .sl 113 a1.floods, .sl 88 a1.vrfs, .sl 105 a1.irbs, .os 3 (Int.toNat (a1.domains.length : Int)), .os 4 (Int.toNat (a1.domains.length : Int)), .os 5 l21.length] false, .arr 4 l19 (Int.toNat (a1.domains.length : Int)) false, .arr 4 l20 (Int.toNat (a1.domains.length : Int)) false, .w 163 l21, .w 3 l29], .row (c163 x25), .callo (.os 0 l29.length) [.w 3 l29], .b r30, .t, .callo (.os 0 n36) [.arr 161 l35 n36 false]] (pc (rn l21.length)<|pc h23<|pc (an l21.length (lin_ob h24))<|pd (rn l21.length)<|pc (an l21.length (obn163 h26))<|pc (rh [.box 31 (c31 a1) false, .n 161, .box 154 [.sl 56 a1.devices, .sl 110 a1.ports, .sl 174 a1.links, .sl 90 a1.domains, .sl 178 a1.statics, .sl 113 a1.floods, .sl 88 a1.vrfs, .sl 105 a1.irbs, .os 3 (Int.toNat (a1.domains.length : Int)), .os 4 (Int.toNat (a1.domains.length : Int)), .os 5 l21.length] false, .arr 4 l19 (Int.toNat (a1.domains.length : Int)) false, .arr 4 l20 (Int.toNat (a1.domains.length : Int)) false, .w 163 l21, .w 3 l29])<|pc (k_names_Members h28)<|pc (im3 l29)<|pc (rr (.j a3))<|pc (k_slices_Contains_int h31)<|pc (rn l29.length)<|pc h32<|pc (k_witness_search_back h34)<|pc (im161 l35)<|pd (rn (Int.toNat (a1.domains.length : Int)))<|pc (rn l21.length)<|pn)
    ·obtain ⟨r37, h38, h⟩ := bo h
     obtain ⟨l39, l40, l41⟩ := r37
     obtain rfl := oi h; exact rl [2, 3, 6, 7, 8, 9] [0, 1, 2, 3, 4, 5] [.t, .sum [10] [] .nor [] [.box 31 (c31 a1) false, .n 161, .box 154 [.sl 56 a1.devices, .sl 110 a1.ports, .sl 174 a1.links, .sl 90 a1.domains, .sl 178 a1.statics, .sl 113 a1.floods, .sl 88 a1.vrfs, .sl 105 a1.irbs, .os 3 (Int.toNat (a1.domains.length : Int)), .os 4 (Int.toNat (a1.domains.length : Int)), .os 5 l21.length] false, .arr 4 l19 (Int.toNat (a1.domains.length : Int)) false, .arr 4 l20 (Int.toNat (a1.domains.length : Int)) false, .w 163 l21, .w 3 l29], .row (c163 x25), .callo (.os 0 l29.length) [.w 3 l29], .b r30, .f, .callm [2, 3, 4, 5] (.tup []) [.box 154 [.sl 56 a1.devices, .sl 110 a1.ports, .sl 174 a1.links, .sl 90 a1.domains, .sl 178 a1.statics, .sl 113 a1.floods, .sl 88 a1.vrfs, .sl 105 a1.irbs, .os 1 (Int.toNat (a1.domains.length : Int)), .os 2 (Int.toNat (a1.domains.length : Int)), .os 3 l41.length] false, .arr 4 l39 (Int.toNat (a1.domains.length : Int)) false, .arr 4 l40 (Int.toNat (a1.domains.length : Int)) false, .w 163 l41]] (pc (rn l21.length)<|pc h23<|pc (an l21.length (lin_ob h24))<|pd (rn l21.length)<|pc (an l21.length (obn163 h26))<|pc (rh [.box 31 (c31 a1) false, .n 161, .box 154 [.sl 56 a1.devices, .sl 110 a1.ports, .sl 174 a1.links, .sl 90 a1.domains, .sl 178 a1.statics, .sl 113 a1.floods, .sl 88 a1.vrfs, .sl 105 a1.irbs, .os 3 (Int.toNat (a1.domains.length : Int)), .os 4 (Int.toNat (a1.domains.length : Int)), .os 5 l21.length] false, .arr 4 l19 (Int.toNat (a1.domains.length : Int)) false, .arr 4 l20 (Int.toNat (a1.domains.length : Int)) false, .w 163 l21, .w 3 l29])<|pc (k_names_Members h28)<|pc (im3 l29)<|pc (rr (.j a3))<|pc (k_slices_Contains_int h31)<|pc (rn l29.length)<|pc h32<|pc (k_witness_search_extend_own h38)<|pn)
   ·cases h
  ·obtain rfl := oi h; exact rl [6, 7] [1] [.f] (pc (rn l21.length)<|pc h23<|pn)
 ·rcases r with _ | _ <;> exact Ex.noConfusion

theorem k_witness_Way {a1 : Api_Net} {a2 : Int} {a3 : Int} {r : ((List Reach_Hop) × Nat × Bool)} (h : witness_Way a1 a2 a3 = some r) :
  CallsOK Tryz.prog UU 36 [.agg (c31 a1), .j a2, .j a3] [] ((fun r => match r with | (l50, n51, v52) => .tup [.os 0 n51, .y v52]) r) ((fun r => match r with | (l50, n51, v52) => [.arr 161 l50 n51 false]) r) := by
 unfold witness_Way at h
 obtain ⟨r4, h5, h⟩ := bo h
 obtain ⟨h6, h⟩|⟨h6, h⟩ := ite_out h
 ·obtain rfl := oi h; exact rf Tryz.func36 (some [2]) [.b r4, .t] (pc (k_witness_host h5)<|pc h6<|pn)
 ·obtain ⟨r7, h8, h⟩ := bo h
  obtain ⟨h9, h⟩|⟨h9, h⟩ := ite_out h
  ·obtain rfl := oi h; exact rf Tryz.func36 (some [2]) [.b r4, .f, .b r7, .t] (pc (k_witness_host h5)<|pc h6<|pc (k_witness_host h8)<|pc h9<|pn)
  ·obtain ⟨h10, h⟩|⟨h10, h⟩ := ite_out h
   ·obtain rfl := oi h; exact rf Tryz.func36 (some [2]) [.b r4, .f, .b r7, .f, .t] (pc (k_witness_host h5)<|pc h6<|pc (k_witness_host h8)<|pc h9<|pc h10<|pn)
   ·obtain ⟨r11, h12, h⟩ := bo h
    obtain ⟨h13, h⟩|⟨h13, h⟩ := ite_out h
    ·obtain rfl := oi h; exact rf Tryz.func36 (some [2]) [.b r4, .f, .b r7, .f, .f, .b r11, .t] (pc (k_witness_host h5)<|pc h6<|pc (k_witness_host h8)<|pc h9<|pc h10<|pc (k_names_Right h12)<|pc h13<|pn)
    ·obtain ⟨r14, h15, h⟩ := bo h
     obtain ⟨l16, l17, l18⟩ := r14
     obtain ⟨r49, h48, h⟩ := bo h
     rcases r49 with ⟨l46, n47⟩ | _
     ·obtain rfl := oi h; exact rf Tryz.func36 (some [0]) [.b r4, .f, .b r7, .f, .f, .b r11, .f, .callm [5, 2, 3, 4] (.tup []) [.box 154 [.sl 56 a1.devices, .sl 110 a1.ports, .sl 174 a1.links, .sl 90 a1.domains, .sl 178 a1.statics, .sl 113 a1.floods, .sl 88 a1.vrfs, .sl 105 a1.irbs, .os 4 (Int.toNat (a1.domains.length : Int)), .os 5 (Int.toNat (a1.domains.length : Int)), .os 3 l16.length] false, .n 4, .n 4, .w 163 l16, .arr 4 l17 (Int.toNat (a1.domains.length : Int)) false, .arr 4 l18 (Int.toNat (a1.domains.length : Int)) false], .sum [2, 3, 6, 7, 8, 9] [0, 1, 5, 6, 7, 4] .ret [(6, .os 0 n47), (7, .y true)] [.arr 161 l46 n47 false]] (pc (k_witness_host h5)<|pc h6<|pc (k_witness_host h8)<|pc h9<|pc h10<|pc (k_names_Right h12)<|pc h13<|pc (k_witness_search_begin_own h15)<|pc (k_witness_Way_L1 _ _ h48)<|pn)
     ·obtain rfl := oi h; exact rf Tryz.func36 (some [1]) [.b r4, .f, .b r7, .f, .f, .b r11, .f, .callm [5, 2, 3, 4] (.tup []) [.box 154 [.sl 56 a1.devices, .sl 110 a1.ports, .sl 174 a1.links, .sl 90 a1.domains, .sl 178 a1.statics, .sl 113 a1.floods, .sl 88 a1.vrfs, .sl 105 a1.irbs, .os 4 (Int.toNat (a1.domains.length : Int)), .os 5 (Int.toNat (a1.domains.length : Int)), .os 3 l16.length] false, .n 4, .n 4, .w 163 l16, .arr 4 l17 (Int.toNat (a1.domains.length : Int)) false, .arr 4 l18 (Int.toNat (a1.domains.length : Int)) false], .sum [2, 3, 6, 7, 8, 9] [0, 1, 5, 6, 7, 4] (.exit 0) [(6, .os 0 0), (7, .y false)] [.n 161]] (pc (k_witness_host h5)<|pc h6<|pc (k_witness_host h8)<|pc h9<|pc h10<|pc (k_names_Right h12)<|pc h13<|pc (k_witness_search_begin_own h15)<|pc (k_witness_Way_L1 _ _ h48)<|pn)

theorem k_verdict_Leaks_L2 {a1 : Api_Net} {a2 : List Int} {v6 : Int} {x8 : Int} : LoopOK Tryz.prog UU 0 54 (subC (codeOf Tryz.f34) [1, 1, 0, 1, 0, 0, 1, 1, 0, 0, 1, 1, 0, 0]) (ρ := Int ⊕ Unit) (verdict_Leaks_L2 a1 a2 v6 x8)
  (fun v10 : Int => ([(1, .sl 3 a2), (2, .o 0), (4, .z), (5, .z), (6, .y false), (7, .j v6), (8, .j x8), (17, .sl 3 a2), (18, .j (a2.length : Int)), (19, .j v6), (24, .sl 3 a2), (25, .j (a2.length : Int)), (26, .j v10)] : Fr DD)) (fun v10 : Int => ([.box 31 (c31 a1) false] : Heap DD)) (fun r => match r with | Sum.inl v24 => .ret | Sum.inr _ => .exit 2) (fun r => match r with | Sum.inl v24 => [(4, .j v6), (5, .j v24), (6, .y true)] | Sum.inr _ => [(1, .sl 3 a2), (2, .o 0), (4, .z), (5, .z), (6, .y false), (17, .sl 3 a2), (18, .j (a2.length : Int)), (19, .j v6)]) (fun r => match r with | Sum.inl v24 => [] | Sum.inr _ => [.box 31 (c31 a1) false]) := by
 refine loop_sound3 (fun s q h => ?_) (fun r => ?_)
 ·replace h : verdict_Leaks_L2 a1 a2 v6 x8 s = some q := h; revert h; revert s; intro v10 h
  unfold verdict_Leaks_L2 at h
  obtain ⟨h11, h⟩|⟨h11, h⟩ := ite_out h
  ·obtain ⟨x12, h13, h⟩ := bo h
   obtain ⟨h14, h⟩|⟨h14, h⟩ := ite_out h
   ·obtain rfl := oi h; exact rl [1, 2, 4, 5, 6, 7, 8, 17, 18, 19, 24, 25, 26] [0] [.t, .row (c3 x12), .t] (pc h11<|pc (ob3 h13)<|pc h14<|pn)
   ·obtain ⟨h15, h⟩|⟨h15, h⟩ := ite_out h
    ·obtain rfl := oi h; exact rl [1, 2, 4, 5, 6, 7, 8, 17, 18, 19, 24, 25, 26] [0] [.t, .row (c3 x12), .f, .t] (pc h11<|pc (ob3 h13)<|pc h14<|pc h15<|pn)
    ·obtain ⟨h16, h⟩|⟨h16, h⟩ := ite_out h
     ·obtain rfl := oi h; exact rl [1, 2, 4, 5, 6, 7, 8, 17, 18, 19, 24, 25, 26] [0] [.t, .row (c3 x12), .f, .f, .t] (pc h11<|pc (ob3 h13)<|pc h14<|pc h15<|pc h16<|pn)
     ·obtain ⟨r17, h18, h⟩ := bo h
      obtain ⟨l19, n20, v21⟩ := r17
      obtain ⟨h22, h⟩|⟨h22, h⟩ := ite_out h
      ·obtain rfl := oi h; exact rl [4, 5, 6] [] [.t, .row (c3 x12), .f, .f, .f, .callo (.tup [.os 0 n20, .y v21]) [.arr 161 l19 n20 false], .t] (pc h11<|pc (ob3 h13)<|pc h14<|pc h15<|pc h16<|pc (k_witness_Way h18)<|pc (im161 l19)<|pc h22<|pn)
      ·obtain rfl := oi h; exact rl [1, 2, 4, 5, 6, 7, 8, 17, 18, 19, 24, 25, 26] [0] [.t, .row (c3 x12), .f, .f, .f, .callo (.tup [.os 0 n20, .y v21]) [.arr 161 l19 n20 false], .f] (pc h11<|pc (ob3 h13)<|pc h14<|pc h15<|pc h16<|pc (k_witness_Way h18)<|pc (im161 l19)<|pc h22<|pn)
  ·obtain rfl := oi h; exact rl [1, 2, 4, 5, 6, 17, 18, 19] [0] [.f] (pc h11<|pn)
 ·rcases r with _ | _ <;> exact Ex.noConfusion

theorem k_verdict_Leaks_L1 {a1 : Api_Net} {a2 : List Int} : LoopOK Tryz.prog UU 0 54 (subC (codeOf Tryz.f34) [1, 1, 0, 1, 0, 0]) (ρ := (Int × Int) ⊕ Unit) (verdict_Leaks_L1 a1 a2)
  (fun v6 : Int => ([(1, .sl 3 a2), (2, .o 0), (4, .z), (5, .z), (6, .y false), (17, .sl 3 a2), (18, .j (a2.length : Int)), (19, .j v6)] : Fr DD)) (fun v6 : Int => ([.box 31 (c31 a1) false] : Heap DD)) (fun r => match r with | Sum.inl (v29, v30) => .ret | Sum.inr _ => .exit 0) (fun r => match r with | Sum.inl (v29, v30) => [(4, .j v29), (5, .j v30), (6, .y true)] | Sum.inr _ => [(4, .z), (5, .z), (6, .y false)]) (fun r => match r with | Sum.inl (v29, v30) => [] | Sum.inr _ => []) := by
 refine loop_sound3 (fun s q h => ?_) (fun r => ?_)
 ·replace h : verdict_Leaks_L1 a1 a2 s = some q := h; revert h; revert s; intro v6 h
  unfold verdict_Leaks_L1 at h
  obtain ⟨h7, h⟩|⟨h7, h⟩ := ite_out h
  ·obtain ⟨x8, h9, h⟩ := bo h
   obtain ⟨r26, h25, h⟩ := bo h
   rcases r26 with v24 | _
   ·obtain rfl := oi h; exact rl [4, 5, 6] [] [.t, .row (c3 x8), .sum [1, 2, 4, 5, 6, 7, 8, 17, 18, 19, 24, 25, 26] [0] .ret [(4, .j v6), (5, .j v24), (6, .y true)] []] (pc h7<|pc (ob3 h9)<|pc (k_verdict_Leaks_L2 _ _ h25)<|pn)
   ·obtain rfl := oi h; exact rl [1, 2, 4, 5, 6, 17, 18, 19] [0] [.t, .row (c3 x8), .sum [1, 2, 4, 5, 6, 7, 8, 17, 18, 19, 24, 25, 26] [0] (.exit 2) [(1, .sl 3 a2), (2, .o 0), (4, .z), (5, .z), (6, .y false), (17, .sl 3 a2), (18, .j (a2.length : Int)), (19, .j v6)] [.box 31 (c31 a1) false]] (pc h7<|pc (ob3 h9)<|pc (k_verdict_Leaks_L2 _ _ h25)<|pn)
  ·obtain rfl := oi h; exact rl [4, 5, 6] [] [.f] (pc h7<|pn)
 ·rcases r with _ | _ <;> exact Ex.noConfusion

theorem k_verdict_Leaks {a1 : Api_Net} {a2 : List Int} {r : Int × Int × Bool} (h : verdict_Leaks a1 a2 = some r) :
  CallsOK Tryz.prog UU 34 [.agg (c31 a1), .sl 3 a2] [] (.tup [.j r.1, .j r.2.1, .y r.2.2]) [] := by
 unfold verdict_Leaks at h
 obtain ⟨r3, h4, h⟩ := bo h
 obtain ⟨h5, h⟩|⟨h5, h⟩ := ite_out h
 ·obtain rfl := oi h; exact rf Tryz.func34 none [.b r3, .t] (pc (k_owners_Right h4)<|pc h5<|pn)
 ·obtain ⟨r32, h31, h⟩ := bo h
  rcases r32 with ⟨v29, v30⟩ | _
  ·obtain rfl := oi h; exact rf Tryz.func34 none [.b r3, .f, .sum [1, 2, 4, 5, 6, 17, 18, 19] [0] .ret [(4, .j v29), (5, .j v30), (6, .y true)] []] (pc (k_owners_Right h4)<|pc h5<|pc (k_verdict_Leaks_L1 _ _ h31)<|pn)
  ·obtain rfl := oi h; exact rf Tryz.func34 none [.b r3, .f, .sum [1, 2, 4, 5, 6, 17, 18, 19] [0] (.exit 0) [(4, .z), (5, .z), (6, .y false)] []] (pc (k_owners_Right h4)<|pc h5<|pc (k_verdict_Leaks_L1 _ _ h31)<|pn)

theorem k_owners_Of_L1 {a1 : List Int} {a2 : Int} : LoopOK Tryz.prog UU 0 24 (subC (codeOf Tryz.f35) [1, 1, 0, 1, 0, 0]) (fun s : (List Int) × Int => match s with | (l3, v4) => owners_Of_L1 a1 a2 l3 v4)
  (fun s : (List Int) × Int => (match s with | (l3, v4) => [(1, .j a2), (4, .os 0 0), (5, .os 1 l3.length), (8, .sl 3 a1), (9, .j (a1.length : Int)), (10, .j v4)] : Fr DD)) (fun s : (List Int) × Int => (match s with | (l3, v4) => [.n 3, .w 3 l3] : Heap DD)) (fun r => match r with | l12 => .exit 0) (fun r => match r with | l12 => [(4, .os 0 0), (5, .os 1 l12.length)]) (fun r => match r with | l12 => [.n 3, .w 3 l12]) := by
 refine loop_sound3 (fun s q h => ?_) (fun r => ?_)
 ·obtain ⟨l3, v4⟩ := s; replace h : owners_Of_L1 a1 a2 l3 v4 = some q := h
  unfold owners_Of_L1 at h
  obtain ⟨h5, h⟩|⟨h5, h⟩ := ite_out h
  ·obtain ⟨x6, h7, h⟩ := bo h
   obtain ⟨h8, h⟩|⟨h8, h⟩ := ite_out h
   ·obtain ⟨h9, h⟩|⟨h9, h⟩ := ite_out h
    ·obtain rfl := oi h; exact rl [1, 4, 5, 8, 9, 10] [0, 1] [.t, .row (c3 x6), .t, .obj [] (.w 3 [v4]), .obj [] (.w 3 (l3 ++ [v4]))] (pc h5<|pc (ob3 h7)<|pc h8<|pc (bs_ob 3 [v4])<|pc (app_ob 3 (n := l3.length) (l := l3) (xs := [v4]) h9)<|pc (rn (List.length [v4]))<|pn)
    ·cases h
   ·obtain rfl := oi h; exact rl [1, 4, 5, 8, 9, 10] [0, 1] [.t, .row (c3 x6), .f] (pc h5<|pc (ob3 h7)<|pc h8<|pn)
  ·obtain rfl := oi h; exact rl [4, 5] [0, 1] [.f] (pc h5<|pn)
 ·exact Ex.noConfusion

theorem k_owners_Of {a1 : List Int} {a2 : Int} {r : ((List Int))} (h : owners_Of a1 a2 = some r) :
  CallsOK Tryz.prog UU 35 [.sl 3 a1, .j a2] [] ((fun r => match r with | l15 => .os 0 l15.length) r) ((fun r => match r with | l15 => [.w 3 l15]) r) := by
 unfold owners_Of at h
 obtain ⟨l12, h13, h⟩ := bo h
 obtain rfl := oi h; exact rf Tryz.func35 (some [1]) [.sum [1, 4, 5, 8, 9, 10] [0, 1] (.exit 0) [(4, .os 0 0), (5, .os 1 l12.length)] [.n 3, .w 3 l12]] (pc (k_owners_Of_L1 _ _ h13)<|pn)

end Go.Eng
