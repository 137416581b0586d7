/- Part of the proof of MatrixApart: printed mirrors of the functions, or their contracts. No conditions. -/
import Derived.Test.YtcclngfmkodgjaaGreatMAK4
set_option linter.unusedVariables false
set_option maxRecDepth 100000
namespace Go.Eng
open Go Go.Proofs
theorem k_palinglaw43_MatrixApart_L2 {a1 : Api_Net} {a2 : List Int} {l12 : List (List Matrix_Cell)} {n13 : Nat} {v22 : Int} {x25 : List Matrix_Cell} : LoopOK Tryz.prog UU 0 157 (subC (codeOf Tryz.f7) [1, 1, 1, 1, 1, 1, 1, 0, 1, 0, 0, 1, 1, 0, 0, 1, 1, 1, 0, 0]) (ρ := Unit ⊕ Unit) (palinglaw43_MatrixApart_L2 a1 a2 l12 n13 v22 x25)
  (fun v34 : Int => ([(1, .sl 3 a2), (2, .o 0), (4, .y false), (10, .j v22), (52, .os 1 n13), (53, .j (n13 : Int)), (54, .j v22), (74, .sl 79 x25), (75, .j (x25.length : Int)), (76, .j v34)] : Fr DD)) (fun v34 : Int => ([.box 31 (c31 a1) false, .arr 70 l12 n13 false] : Heap DD)) (fun r => match r with | Sum.inl _ => .ret | Sum.inr _ => .exit 2) (fun r => match r with | Sum.inl _ => [(4, .y false)] | Sum.inr _ => [(1, .sl 3 a2), (2, .o 0), (4, .y false), (52, .os 1 n13), (53, .j (n13 : Int)), (54, .j v22)]) (fun r => match r with | Sum.inl _ => [] | Sum.inr _ => [.box 31 (c31 a1) false, .arr 70 l12 n13 false]) := by
 refine loop_sound3 (fun s q h => ?_) (fun r => ?_)
 ·replace h : palinglaw43_MatrixApart_L2 a1 a2 l12 n13 v22 x25 s = some q := h; revert h; revert s; intro v34 h
  unfold palinglaw43_MatrixApart_L2 at h
  obtain ⟨h35, h⟩|⟨h35, h⟩ := ite_out h
  ·obtain ⟨x36, h37, h⟩ := bo h
   obtain ⟨h38, h⟩|⟨h38, h⟩ := ite_out h
   ·obtain ⟨h39, h⟩|⟨h39, h⟩ := ite_out h
    ·obtain rfl := oi h; exact rl [4] [] [.t, .row (c79 x36), .t, .t] (pc h35<|pc (ob79 h37)<|pc h38<|pc h39<|pn)
    ·obtain ⟨h40, h⟩|⟨h40, h⟩ := ite_out h
     ·obtain rfl := oi h; exact rl [4] [] [.t, .row (c79 x36), .t, .f, .t] (pc h35<|pc (ob79 h37)<|pc h38<|pc h39<|pc h40<|pn)
     ·obtain rfl := oi h; exact rl [1, 2, 4, 10, 52, 53, 54, 74, 75, 76] [0, 1] [.t, .row (c79 x36), .t, .f, .f] (pc h35<|pc (ob79 h37)<|pc h38<|pc h39<|pc h40<|pn)
   ·obtain ⟨h41, h⟩|⟨h41, h⟩ := ite_out h
    ·obtain rfl := oi h; exact rl [4] [] [.t, .row (c79 x36), .f, .t] (pc h35<|pc (ob79 h37)<|pc h38<|pc h41<|pn)
    ·obtain ⟨h42, h⟩|⟨h42, h⟩ := ite_out h
     ·obtain rfl := oi h; exact rl [4] [] [.t, .row (c79 x36), .f, .f, .t] (pc h35<|pc (ob79 h37)<|pc h38<|pc h41<|pc h42<|pn)
     ·obtain ⟨h43, h⟩|⟨h43, h⟩ := ite_out h
      ·obtain rfl := oi h; exact rl [4] [] [.t, .row (c79 x36), .f, .f, .f, .t] (pc h35<|pc (ob79 h37)<|pc h38<|pc h41<|pc h42<|pc h43<|pn)
      ·obtain ⟨h44, h⟩|⟨h44, h⟩ := ite_out h
       ·obtain rfl := oi h; exact rl [4] [] [.t, .row (c79 x36), .f, .f, .f, .f, .t] (pc h35<|pc (ob79 h37)<|pc h38<|pc h41<|pc h42<|pc h43<|pc h44<|pn)
       ·obtain ⟨x45, h46, h⟩ := bo h
        obtain ⟨h47, h⟩|⟨h47, h⟩ := ite_out h
        ·obtain rfl := oi h; exact rl [4] [] [.t, .row (c79 x36), .f, .f, .f, .f, .f, .row (c3 x45), .t] (pc h35<|pc (ob79 h37)<|pc h38<|pc h41<|pc h42<|pc h43<|pc h44<|pc (ob3 h46)<|pc h47<|pn)
        ·obtain ⟨x48, h49, h⟩ := bo h
         obtain ⟨h50, h⟩|⟨h50, h⟩ := ite_out h
         ·obtain rfl := oi h; exact rl [4] [] [.t, .row (c79 x36), .f, .f, .f, .f, .f, .row (c3 x45), .f, .row (c3 x48), .t] (pc h35<|pc (ob79 h37)<|pc h38<|pc h41<|pc h42<|pc h43<|pc h44<|pc (ob3 h46)<|pc h47<|pc (ob3 h49)<|pc h50<|pn)
         ·obtain ⟨r51, h52, h⟩ := bo h
          obtain ⟨l53, n54, v55⟩ := r51
          obtain ⟨h56, h⟩|⟨h56, h⟩ := ite_out h
          ·obtain ⟨l59, h58, h⟩ := bo h
           obtain ⟨h60, h⟩|⟨h60, h⟩ := ite_out h
           ·obtain ⟨h61, h⟩|⟨h61, h⟩ := ite_out h
            ·obtain rfl := oi h; exact rl [4] [] [.t, .row (c79 x36), .f, .f, .f, .f, .f, .row (c3 x45), .f, .row (c3 x48), .f, .callo (.tup [.os 0 n54, .y v55]) [.arr 161 l53 n54 false], .t, .callo (.os 0 l59.length) [.w 3 l59], .t, .t] (pc h35<|pc (ob79 h37)<|pc h38<|pc h41<|pc h42<|pc h43<|pc h44<|pc (ob3 h46)<|pc h47<|pc (ob3 h49)<|pc h50<|pc (k_witness_Way h52)<|pc (im161 l53)<|pc h56<|pc (k_owners_Of h58)<|pc (im3 l59)<|pc (rn l59.length)<|pc h60<|pc h61<|pn)
            ·obtain rfl := oi h; exact rl [1, 2, 4, 10, 52, 53, 54, 74, 75, 76] [0, 1] [.t, .row (c79 x36), .f, .f, .f, .f, .f, .row (c3 x45), .f, .row (c3 x48), .f, .callo (.tup [.os 0 n54, .y v55]) [.arr 161 l53 n54 false], .t, .callo (.os 0 l59.length) [.w 3 l59], .t, .f] (pc h35<|pc (ob79 h37)<|pc h38<|pc h41<|pc h42<|pc h43<|pc h44<|pc (ob3 h46)<|pc h47<|pc (ob3 h49)<|pc h50<|pc (k_witness_Way h52)<|pc (im161 l53)<|pc h56<|pc (k_owners_Of h58)<|pc (im3 l59)<|pc (rn l59.length)<|pc h60<|pc h61<|pn)
           ·obtain rfl := oi h; exact rl [1, 2, 4, 10, 52, 53, 54, 74, 75, 76] [0, 1] [.t, .row (c79 x36), .f, .f, .f, .f, .f, .row (c3 x45), .f, .row (c3 x48), .f, .callo (.tup [.os 0 n54, .y v55]) [.arr 161 l53 n54 false], .t, .callo (.os 0 l59.length) [.w 3 l59], .f] (pc h35<|pc (ob79 h37)<|pc h38<|pc h41<|pc h42<|pc h43<|pc h44<|pc (ob3 h46)<|pc h47<|pc (ob3 h49)<|pc h50<|pc (k_witness_Way h52)<|pc (im161 l53)<|pc h56<|pc (k_owners_Of h58)<|pc (im3 l59)<|pc (rn l59.length)<|pc h60<|pn)
          ·obtain rfl := oi h; exact rl [1, 2, 4, 10, 52, 53, 54, 74, 75, 76] [0, 1] [.t, .row (c79 x36), .f, .f, .f, .f, .f, .row (c3 x45), .f, .row (c3 x48), .f, .callo (.tup [.os 0 n54, .y v55]) [.arr 161 l53 n54 false], .f] (pc h35<|pc (ob79 h37)<|pc h38<|pc h41<|pc h42<|pc h43<|pc h44<|pc (ob3 h46)<|pc h47<|pc (ob3 h49)<|pc h50<|pc (k_witness_Way h52)<|pc (im161 l53)<|pc h56<|pn)
  ·obtain rfl := oi h; exact rl [1, 2, 4, 52, 53, 54] [0, 1] [.f] (pc h35<|pn)
 ·rcases r with _ | _ <;> exact Ex.noConfusion

theorem k_palinglaw43_MatrixApart_L1 {a1 : Api_Net} {a2 : List Int} {l12 : List (List Matrix_Cell)} {n13 : Nat} : LoopOK Tryz.prog UU 0 157 (subC (codeOf Tryz.f7) [1, 1, 1, 1, 1, 1, 1, 0, 1, 0, 0]) (ρ := Unit ⊕ Unit) (palinglaw43_MatrixApart_L1 a1 a2 l12 n13)
  (fun v22 : Int => ([(1, .sl 3 a2), (2, .o 0), (4, .y false), (52, .os 1 n13), (53, .j (n13 : Int)), (54, .j v22)] : Fr DD)) (fun v22 : Int => ([.box 31 (c31 a1) false, .arr 70 l12 n13 false] : Heap DD)) (fun r => match r with | Sum.inl _ => .ret | Sum.inr _ => .exit 0) (fun r => match r with | Sum.inl _ => [(4, .y false)] | Sum.inr _ => [(4, .y false)]) (fun r => match r with | Sum.inl _ => [] | Sum.inr _ => []) := by
 refine loop_sound3 (fun s q h => ?_) (fun r => ?_)
 ·replace h : palinglaw43_MatrixApart_L1 a1 a2 l12 n13 s = some q := h; revert h; revert s; intro v22 h
  unfold palinglaw43_MatrixApart_L1 at h
  obtain ⟨h23, h⟩|⟨h23, h⟩ := ite_out h
  ·obtain ⟨h24, h⟩|⟨h24, h⟩ := ite_out h
   ·obtain ⟨x25, h26, h⟩ := bo h
    obtain ⟨h27, h⟩|⟨h27, h⟩ := ite_out h
    ·obtain rfl := oi h; exact rl [4] [] [.t, .row (c70 x25), .t] (pc h23<|pc (an n13 (lin_ob h24))<|pc (an n13 (obn70 h26))<|pc h27<|pn)
    ·obtain ⟨x28, h29, h⟩ := bo h
     obtain ⟨l32, h31, h⟩ := bo h
     obtain ⟨h33, h⟩|⟨h33, h⟩ := ite_out h
     ·obtain rfl := oi h; exact rl [4] [] [.t, .row (c70 x25), .sum [11] [] .nor [] [.box 31 (c31 a1) false, .arr 70 l12 n13 false, .w 3 l32], .f, .row (c79 x28), .callo (.os 0 l32.length) [.w 3 l32], .t] (pc h23<|pc (an n13 (lin_ob h24))<|pc (an n13 (obn70 h26))<|pc h27<|pc (rr (.sl 79 x25))<|pc (rr (.j v22))<|pd (ob79 h29)<|pd (rr (.rp (c79 x28) 0))<|pc (rr (.j x28.ports))<|pc (rh [.box 31 (c31 a1) false, .arr 70 l12 n13 false, .w 3 l32])<|pc (k_owners_Of h31)<|pc (im3 l32)<|pc (rn l32.length)<|pc h33<|pn)
     ·obtain ⟨r63, h62, h⟩ := bo h
      rcases r63 with _ | _
      ·obtain rfl := oi h; exact rl [4] [] [.t, .row (c70 x25), .sum [11] [] .nor [] [.box 31 (c31 a1) false, .arr 70 l12 n13 false, .w 3 l32], .f, .row (c79 x28), .callo (.os 0 l32.length) [.w 3 l32], .f, .sum [1, 2, 4, 10, 52, 53, 54, 74, 75, 76] [0, 1] .ret [(4, .y false)] []] (pc h23<|pc (an n13 (lin_ob h24))<|pc (an n13 (obn70 h26))<|pc h27<|pc (rr (.sl 79 x25))<|pc (rr (.j v22))<|pd (ob79 h29)<|pd (rr (.rp (c79 x28) 0))<|pc (rr (.j x28.ports))<|pc (rh [.box 31 (c31 a1) false, .arr 70 l12 n13 false, .w 3 l32])<|pc (k_owners_Of h31)<|pc (im3 l32)<|pc (rn l32.length)<|pc h33<|pc (k_palinglaw43_MatrixApart_L2 _ _ h62)<|pn)
      ·obtain rfl := oi h; exact rl [1, 2, 4, 52, 53, 54] [0, 1] [.t, .row (c70 x25), .sum [11] [] .nor [] [.box 31 (c31 a1) false, .arr 70 l12 n13 false, .w 3 l32], .f, .row (c79 x28), .callo (.os 0 l32.length) [.w 3 l32], .f, .sum [1, 2, 4, 10, 52, 53, 54, 74, 75, 76] [0, 1] (.exit 2) [(1, .sl 3 a2), (2, .o 0), (4, .y false), (52, .os 1 n13), (53, .j (n13 : Int)), (54, .j v22)] [.box 31 (c31 a1) false, .arr 70 l12 n13 false]] (pc h23<|pc (an n13 (lin_ob h24))<|pc (an n13 (obn70 h26))<|pc h27<|pc (rr (.sl 79 x25))<|pc (rr (.j v22))<|pd (ob79 h29)<|pd (rr (.rp (c79 x28) 0))<|pc (rr (.j x28.ports))<|pc (rh [.box 31 (c31 a1) false, .arr 70 l12 n13 false, .w 3 l32])<|pc (k_owners_Of h31)<|pc (im3 l32)<|pc (rn l32.length)<|pc h33<|pc (k_palinglaw43_MatrixApart_L2 _ _ h62)<|pn)
   ·cases h
  ·obtain rfl := oi h; exact rl [4] [] [.f] (pc h23<|pn)
 ·rcases r with _ | _ <;> exact Ex.noConfusion

theorem k_palinglaw43_MatrixApart {a1 : Api_Net} {a2 : List Int} {r : Bool} (h : palinglaw43_MatrixApart a1 a2 = some r) :
  CallsOK Tryz.prog UU 7 [.agg (c31 a1), .sl 3 a2] [] (.y r) [] := by
 unfold palinglaw43_MatrixApart at h
 obtain ⟨r3, h4, h⟩ := bo h
 obtain ⟨h5, h⟩|⟨h5, h⟩ := ite_out h
 ·obtain rfl := oi h; exact rf Tryz.func7 none [.b r3, .t] (pc (k_palinglaw43_works h4)<|pc h5<|pn)
 ·obtain ⟨r6, h7, h⟩ := bo h
  obtain ⟨h8, h⟩|⟨h8, h⟩ := ite_out h
  ·obtain rfl := oi h; exact rf Tryz.func7 none [.b r3, .f, .b r6, .t] (pc (k_palinglaw43_works h4)<|pc h5<|pc (k_palinglaw15_Great h7)<|pc h8<|pn)
  ·obtain ⟨h9, h⟩|⟨h9, h⟩ := ite_out h
   ·obtain rfl := oi h; exact rf Tryz.func7 none [.b r3, .f, .b r6, .f, .t] (pc (k_palinglaw43_works h4)<|pc h5<|pc (k_palinglaw15_Great h7)<|pc h8<|pc h9<|pn)
   ·obtain ⟨r10, h11, h⟩ := bo h
    obtain ⟨l12, n13, v14⟩ := r10
    obtain ⟨r15, h16, h⟩ := bo h
    obtain ⟨h17, h⟩|⟨h17, h⟩ := ite_out h
    ·obtain rfl := oi h; exact rf Tryz.func7 none [.b r3, .f, .b r6, .f, .f, .callm [] (.tup [.os 0 n13, .y v14]) [.arr 70 l12 n13 false], .callv (.tup [.j r15.1, .j r15.2.1, .y r15.2.2]), .t] (pc (k_palinglaw43_works h4)<|pc h5<|pc (k_palinglaw15_Great h7)<|pc h8<|pc h9<|pc (k_matrix_Of h11)<|pc (k_verdict_Leaks h16)<|pc h17<|pc (rn n13)<|pn)
    ·obtain ⟨h18, h⟩|⟨h18, h⟩ := ite_out h
     ·obtain rfl := oi h; exact rf Tryz.func7 none [.b r3, .f, .b r6, .f, .f, .callm [] (.tup [.os 0 n13, .y v14]) [.arr 70 l12 n13 false], .callv (.tup [.j r15.1, .j r15.2.1, .y r15.2.2]), .f, .t] (pc (k_palinglaw43_works h4)<|pc h5<|pc (k_palinglaw15_Great h7)<|pc h8<|pc h9<|pc (k_matrix_Of h11)<|pc (k_verdict_Leaks h16)<|pc h17<|pc (rn n13)<|pc h18<|pn)
     ·obtain ⟨r19, h20, h⟩ := bo h
      obtain ⟨h21, h⟩|⟨h21, h⟩ := ite_out h
      ·obtain rfl := oi h; exact rf Tryz.func7 none [.b r3, .f, .b r6, .f, .f, .callm [] (.tup [.os 0 n13, .y v14]) [.arr 70 l12 n13 false], .callv (.tup [.j r15.1, .j r15.2.1, .y r15.2.2]), .f, .f, .b r19, .t] (pc (k_palinglaw43_works h4)<|pc h5<|pc (k_palinglaw15_Great h7)<|pc h8<|pc h9<|pc (k_matrix_Of h11)<|pc (k_verdict_Leaks h16)<|pc h17<|pc (rn n13)<|pc h18<|pc (k_matrix_Apart h20)<|pc (rn n13)<|pc h21<|pn)
      ·obtain ⟨r65, h64, h⟩ := bo h
       rcases r65 with _ | _
       ·obtain rfl := oi h; exact rf Tryz.func7 none [.b r3, .f, .b r6, .f, .f, .callm [] (.tup [.os 0 n13, .y v14]) [.arr 70 l12 n13 false], .callv (.tup [.j r15.1, .j r15.2.1, .y r15.2.2]), .f, .f, .b r19, .f, .sum [1, 2, 4, 52, 53, 54] [0, 1] .ret [(4, .y false)] []] (pc (k_palinglaw43_works h4)<|pc h5<|pc (k_palinglaw15_Great h7)<|pc h8<|pc h9<|pc (k_matrix_Of h11)<|pc (k_verdict_Leaks h16)<|pc h17<|pc (rn n13)<|pc h18<|pc (k_matrix_Apart h20)<|pc (rn n13)<|pc h21<|pc (rn n13)<|pc (k_palinglaw43_MatrixApart_L1 _ _ h64)<|pn)
       ·obtain rfl := oi h; exact rf Tryz.func7 none [.b r3, .f, .b r6, .f, .f, .callm [] (.tup [.os 0 n13, .y v14]) [.arr 70 l12 n13 false], .callv (.tup [.j r15.1, .j r15.2.1, .y r15.2.2]), .f, .f, .b r19, .f, .sum [1, 2, 4, 52, 53, 54] [0, 1] (.exit 0) [(4, .y false)] []] (pc (k_palinglaw43_works h4)<|pc h5<|pc (k_palinglaw15_Great h7)<|pc h8<|pc h9<|pc (k_matrix_Of h11)<|pc (k_verdict_Leaks h16)<|pc h17<|pc (rn n13)<|pc h18<|pc (k_matrix_Apart h20)<|pc (rn n13)<|pc h21<|pc (rn n13)<|pc (k_palinglaw43_MatrixApart_L1 _ _ h64)<|pn)

end Go.Eng
