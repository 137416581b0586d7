/- Part of the proof of LabelsWays: printed mirrors of the functions, or their contracts. No conditions. -/
import Derived.Test.YtcclngfmkodgjaaMAK3
set_option linter.unusedVariables false
set_option maxRecDepth 100000
namespace Go.Eng
open Go Go.Proofs
theorem k_palinglaw42_LabelsWays_L2 {a1 : Api_Net} {a2 : List Int} {l12 : List Int} {n13 : Nat} {r15 : Int × Int × Bool} {v20 : Bool} {v21 : Int} {x24 : Int} : LoopOK Try.prog UU 0 132 (subC (codeOf Try.f3) [1, 1, 1, 1, 1, 1, 1, 1, 0, 1, 0, 0, 1, 1, 0, 0, 1, 1, 0, 1, 0, 0]) (fun s : Int × Int => match s with | (v26, v27) => palinglaw42_LabelsWays_L2 a1 a2 l12 n13 r15 v20 v21 x24 v26 v27)
  (fun s : Int × Int => (match s with | (v26, v27) => [(1, .sl 3 a2), (2, .o 0), (4, .y false), (9, .y r15.2.2), (10, .y v20), (11, .j v21), (12, .j x24), (13, .j v26), (54, .os 1 n13), (55, .j (n13 : Int)), (56, .j v21), (61, .sl 3 a2), (62, .j (a2.length : Int)), (63, .j v27)] : Fr DD)) (fun s : Int × Int => (match s with | (v26, v27) => [.box 31 (c31 a1) false, .arr 3 l12 n13 false] : Heap DD)) (fun r => match r with | v46 => .exit 2) (fun r => match r with | v46 => [(1, .sl 3 a2), (2, .o 0), (4, .y false), (9, .y r15.2.2), (10, .y v20), (11, .j v21), (12, .j x24), (13, .j v46), (54, .os 1 n13), (55, .j (n13 : Int)), (56, .j v21)]) (fun r => match r with | v46 => [.box 31 (c31 a1) false, .arr 3 l12 n13 false]) := by
 refine loop_sound3 (fun s q h => ?_) (fun r => ?_)
 ·obtain ⟨v26, v27⟩ := s; replace h : palinglaw42_LabelsWays_L2 a1 a2 l12 n13 r15 v20 v21 x24 v26 v27 = some q := h
  unfold palinglaw42_LabelsWays_L2 at h
  obtain ⟨h28, h⟩|⟨h28, h⟩ := ite_out h
  ·obtain ⟨x29, h30, h⟩ := bo h
   obtain ⟨r31, h32, h⟩ := bo h
   obtain ⟨l33, n34, v35⟩ := r31
   obtain ⟨h36, h⟩|⟨h36, h⟩ := ite_out h
   ·obtain ⟨h37, h⟩|⟨h37, h⟩ := ite_out h
    ·obtain ⟨x38, h39, h⟩ := bo h
     obtain ⟨h40, h⟩|⟨h40, h⟩ := ite_out h
     ·obtain ⟨h41, h⟩|⟨h41, h⟩ := ite_out h
      ·obtain ⟨h42, h⟩|⟨h42, h⟩ := ite_out h
       ·obtain rfl := oi h; exact rl [1, 2, 4, 9, 10, 11, 12, 13, 54, 55, 56, 61, 62, 63] [0, 1] [.t, .row (c3 x29), .callo (.tup [.os 0 n34, .y v35]) [.arr 77 l33 n34 false], .t, .t, .row (c3 x38), .t, .t] (pc h28<|pc (ob3 h30)<|pc (k_witness_Way h32)<|pc (im77 l33)<|pc h36<|pc h37<|pc (ob3 h39)<|pc h40<|pc h41<|pc (of_decide_eq_true h42)<|pn)
       ·cases h
      ·obtain ⟨h43, h⟩|⟨h43, h⟩ := ite_out h
       ·obtain ⟨h44, h⟩|⟨h44, h⟩ := ite_out h
        ·obtain rfl := oi h; exact rl [1, 2, 4, 9, 10, 11, 12, 13, 54, 55, 56, 61, 62, 63] [0, 1] [.t, .row (c3 x29), .callo (.tup [.os 0 n34, .y v35]) [.arr 77 l33 n34 false], .t, .t, .row (c3 x38), .t, .f, .t] (pc h28<|pc (ob3 h30)<|pc (k_witness_Way h32)<|pc (im77 l33)<|pc h36<|pc h37<|pc (ob3 h39)<|pc h40<|pc h41<|pc h43<|pc (of_decide_eq_true h44)<|pn)
        ·cases h
       ·obtain rfl := oi h; exact rl [1, 2, 4, 9, 10, 11, 12, 13, 54, 55, 56, 61, 62, 63] [0, 1] [.t, .row (c3 x29), .callo (.tup [.os 0 n34, .y v35]) [.arr 77 l33 n34 false], .t, .t, .row (c3 x38), .t, .f, .f] (pc h28<|pc (ob3 h30)<|pc (k_witness_Way h32)<|pc (im77 l33)<|pc h36<|pc h37<|pc (ob3 h39)<|pc h40<|pc h41<|pc h43<|pn)
     ·obtain rfl := oi h; exact rl [1, 2, 4, 9, 10, 11, 12, 13, 54, 55, 56, 61, 62, 63] [0, 1] [.t, .row (c3 x29), .callo (.tup [.os 0 n34, .y v35]) [.arr 77 l33 n34 false], .t, .t, .row (c3 x38), .f] (pc h28<|pc (ob3 h30)<|pc (k_witness_Way h32)<|pc (im77 l33)<|pc h36<|pc h37<|pc (ob3 h39)<|pc h40<|pn)
    ·obtain rfl := oi h; exact rl [1, 2, 4, 9, 10, 11, 12, 13, 54, 55, 56, 61, 62, 63] [0, 1] [.t, .row (c3 x29), .callo (.tup [.os 0 n34, .y v35]) [.arr 77 l33 n34 false], .t, .f] (pc h28<|pc (ob3 h30)<|pc (k_witness_Way h32)<|pc (im77 l33)<|pc h36<|pc h37<|pn)
   ·obtain rfl := oi h; exact rl [1, 2, 4, 9, 10, 11, 12, 13, 54, 55, 56, 61, 62, 63] [0, 1] [.t, .row (c3 x29), .callo (.tup [.os 0 n34, .y v35]) [.arr 77 l33 n34 false], .f] (pc h28<|pc (ob3 h30)<|pc (k_witness_Way h32)<|pc (im77 l33)<|pc h36<|pn)
  ·obtain rfl := oi h; exact rl [1, 2, 4, 9, 10, 11, 12, 13, 54, 55, 56] [0, 1] [.f] (pc h28<|pn)
 ·exact Ex.noConfusion

theorem k_palinglaw42_LabelsWays_L1 {a1 : Api_Net} {a2 : List Int} {l12 : List Int} {n13 : Nat} {r15 : Int × Int × Bool} : LoopOK Try.prog UU 0 132 (subC (codeOf Try.f3) [1, 1, 1, 1, 1, 1, 1, 1, 0, 1, 0, 0]) (fun s : Bool × Int => match s with | (v20, v21) => palinglaw42_LabelsWays_L1 a1 a2 l12 n13 r15 v20 v21)
  (fun s : Bool × Int => (match s with | (v20, v21) => [(1, .sl 3 a2), (2, .o 0), (4, .y false), (9, .y r15.2.2), (10, .y v20), (54, .os 1 n13), (55, .j (n13 : Int)), (56, .j v21)] : Fr DD)) (fun s : Bool × Int => (match s with | (v20, v21) => [.box 31 (c31 a1) false, .arr 3 l12 n13 false] : Heap DD)) (fun r => match r with | Sum.inl _ => .ret | Sum.inr v61 => .exit 0) (fun r => match r with | Sum.inl _ => [(4, .y false)] | Sum.inr v61 => [(4, .y false), (9, .y r15.2.2), (10, .y v61)]) (fun r => match r with | Sum.inl _ => [] | Sum.inr v61 => []) := by
 refine loop_sound3 (fun s q h => ?_) (fun r => ?_)
 ·obtain ⟨v20, v21⟩ := s; replace h : palinglaw42_LabelsWays_L1 a1 a2 l12 n13 r15 v20 v21 = some q := h
  unfold palinglaw42_LabelsWays_L1 at h
  obtain ⟨h22, h⟩|⟨h22, h⟩ := ite_out h
  ·obtain ⟨h23, h⟩|⟨h23, h⟩ := ite_out h
   ·obtain ⟨x24, h25, h⟩ := bo h
    obtain ⟨v46, h47, h⟩ := bo h
    obtain ⟨h49, h⟩|⟨h49, h⟩ := ite_out h
    ·obtain rfl := oi h; exact rl [4] [] [.t, .row (c3 x24), .sum [1, 2, 4, 9, 10, 11, 12, 13, 54, 55, 56, 61, 62, 63] [0, 1] (.exit 2) [(1, .sl 3 a2), (2, .o 0), (4, .y false), (9, .y r15.2.2), (10, .y v20), (11, .j v21), (12, .j x24), (13, .j v46), (54, .os 1 n13), (55, .j (n13 : Int)), (56, .j v21)] [.box 31 (c31 a1) false, .arr 3 l12 n13 false], .t] (pc h22<|pc (an n13 (lin_ob h23))<|pc (an n13 (obn3 h25))<|pc (k_palinglaw42_LabelsWays_L2 _ _ h47)<|pc h49<|pn)
    ·obtain ⟨h50, h⟩|⟨h50, h⟩ := ite_out h
     ·obtain rfl := oi h; exact rl [1, 2, 4, 9, 10, 54, 55, 56] [0, 1] [.t, .row (c3 x24), .sum [1, 2, 4, 9, 10, 11, 12, 13, 54, 55, 56, 61, 62, 63] [0, 1] (.exit 2) [(1, .sl 3 a2), (2, .o 0), (4, .y false), (9, .y r15.2.2), (10, .y v20), (11, .j v21), (12, .j x24), (13, .j v46), (54, .os 1 n13), (55, .j (n13 : Int)), (56, .j v21)] [.box 31 (c31 a1) false, .arr 3 l12 n13 false], .f, .t] (pc h22<|pc (an n13 (lin_ob h23))<|pc (an n13 (obn3 h25))<|pc (k_palinglaw42_LabelsWays_L2 _ _ h47)<|pc h49<|pc h50<|pn)
     ·obtain ⟨x51, h52, h⟩ := bo h
      obtain ⟨h53, h⟩|⟨h53, h⟩ := ite_out h
      ·obtain ⟨x54, h55, h⟩ := bo h
       obtain ⟨h56, h⟩|⟨h56, h⟩ := ite_out h
       ·obtain ⟨x57, h58, h⟩ := bo h
        obtain ⟨h59, h⟩|⟨h59, h⟩ := ite_out h
        ·obtain rfl := oi h; exact rl [1, 2, 4, 9, 10, 54, 55, 56] [0, 1] [.t, .row (c3 x24), .sum [1, 2, 4, 9, 10, 11, 12, 13, 54, 55, 56, 61, 62, 63] [0, 1] (.exit 2) [(1, .sl 3 a2), (2, .o 0), (4, .y false), (9, .y r15.2.2), (10, .y v20), (11, .j v21), (12, .j x24), (13, .j v46), (54, .os 1 n13), (55, .j (n13 : Int)), (56, .j v21)] [.box 31 (c31 a1) false, .arr 3 l12 n13 false], .f, .f, .row (c3 x51), .t, .row (c3 x54), .t, .row (c3 x57)] (pc h22<|pc (an n13 (lin_ob h23))<|pc (an n13 (obn3 h25))<|pc (k_palinglaw42_LabelsWays_L2 _ _ h47)<|pc h49<|pc h50<|pc (ob3 h52)<|pc h53<|pc (ob3 h55)<|pc h56<|pc (ob3 h58)<|pc (of_decide_eq_true h59)<|pn)
        ·cases h
       ·obtain rfl := oi h; exact rl [1, 2, 4, 9, 10, 54, 55, 56] [0, 1] [.t, .row (c3 x24), .sum [1, 2, 4, 9, 10, 11, 12, 13, 54, 55, 56, 61, 62, 63] [0, 1] (.exit 2) [(1, .sl 3 a2), (2, .o 0), (4, .y false), (9, .y r15.2.2), (10, .y v20), (11, .j v21), (12, .j x24), (13, .j v46), (54, .os 1 n13), (55, .j (n13 : Int)), (56, .j v21)] [.box 31 (c31 a1) false, .arr 3 l12 n13 false], .f, .f, .row (c3 x51), .t, .row (c3 x54), .f] (pc h22<|pc (an n13 (lin_ob h23))<|pc (an n13 (obn3 h25))<|pc (k_palinglaw42_LabelsWays_L2 _ _ h47)<|pc h49<|pc h50<|pc (ob3 h52)<|pc h53<|pc (ob3 h55)<|pc h56<|pn)
      ·obtain rfl := oi h; exact rl [1, 2, 4, 9, 10, 54, 55, 56] [0, 1] [.t, .row (c3 x24), .sum [1, 2, 4, 9, 10, 11, 12, 13, 54, 55, 56, 61, 62, 63] [0, 1] (.exit 2) [(1, .sl 3 a2), (2, .o 0), (4, .y false), (9, .y r15.2.2), (10, .y v20), (11, .j v21), (12, .j x24), (13, .j v46), (54, .os 1 n13), (55, .j (n13 : Int)), (56, .j v21)] [.box 31 (c31 a1) false, .arr 3 l12 n13 false], .f, .f, .row (c3 x51), .f] (pc h22<|pc (an n13 (lin_ob h23))<|pc (an n13 (obn3 h25))<|pc (k_palinglaw42_LabelsWays_L2 _ _ h47)<|pc h49<|pc h50<|pc (ob3 h52)<|pc h53<|pn)
   ·cases h
  ·obtain rfl := oi h; exact rl [4, 9, 10] [] [.f] (pc h22<|pn)
 ·rcases r with _ | _ <;> exact Ex.noConfusion

theorem k_palinglaw42_LabelsWays {a1 : Api_Net} {a2 : List Int} {r : Bool} (h : palinglaw42_LabelsWays a1 a2 = some r) :
  CallsOK Try.prog UU 3 [.agg (c31 a1), .sl 3 a2] [] (.y r) [] := by
 unfold palinglaw42_LabelsWays at h
 obtain ⟨r3, h4, h⟩ := bo h
 obtain ⟨h5, h⟩|⟨h5, h⟩ := ite_out h
 ·obtain rfl := oi h; exact rf Try.func3 none [.b r3, .t] (pc (k_palinglaw42_works h4)<|pc h5<|pn)
 ·obtain ⟨r6, h7, h⟩ := bo h
  obtain ⟨h8, h⟩|⟨h8, h⟩ := ite_out h
  ·obtain rfl := oi h; exact rf Try.func3 none [.b r3, .f, .b r6, .t] (pc (k_palinglaw42_works h4)<|pc h5<|pc (k_palinglaw15_Great h7)<|pc h8<|pn)
  ·obtain ⟨h9, h⟩|⟨h9, h⟩ := ite_out h
   ·obtain rfl := oi h; exact rf Try.func3 none [.b r3, .f, .b r6, .f, .t] (pc (k_palinglaw42_works h4)<|pc h5<|pc (k_palinglaw15_Great h7)<|pc h8<|pc h9<|pn)
   ·obtain ⟨r10, h11, h⟩ := bo h
    obtain ⟨l12, n13, v14⟩ := r10
    obtain ⟨r15, h16, h⟩ := bo h
    obtain ⟨h17, h⟩|⟨h17, h⟩ := ite_out h
    ·obtain ⟨h18, h⟩|⟨h18, h⟩ := ite_out h
     ·obtain rfl := oi h; exact rf Try.func3 none [.b r3, .f, .b r6, .f, .f, .callo (.tup [.os 0 n13, .y v14]) [.arr 3 l12 n13 false], .callv (.tup [.j r15.1, .j r15.2.1, .y r15.2.2]), .t, .t] (pc (k_palinglaw42_works h4)<|pc h5<|pc (k_palinglaw15_Great h7)<|pc h8<|pc h9<|pc (k_labels_Ports h11)<|pc (im3 l12)<|pc (k_verdict_Leaks h16)<|pc h17<|pc (rn n13)<|pc h18<|pn)
     ·obtain rfl := oi h; exact rf Try.func3 none [.b r3, .f, .b r6, .f, .f, .callo (.tup [.os 0 n13, .y v14]) [.arr 3 l12 n13 false], .callv (.tup [.j r15.1, .j r15.2.1, .y r15.2.2]), .t, .f] (pc (k_palinglaw42_works h4)<|pc h5<|pc (k_palinglaw15_Great h7)<|pc h8<|pc h9<|pc (k_labels_Ports h11)<|pc (im3 l12)<|pc (k_verdict_Leaks h16)<|pc h17<|pc (rn n13)<|pc h18<|pn)
    ·obtain ⟨h19, h⟩|⟨h19, h⟩ := ite_out h
     ·obtain rfl := oi h; exact rf Try.func3 none [.b r3, .f, .b r6, .f, .f, .callo (.tup [.os 0 n13, .y v14]) [.arr 3 l12 n13 false], .callv (.tup [.j r15.1, .j r15.2.1, .y r15.2.2]), .f, .t] (pc (k_palinglaw42_works h4)<|pc h5<|pc (k_palinglaw15_Great h7)<|pc h8<|pc h9<|pc (k_labels_Ports h11)<|pc (im3 l12)<|pc (k_verdict_Leaks h16)<|pc h17<|pc (rn n13)<|pc h19<|pn)
     ·obtain ⟨r63, h62, h⟩ := bo h
      rcases r63 with _ | v61
      ·obtain rfl := oi h; exact rf Try.func3 none [.b r3, .f, .b r6, .f, .f, .callo (.tup [.os 0 n13, .y v14]) [.arr 3 l12 n13 false], .callv (.tup [.j r15.1, .j r15.2.1, .y r15.2.2]), .f, .f, .sum [1, 2, 4, 9, 10, 54, 55, 56] [0, 1] .ret [(4, .y false)] []] (pc (k_palinglaw42_works h4)<|pc h5<|pc (k_palinglaw15_Great h7)<|pc h8<|pc h9<|pc (k_labels_Ports h11)<|pc (im3 l12)<|pc (k_verdict_Leaks h16)<|pc h17<|pc (rn n13)<|pc h19<|pc (rn n13)<|pc (k_palinglaw42_LabelsWays_L1 _ _ h62)<|pn)
      ·obtain rfl := oi h; exact rf Try.func3 none [.b r3, .f, .b r6, .f, .f, .callo (.tup [.os 0 n13, .y v14]) [.arr 3 l12 n13 false], .callv (.tup [.j r15.1, .j r15.2.1, .y r15.2.2]), .f, .f, .sum [1, 2, 4, 9, 10, 54, 55, 56] [0, 1] (.exit 0) [(4, .y false), (9, .y r15.2.2), (10, .y v61)] []] (pc (k_palinglaw42_works h4)<|pc h5<|pc (k_palinglaw15_Great h7)<|pc h8<|pc h9<|pc (k_labels_Ports h11)<|pc (im3 l12)<|pc (k_verdict_Leaks h16)<|pc h17<|pc (rn n13)<|pc h19<|pc (rn n13)<|pc (k_palinglaw42_LabelsWays_L1 _ _ h62)<|pn)

end Go.Eng
