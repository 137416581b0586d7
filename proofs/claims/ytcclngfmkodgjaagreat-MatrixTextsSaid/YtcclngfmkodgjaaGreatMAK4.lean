/- Part of the proof of MatrixTexts: printed mirrors of the functions, or their contracts. No conditions. -/
import Derived.Test.YtcclngfmkodgjaaGreatMAK3
set_option linter.unusedVariables false
set_option maxRecDepth 100000
namespace Go.Eng
open Go Go.Proofs
theorem k_palinglaw43_works {r : Bool} (h : palinglaw43_works = some r) :
  CallsOK Tryz.prog UU 23 [] [] (.y r) [] := by
 have hr : some true = some r := (by kernel_rfl : palinglaw43_works = some true).symm.trans h
 unfold palinglaw43_works at h
 obtain ⟨r1, h2, h⟩ := bo h
 obtain ⟨l3, n4, v5⟩ := r1
 obtain ⟨r6, h7, h⟩ := bo h
 obtain ⟨r8, h9, h⟩ := bo h
 obtain ⟨h10, h⟩|⟨h10, h⟩ := ite_out h
 ·obtain ⟨h11, h⟩|⟨h11, h⟩ := ite_out h
  ·obtain ⟨h12, h⟩|⟨h12, h⟩ := ite_out h
   ·obtain ⟨r13, h14, h⟩ := bo h
    obtain ⟨h15, h⟩|⟨h15, h⟩ := ite_out h
    ·obtain ⟨h16, h⟩|⟨h16, h⟩ := ite_out h
     ·obtain rfl := oi h; exact rf Tryz.func23 none [.obj [] (.w 56 [(⟨0, 0, (⟨#[97]⟩ : ByteArray), 0, 0⟩ : Api_Device)]), .obj [] (.w 110 [(⟨0, 0, 10, 0, (-1), (⟨#[112]⟩ : ByteArray), []⟩ : Api_Port), (⟨0, 0, 10, 0, (-1), (⟨#[113]⟩ : ByteArray), []⟩ : Api_Port), (⟨0, 0, 20, 0, (-1), (⟨#[114]⟩ : ByteArray), []⟩ : Api_Port)]), .obj [] (.w 90 [(⟨0, 10, 0, (-1), 0, []⟩ : Api_Domain), (⟨0, 20, 0, (-1), 0, []⟩ : Api_Domain)]), .obj [] (.w 3 [(0 : Int), (0 : Int), (1 : Int)]), .frz [0, 1, 12, 2, 13, 14, 15, 16, 17], .callm [] (.tup [.os 0 n4, .y v5]) [.arr 70 l3 n4 false], .obj [] (.w 9 [(⟨#[120]⟩ : ByteArray), (⟨#[121]⟩ : ByteArray)]), .callv (.tup [.x r6.1, .j r6.2]), .obj [] (.w 3 [(0 : Int), (0 : Int), (1 : Int)]), .obj [] (.w 9 [(⟨#[120]⟩ : ByteArray), (⟨#[121]⟩ : ByteArray)]), .callv (.tup [.x r8.1, .j r8.2]), .t, .t, .t, .b r13, .t, .t] (pc (bs_ob 56 [(⟨0, 0, (⟨#[97]⟩ : ByteArray), 0, 0⟩ : Api_Device)])<|pc (bs_ob 110 [(⟨0, 0, 10, 0, (-1), (⟨#[112]⟩ : ByteArray), []⟩ : Api_Port), (⟨0, 0, 10, 0, (-1), (⟨#[113]⟩ : ByteArray), []⟩ : Api_Port), (⟨0, 0, 20, 0, (-1), (⟨#[114]⟩ : ByteArray), []⟩ : Api_Port)])<|pc (bs_ob 90 [(⟨0, 10, 0, (-1), 0, []⟩ : Api_Domain), (⟨0, 20, 0, (-1), 0, []⟩ : Api_Domain)])<|pc (bs_ob 3 [(0 : Int), (0 : Int), (1 : Int)])<|pc (rn (List.length [(⟨0, 0, (⟨#[97]⟩ : ByteArray), 0, 0⟩ : Api_Device)]))<|pc (rn (List.length [(⟨0, 0, 10, 0, (-1), (⟨#[112]⟩ : ByteArray), []⟩ : Api_Port), (⟨0, 0, 10, 0, (-1), (⟨#[113]⟩ : ByteArray), []⟩ : Api_Port), (⟨0, 0, 20, 0, (-1), (⟨#[114]⟩ : ByteArray), []⟩ : Api_Port)]))<|pc (rn 0)<|pc (rn (List.length [(⟨0, 10, 0, (-1), 0, []⟩ : Api_Domain), (⟨0, 20, 0, (-1), 0, []⟩ : Api_Domain)]))<|pd (rn 0)<|pd (rn 0)<|pc (rn (List.length [(0 : Int), (0 : Int), (1 : Int)]))<|pc (k_matrix_Of h2)<|pc (bs_ob 9 [(⟨#[120]⟩ : ByteArray), (⟨#[121]⟩ : ByteArray)])<|pc (k_matrix_Text h7)<|pc (rn (List.length [(⟨#[120]⟩ : ByteArray), (⟨#[121]⟩ : ByteArray)]))<|pc (rn n4)<|pc (bs_ob 3 [(0 : Int), (0 : Int), (1 : Int)])<|pc (bs_ob 9 [(⟨#[120]⟩ : ByteArray), (⟨#[121]⟩ : ByteArray)])<|pc (k_matrix_Floods h9)<|pc (rn (List.length [(⟨0, 0, (⟨#[97]⟩ : ByteArray), 0, 0⟩ : Api_Device)]))<|pc (rn (List.length [(⟨0, 0, 10, 0, (-1), (⟨#[112]⟩ : ByteArray), []⟩ : Api_Port), (⟨0, 0, 10, 0, (-1), (⟨#[113]⟩ : ByteArray), []⟩ : Api_Port), (⟨0, 0, 20, 0, (-1), (⟨#[114]⟩ : ByteArray), []⟩ : Api_Port)]))<|pc (rn 0)<|pc (rn (List.length [(⟨0, 10, 0, (-1), 0, []⟩ : Api_Domain), (⟨0, 20, 0, (-1), 0, []⟩ : Api_Domain)]))<|pd (rn 0)<|pd (rn 0)<|pc (rn (List.length [(0 : Int), (0 : Int), (1 : Int)]))<|pc (rn (List.length [(⟨#[120]⟩ : ByteArray), (⟨#[121]⟩ : ByteArray)]))<|pc h10<|pc h11<|pc h12<|pc (k_matrix_Apart h14)<|pc (rn n4)<|pc h15<|pc h16<|pn)
     ·exact absurd (hr.trans h.symm) (by decide)
    ·exact absurd (hr.trans h.symm) (by decide)
   ·exact absurd (hr.trans h.symm) (by decide)
  ·exact absurd (hr.trans h.symm) (by decide)
 ·exact absurd (hr.trans h.symm) (by decide)

theorem k_palinglaw43_long_L1 {a1 : List ByteArray} : LoopOK Tryz.prog UU 0 19 (subC (codeOf Tryz.f22) [1, 1, 0, 1, 0, 0]) (ρ := Unit ⊕ Unit) (palinglaw43_long_L1 a1)
  (fun v3 : Int => ([(0, .sl 9 a1), (2, .y false), (3, .j v3)] : Fr DD)) (fun v3 : Int => ([] : Heap DD)) (fun r => match r with | Sum.inl _ => .ret | Sum.inr _ => .exit 0) (fun r => match r with | Sum.inl _ => [(2, .y true)] | Sum.inr _ => [(2, .y false)]) (fun r => match r with | Sum.inl _ => [] | Sum.inr _ => []) := by
 refine loop_sound3 (fun s q h => ?_) (fun r => ?_)
 ·replace h : palinglaw43_long_L1 a1 s = some q := h; revert h; revert s; intro v3 h
  unfold palinglaw43_long_L1 at h
  obtain ⟨h4, h⟩|⟨h4, h⟩ := ite_out h
  ·obtain ⟨x5, h6, h⟩ := bo h
   obtain ⟨h7, h⟩|⟨h7, h⟩ := ite_out h
   ·obtain rfl := oi h; exact rl [2] [] [.t, .row (c9 x5), .t] (pc h4<|pc (ob9 h6)<|pc h7<|pn)
   ·obtain rfl := oi h; exact rl [0, 2, 3] [] [.t, .row (c9 x5), .f] (pc h4<|pc (ob9 h6)<|pc h7<|pn)
  ·obtain rfl := oi h; exact rl [2] [] [.f] (pc h4<|pn)
 ·rcases r with _ | _ <;> exact Ex.noConfusion

theorem k_palinglaw43_long {a1 : List ByteArray} {r : Bool} (h : palinglaw43_long a1 = some r) :
  CallsOK Tryz.prog UU 22 [.sl 9 a1] [] (.y r) [] := by
 unfold palinglaw43_long at h
 obtain ⟨h2, h⟩|⟨h2, h⟩ := ite_out h
 ·obtain rfl := oi h; exact rf Tryz.func22 none [.t] (pc h2<|pn)
 ·obtain ⟨r9, h8, h⟩ := bo h
  rcases r9 with _ | _
  ·obtain rfl := oi h; exact rf Tryz.func22 none [.f, .sum [0, 2, 3] [] .ret [(2, .y true)] []] (pc h2<|pc (k_palinglaw43_long_L1 _ _ h8)<|pn)
  ·obtain rfl := oi h; exact rf Tryz.func22 none [.f, .sum [0, 2, 3] [] (.exit 0) [(2, .y false)] []] (pc h2<|pc (k_palinglaw43_long_L1 _ _ h8)<|pn)

theorem k_palinglaw43_told_L2 {a1 : List (List Matrix_Cell)} {l2 : List (List Palingref43_Cell)} {v3 : Int} {x5 : List Matrix_Cell} : LoopOK Tryz.prog UU 0 32 (subC (codeOf Tryz.f29) [1, 1, 0, 1, 0, 0, 1, 1, 0, 0, 1, 1, 0, 1, 0, 0]) (fun s : (List Palingref43_Cell) × Int => match s with | (l7, v8) => palinglaw43_told_L2 a1 l2 v3 x5 l7 v8)
  (fun s : (List Palingref43_Cell) × Int => (match s with | (l7, v8) => [(2, .os 0 0), (3, .os 1 l2.length), (6, .os 2 l7.length), (9, .sl 70 a1), (10, .j (a1.length : Int)), (11, .j v3), (15, .sl 79 x5), (16, .j (x5.length : Int)), (17, .j v8)] : Fr DD)) (fun s : (List Palingref43_Cell) × Int => (match s with | (l7, v8) => [.n 125, .w 125 l2, .w 126 l7] : Heap DD)) (fun r => match r with | l19 => .exit 2) (fun r => match r with | l19 => [(2, .os 0 0), (3, .os 1 l2.length), (6, .os 2 l19.length), (9, .sl 70 a1), (10, .j (a1.length : Int)), (11, .j v3)]) (fun r => match r with | l19 => [.n 125, .w 125 l2, .w 126 l19]) := by
 refine loop_sound3 (fun s q h => ?_) (fun r => ?_)
 ·obtain ⟨l7, v8⟩ := s; replace h : palinglaw43_told_L2 a1 l2 v3 x5 l7 v8 = some q := h
  unfold palinglaw43_told_L2 at h
  obtain ⟨h9, h⟩|⟨h9, h⟩ := ite_out h
  ·obtain ⟨x10, h11, h⟩ := bo h
   obtain ⟨h12, h⟩|⟨h12, h⟩ := ite_out h
   ·obtain rfl := oi h; exact rl [2, 3, 6, 9, 10, 11, 15, 16, 17] [0, 1, 2] [.t, .row (c79 x10), .obj [] (.w 126 [(⟨x10.ports, x10.from_, x10.to⟩ : Palingref43_Cell)]), .obj [] (.w 126 (l7 ++ [(⟨x10.ports, x10.from_, x10.to⟩ : Palingref43_Cell)]))] (pc h9<|pc (ob79 h11)<|pc (bs_ob 126 [(⟨x10.ports, x10.from_, x10.to⟩ : Palingref43_Cell)])<|pc (app_ob 126 (n := l7.length) (l := l7) (xs := [(⟨x10.ports, x10.from_, x10.to⟩ : Palingref43_Cell)]) h12)<|pc (rn (List.length [(⟨x10.ports, x10.from_, x10.to⟩ : Palingref43_Cell)]))<|pn)
   ·cases h
  ·obtain rfl := oi h; exact rl [2, 3, 6, 9, 10, 11] [0, 1, 2] [.f] (pc h9<|pn)
 ·exact Ex.noConfusion

theorem k_palinglaw43_told_L1 {a1 : List (List Matrix_Cell)} : LoopOK Tryz.prog UU 0 32 (subC (codeOf Tryz.f29) [1, 1, 0, 1, 0, 0]) (fun s : (List (List Palingref43_Cell)) × Int => match s with | (l2, v3) => palinglaw43_told_L1 a1 l2 v3)
  (fun s : (List (List Palingref43_Cell)) × Int => (match s with | (l2, v3) => [(2, .os 0 0), (3, .os 1 l2.length), (9, .sl 70 a1), (10, .j (a1.length : Int)), (11, .j v3)] : Fr DD)) (fun s : (List (List Palingref43_Cell)) × Int => (match s with | (l2, v3) => [.n 125, .w 125 l2] : Heap DD)) (fun r => match r with | l25 => .exit 0) (fun r => match r with | l25 => [(2, .os 0 0), (3, .os 1 l25.length)]) (fun r => match r with | l25 => [.n 125, .w 125 l25]) := by
 refine loop_sound3 (fun s q h => ?_) (fun r => ?_)
 ·obtain ⟨l2, v3⟩ := s; replace h : palinglaw43_told_L1 a1 l2 v3 = some q := h
  unfold palinglaw43_told_L1 at h
  obtain ⟨h4, h⟩|⟨h4, h⟩ := ite_out h
  ·obtain ⟨x5, h6, h⟩ := bo h
   obtain ⟨l19, h20, h⟩ := bo h
   obtain ⟨h22, h⟩|⟨h22, h⟩ := ite_out h
   ·obtain rfl := oi h; exact rl [2, 3, 9, 10, 11] [0, 1] [.t, .row (c70 x5), .sum [2, 3, 6, 9, 10, 11, 15, 16, 17] [0, 1, 2] (.exit 2) [(2, .os 0 0), (3, .os 1 l2.length), (6, .os 2 l19.length), (9, .sl 70 a1), (10, .j (a1.length : Int)), (11, .j v3)] [.n 125, .w 125 l2, .w 126 l19], .obj [2] (.w 125 [l19]), .obj [] (.w 125 (l2 ++ [l19]))] (pc h4<|pc (ob70 h6)<|pc (k_palinglaw43_told_L2 _ _ h20)<|pc (bs_ob 125 [l19])<|pc (rn l19.length)<|pc (app_ob 125 (n := l2.length) (l := l2) (xs := [l19]) h22)<|pc (rn (List.length [l19]))<|pn)
   ·cases h
  ·obtain rfl := oi h; exact rl [2, 3] [0, 1] [.f] (pc h4<|pn)
 ·exact Ex.noConfusion

theorem k_palinglaw43_told {a1 : List (List Matrix_Cell)} {r : ((List (List Palingref43_Cell)))} (h : palinglaw43_told a1 = some r) :
  CallsOK Tryz.prog UU 29 [.sl 70 a1] [] ((fun r => match r with | l28 => .os 0 l28.length) r) ((fun r => match r with | l28 => [.w 125 l28]) r) := by
 unfold palinglaw43_told at h
 obtain ⟨l25, h26, h⟩ := bo h
 obtain rfl := oi h; exact rf Tryz.func29 (some [1]) [.sum [2, 3, 9, 10, 11] [0, 1] (.exit 0) [(2, .os 0 0), (3, .os 1 l25.length)] [.n 125, .w 125 l25]] (pc (k_palinglaw43_told_L1 _ _ h26)<|pn)

theorem k_palingref03_Name_L1 {a1 : ByteArray} : LoopOK Tryz.prog UU 0 50 (subC (codeOf Tryz.f169) [1, 1, 0, 1, 0, 0]) (ρ := Unit ⊕ Unit) (palingref03_Name_L1 a1)
  (fun v7 : Int => ([(0, .x a1), (2, .y false), (3, .j v7)] : Fr DD)) (fun v7 : Int => ([] : Heap DD)) (fun r => match r with | Sum.inl _ => .ret | Sum.inr _ => .exit 0) (fun r => match r with | Sum.inl _ => [(2, .y false)] | Sum.inr _ => [(2, .y false)]) (fun r => match r with | Sum.inl _ => [] | Sum.inr _ => []) := by
 refine loop_sound3 (fun s q h => ?_) (fun r => ?_)
 ·replace h : palingref03_Name_L1 a1 s = some q := h; revert h; revert s; intro v7 h
  unfold palingref03_Name_L1 at h
  obtain ⟨h8, h⟩|⟨h8, h⟩ := ite_out h
  ·obtain ⟨h9, h⟩|⟨h9, h⟩ := ite_out h
   ·obtain ⟨h10, h⟩|⟨h10, h⟩ := ite_out h
    ·obtain ⟨h11, h⟩|⟨h11, h⟩ := ite_out h
     ·obtain rfl := oi h; exact rl [2] [] [.t, .t, .t] (pc h8<|pc (of_decide_eq_true h9)<|pc h10<|pc (of_decide_eq_true h9)<|pc h11<|pn)
     ·obtain ⟨h12, h⟩|⟨h12, h⟩ := ite_out h
      ·obtain rfl := oi h; exact rl [2] [] [.t, .t, .f, .t] (pc h8<|pc (of_decide_eq_true h9)<|pc h10<|pc (of_decide_eq_true h9)<|pc h11<|pc (of_decide_eq_true h9)<|pc h12<|pn)
      ·obtain rfl := oi h; exact rl [0, 2, 3] [] [.t, .t, .f, .f] (pc h8<|pc (of_decide_eq_true h9)<|pc h10<|pc (of_decide_eq_true h9)<|pc h11<|pc (of_decide_eq_true h9)<|pc h12<|pn)
    ·obtain ⟨h13, h⟩|⟨h13, h⟩ := ite_out h
     ·obtain ⟨h14, h⟩|⟨h14, h⟩ := ite_out h
      ·obtain rfl := oi h; exact rl [2] [] [.t, .f, .t, .t] (pc h8<|pc (of_decide_eq_true h9)<|pc h10<|pc (of_decide_eq_true h9)<|pc h13<|pc (of_decide_eq_true h9)<|pc h14<|pn)
      ·obtain ⟨h15, h⟩|⟨h15, h⟩ := ite_out h
       ·obtain rfl := oi h; exact rl [2] [] [.t, .f, .t, .f, .t] (pc h8<|pc (of_decide_eq_true h9)<|pc h10<|pc (of_decide_eq_true h9)<|pc h13<|pc (of_decide_eq_true h9)<|pc h14<|pc (of_decide_eq_true h9)<|pc h15<|pn)
       ·obtain rfl := oi h; exact rl [0, 2, 3] [] [.t, .f, .t, .f, .f] (pc h8<|pc (of_decide_eq_true h9)<|pc h10<|pc (of_decide_eq_true h9)<|pc h13<|pc (of_decide_eq_true h9)<|pc h14<|pc (of_decide_eq_true h9)<|pc h15<|pn)
     ·obtain rfl := oi h; exact rl [0, 2, 3] [] [.t, .f, .f] (pc h8<|pc (of_decide_eq_true h9)<|pc h10<|pc (of_decide_eq_true h9)<|pc h13<|pn)
   ·cases h
  ·obtain rfl := oi h; exact rl [2] [] [.f] (pc h8<|pn)
 ·rcases r with _ | _ <;> exact Ex.noConfusion

theorem k_palingref03_Name {a1 : ByteArray} {r : Bool} (h : palingref03_Name a1 = some r) :
  CallsOK Tryz.prog UU 169 [.x a1] [] (.y r) [] := by
 unfold palingref03_Name at h
 obtain ⟨h2, h⟩|⟨h2, h⟩ := ite_out h
 ·obtain rfl := oi h; exact rf Tryz.func169 none [.t] (pc h2<|pn)
 ·obtain ⟨h3, h⟩|⟨h3, h⟩ := ite_out h
  ·obtain rfl := oi h; exact rf Tryz.func169 none [.f, .t] (pc h2<|pc h3<|pn)
  ·obtain ⟨h4, h⟩|⟨h4, h⟩ := ite_out h
   ·obtain ⟨h5, h⟩|⟨h5, h⟩ := ite_out h
    ·obtain rfl := oi h; exact rf Tryz.func169 none [.f, .f, .t] (pc h2<|pc h3<|pc (of_decide_eq_true h4)<|pc h5<|pn)
    ·obtain ⟨h6, h⟩|⟨h6, h⟩ := ite_out h
     ·obtain rfl := oi h; exact rf Tryz.func169 none [.f, .f, .f, .t] (pc h2<|pc h3<|pc (of_decide_eq_true h4)<|pc h5<|pc (of_decide_eq_true h4)<|pc h6<|pn)
     ·obtain ⟨r17, h16, h⟩ := bo h
      rcases r17 with _ | _
      ·obtain rfl := oi h; exact rf Tryz.func169 none [.f, .f, .f, .f, .sum [0, 2, 3] [] .ret [(2, .y false)] []] (pc h2<|pc h3<|pc (of_decide_eq_true h4)<|pc h5<|pc (of_decide_eq_true h4)<|pc h6<|pc (k_palingref03_Name_L1 _ _ h16)<|pn)
      ·obtain rfl := oi h; exact rf Tryz.func169 none [.f, .f, .f, .f, .sum [0, 2, 3] [] (.exit 0) [(2, .y false)] []] (pc h2<|pc h3<|pc (of_decide_eq_true h4)<|pc h5<|pc (of_decide_eq_true h4)<|pc h6<|pc (k_palingref03_Name_L1 _ _ h16)<|pn)
   ·cases h

theorem k_palingref43_named_L1 {a1 : List ByteArray} : LoopOK Tryz.prog UU 0 16 (subC (codeOf Tryz.f87) [1, 0, 1, 0, 0]) (ρ := Unit ⊕ Unit) (palingref43_named_L1 a1)
  (fun v2 : Int => ([(0, .sl 9 a1), (2, .y false), (3, .j v2)] : Fr DD)) (fun v2 : Int => ([] : Heap DD)) (fun r => match r with | Sum.inl _ => .ret | Sum.inr _ => .exit 0) (fun r => match r with | Sum.inl _ => [(2, .y false)] | Sum.inr _ => [(2, .y false)]) (fun r => match r with | Sum.inl _ => [] | Sum.inr _ => []) := by
 refine loop_sound3 (fun s q h => ?_) (fun r => ?_)
 ·replace h : palingref43_named_L1 a1 s = some q := h; revert h; revert s; intro v2 h
  unfold palingref43_named_L1 at h
  obtain ⟨h3, h⟩|⟨h3, h⟩ := ite_out h
  ·obtain ⟨x4, h5, h⟩ := bo h
   obtain ⟨r6, h7, h⟩ := bo h
   obtain ⟨h8, h⟩|⟨h8, h⟩ := ite_out h
   ·obtain rfl := oi h; exact rl [2] [] [.t, .row (c9 x4), .b r6, .t] (pc h3<|pc (ob9 h5)<|pc (k_palingref03_Name h7)<|pc h8<|pn)
   ·obtain rfl := oi h; exact rl [0, 2, 3] [] [.t, .row (c9 x4), .b r6, .f] (pc h3<|pc (ob9 h5)<|pc (k_palingref03_Name h7)<|pc h8<|pn)
  ·obtain rfl := oi h; exact rl [2] [] [.f] (pc h3<|pn)
 ·rcases r with _ | _ <;> exact Ex.noConfusion

theorem k_palingref43_named {a1 : List ByteArray} {r : Bool} (h : palingref43_named a1 = some r) :
  CallsOK Tryz.prog UU 87 [.sl 9 a1] [] (.y r) [] := by
 unfold palingref43_named at h
 obtain ⟨r10, h9, h⟩ := bo h
 rcases r10 with _ | _
 ·obtain rfl := oi h; exact rf Tryz.func87 none [.sum [0, 2, 3] [] .ret [(2, .y false)] []] (pc (k_palingref43_named_L1 _ _ h9)<|pn)
 ·obtain rfl := oi h; exact rf Tryz.func87 none [.sum [0, 2, 3] [] (.exit 0) [(2, .y false)] []] (pc (k_palingref43_named_L1 _ _ h9)<|pn)

theorem k_palingref03_digits_L1 : LoopOK Tryz.prog UU 0 23 (subC (codeOf Tryz.f171) [1, 1, 0, 0, 0]) (fun s : Int × ByteArray => match s with | (v2, v3) => palingref03_digits_L1 v2 v3)
  (fun s : Int × ByteArray => (match s with | (v2, v3) => [(0, .v (.int .u64 v2)), (2, .e), (3, .x v3)] : Fr DD)) (fun s : Int × ByteArray => (match s with | (v2, v3) => [] : Heap DD)) (fun r => match r with | (v8, v9) => .exit 0) (fun r => match r with | (v8, v9) => [(0, .v (.int .u64 v8)), (2, .e), (3, .x v9)]) (fun r => match r with | (v8, v9) => []) := by
 refine loop_sound3 (fun s q h => ?_) (fun r => ?_)
 ·obtain ⟨v2, v3⟩ := s; replace h : palingref03_digits_L1 v2 v3 = some q := h
  unfold palingref03_digits_L1 at h
  obtain ⟨h4, h⟩|⟨h4, h⟩ := ite_out h
  ·obtain ⟨h5, h⟩|⟨h5, h⟩ := ite_out h
   ·obtain rfl := oi h; exact rl [0, 2, 3] [] [.t, .obj [] (.w 5 [(wr_u8 (wr_u64 (48 + (Int.tmod v2 10))) : Int)]), .callv (.v (.string (bstr [(wr_u8 (wr_u64 (48 + (Int.tmod v2 10))) : Int)])))] (pc h4<|pc (show (10 : Int) ≠ 0 from by decide)<|pc (bs_ob 5 [(wr_u8 (wr_u64 (48 + (Int.tmod v2 10))) : Int)])<|pc (cvb5 [(wr_u8 (wr_u64 (48 + (Int.tmod v2 10))) : Int)])<|pc (rn (List.length [(wr_u8 (wr_u64 (48 + (Int.tmod v2 10))) : Int)]))<|pc (of_decide_eq_true h5)<|pc (show (10 : Int) ≠ 0 from by decide)<|pn)
   ·cases h
  ·obtain rfl := oi h; exact rl [0, 2, 3] [] [.f] (pc h4<|pn)
 ·exact Ex.noConfusion

theorem k_palingref03_digits {a1 : Int} {r : ByteArray} (h : palingref03_digits a1 = some r) :
  CallsOK Tryz.prog UU 171 [.v (.int .u64 a1)] [] (.x r) [] := by
 unfold palingref03_digits at h
 obtain ⟨r11, h10, h⟩ := bo h
 obtain ⟨v8, v9⟩ := r11
 obtain ⟨h12, h⟩|⟨h12, h⟩ := ite_out h
 ·obtain rfl := oi h; exact rf Tryz.func171 none [.sum [0, 2, 3] [] (.exit 0) [(0, .v (.int .u64 v8)), (2, .e), (3, .x v9)] [], .obj [] (.w 5 [(wr_u8 (wr_u64 (48 + v8)) : Int)]), .callv (.v (.string (bstr [(wr_u8 (wr_u64 (48 + v8)) : Int)])))] (pc (k_palingref03_digits_L1 _ _ h10)<|pc (bs_ob 5 [(wr_u8 (wr_u64 (48 + v8)) : Int)])<|pc (cvb5 [(wr_u8 (wr_u64 (48 + v8)) : Int)])<|pc (rn (List.length [(wr_u8 (wr_u64 (48 + v8)) : Int)]))<|pc (of_decide_eq_true h12)<|pn)
 ·cases h

theorem k_palingref03_Text {a1 : Int} {r : ByteArray} (h : palingref03_Text a1 = some r) :
  CallsOK Tryz.prog UU 93 [.j a1] [] (.x r) [] := by
 unfold palingref03_Text at h
 obtain ⟨h2, h⟩|⟨h2, h⟩ := ite_out h
 ·obtain ⟨r3, h4, h⟩ := bo h
  obtain ⟨h5, h⟩|⟨h5, h⟩ := ite_out h
  ·obtain rfl := oi h; exact rf Tryz.func93 none [.t, .callv (.x r3)] (pc h2<|pc (k_palingref03_digits h4)<|pc (of_decide_eq_true h5)<|pn)
  ·cases h
 ·obtain ⟨r6, h7, h⟩ := bo h
  obtain rfl := oi h; exact rf Tryz.func93 none [.f, .callv (.x r6)] (pc h2<|pc (k_palingref03_digits h7)<|pn)

theorem k_palingref43_Text_L1 {a1 : List ByteArray} {a2 : List (List Palingref43_Cell)} : LoopOK Tryz.prog UU 0 74 (subC (codeOf Tryz.f31) [1, 1, 0, 1, 0, 0]) (ρ := Unit ⊕ Unit) (palingref43_Text_L1 a1 a2)
  (fun v7 : Int => ([(0, .sl 9 a1), (1, .sl 125 a2), (4, .e), (5, .z), (6, .j v7)] : Fr DD)) (fun v7 : Int => ([] : Heap DD)) (fun r => match r with | Sum.inl _ => .ret | Sum.inr _ => .exit 0) (fun r => match r with | Sum.inl _ => [(4, .e), (5, .j 2)] | Sum.inr _ => [(0, .sl 9 a1), (1, .sl 125 a2), (4, .e), (5, .z)]) (fun r => match r with | Sum.inl _ => [] | Sum.inr _ => []) := by
 refine loop_sound3 (fun s q h => ?_) (fun r => ?_)
 ·replace h : palingref43_Text_L1 a1 a2 s = some q := h; revert h; revert s; intro v7 h
  unfold palingref43_Text_L1 at h
  obtain ⟨h8, h⟩|⟨h8, h⟩ := ite_out h
  ·obtain ⟨x9, h10, h⟩ := bo h
   obtain ⟨h11, h⟩|⟨h11, h⟩ := ite_out h
   ·obtain rfl := oi h; exact rl [4, 5] [] [.t, .row (c125 x9), .t] (pc h8<|pc (ob125 h10)<|pc h11<|pn)
   ·obtain rfl := oi h; exact rl [0, 1, 4, 5, 6] [] [.t, .row (c125 x9), .f] (pc h8<|pc (ob125 h10)<|pc h11<|pn)
  ·obtain rfl := oi h; exact rl [0, 1, 4, 5] [] [.f] (pc h8<|pn)
 ·rcases r with _ | _ <;> exact Ex.noConfusion

theorem k_palingref43_Text_L3 {a1 : List ByteArray} {a2 : List (List Palingref43_Cell)} {v16 : Int} : LoopOK Tryz.prog UU 0 74 (subC (codeOf Tryz.f31) [1, 1, 1, 1, 1, 0, 1, 0, 0, 1, 0, 0, 1, 0, 1, 0, 0]) (fun s : ByteArray × Int => match s with | (v22, v23) => palingref43_Text_L3 a1 a2 v16 v22 v23)
  (fun s : ByteArray × Int => (match s with | (v22, v23) => [(0, .sl 9 a1), (1, .sl 125 a2), (4, .e), (5, .z), (7, .x v22), (8, .j v16), (9, .j v23)] : Fr DD)) (fun s : ByteArray × Int => (match s with | (v22, v23) => [] : Heap DD)) (fun r => match r with | v36 => .exit 4) (fun r => match r with | v36 => [(0, .sl 9 a1), (1, .sl 125 a2), (4, .e), (5, .z), (7, .x v36), (8, .j v16)]) (fun r => match r with | v36 => []) := by
 refine loop_sound3 (fun s q h => ?_) (fun r => ?_)
 ·obtain ⟨v22, v23⟩ := s; replace h : palingref43_Text_L3 a1 a2 v16 v22 v23 = some q := h
  unfold palingref43_Text_L3 at h
  obtain ⟨x24, h25, h⟩ := bo h
  obtain ⟨h26, h⟩|⟨h26, h⟩ := ite_out h
  ·obtain ⟨h27, h⟩|⟨h27, h⟩ := ite_out h
   ·obtain ⟨x28, h29, h⟩ := bo h
    obtain ⟨x30, h31, h⟩ := bo h
    obtain ⟨r32, h33, h⟩ := bo h
    obtain ⟨h34, h⟩|⟨h34, h⟩ := ite_out h
    ·obtain rfl := oi h; exact rl [0, 1, 4, 5, 7, 8, 9] [] [.row (c125 x24), .t, .row (c125 x28), .row (c126 x30), .callv (.x r32)] (pc (ob125 h25)<|pc h26<|pc (of_decide_eq_true h27)<|pc (ob125 h29)<|pc (ob126 h31)<|pc (k_palingref03_Text h33)<|pc (of_decide_eq_true h34)<|pn)
    ·cases h
   ·cases h
  ·obtain rfl := oi h; exact rl [0, 1, 4, 5, 7, 8] [] [.row (c125 x24), .f] (pc (ob125 h25)<|pc h26<|pn)
 ·exact Ex.noConfusion

theorem k_palingref43_Text_L2 {a1 : List ByteArray} {a2 : List (List Palingref43_Cell)} : LoopOK Tryz.prog UU 0 74 (subC (codeOf Tryz.f31) [1, 1, 1, 1, 1, 0, 1, 0, 0]) (fun s : ByteArray × Int => match s with | (v15, v16) => palingref43_Text_L2 a1 a2 v15 v16)
  (fun s : ByteArray × Int => (match s with | (v15, v16) => [(0, .sl 9 a1), (1, .sl 125 a2), (4, .e), (5, .z), (7, .x v15), (8, .j v16)] : Fr DD)) (fun s : ByteArray × Int => (match s with | (v15, v16) => [] : Heap DD)) (fun r => match r with | v41 => .exit 2) (fun r => match r with | v41 => [(4, .e), (5, .z), (7, .x v41)]) (fun r => match r with | v41 => []) := by
 refine loop_sound3 (fun s q h => ?_) (fun r => ?_)
 ·obtain ⟨v15, v16⟩ := s; replace h : palingref43_Text_L2 a1 a2 v15 v16 = some q := h
  unfold palingref43_Text_L2 at h
  obtain ⟨h17, h⟩|⟨h17, h⟩ := ite_out h
  ·obtain ⟨x18, h19, h⟩ := bo h
   obtain ⟨h20, h⟩|⟨h20, h⟩ := ite_out h
   ·obtain ⟨h21, h⟩|⟨h21, h⟩ := ite_out h
    ·obtain ⟨v36, h37, h⟩ := bo h
     obtain ⟨h39, h⟩|⟨h39, h⟩ := ite_out h
     ·obtain rfl := oi h; exact rl [0, 1, 4, 5, 7, 8] [] [.t, .row (c9 x18), .sum [0, 1, 4, 5, 7, 8, 9] [] (.exit 4) [(0, .sl 9 a1), (1, .sl 125 a2), (4, .e), (5, .z), (7, .x v36), (8, .j v16)] []] (pc h17<|pc (ob9 h19)<|pc (of_decide_eq_true h20)<|pc (of_decide_eq_true h21)<|pc (k_palingref43_Text_L3 _ _ h37)<|pc (of_decide_eq_true h39)<|pn)
     ·cases h
    ·cases h
   ·cases h
  ·obtain rfl := oi h; exact rl [4, 5, 7] [] [.f] (pc h17<|pn)
 ·exact Ex.noConfusion

theorem k_palingref43_Text {a1 : List ByteArray} {a2 : List (List Palingref43_Cell)} {r : ByteArray × Int} (h : palingref43_Text a1 a2 = some r) :
  CallsOK Tryz.prog UU 31 [.sl 9 a1, .sl 125 a2] [] (.tup [.x r.1, .j r.2]) [] := by
 unfold palingref43_Text at h
 obtain ⟨h3, h⟩|⟨h3, h⟩ := ite_out h
 ·obtain rfl := oi h; exact rf Tryz.func31 none [.t] (pc h3<|pn)
 ·obtain ⟨r4, h5, h⟩ := bo h
  obtain ⟨h6, h⟩|⟨h6, h⟩ := ite_out h
  ·obtain rfl := oi h; exact rf Tryz.func31 none [.f, .b r4, .t] (pc h3<|pc (k_palingref43_named h5)<|pc h6<|pn)
  ·obtain ⟨r13, h12, h⟩ := bo h
   rcases r13 with _ | _
   ·obtain rfl := oi h; exact rf Tryz.func31 none [.f, .b r4, .f, .sum [0, 1, 4, 5, 6] [] .ret [(4, .e), (5, .j 2)] []] (pc h3<|pc (k_palingref43_named h5)<|pc h6<|pc (k_palingref43_Text_L1 _ _ h12)<|pn)
   ·obtain ⟨h14, h⟩|⟨h14, h⟩ := ite_out h
    ·obtain rfl := oi h; exact rf Tryz.func31 none [.f, .b r4, .f, .sum [0, 1, 4, 5, 6] [] (.exit 0) [(0, .sl 9 a1), (1, .sl 125 a2), (4, .e), (5, .z)] [], .t] (pc h3<|pc (k_palingref43_named h5)<|pc h6<|pc (k_palingref43_Text_L1 _ _ h12)<|pc h14<|pn)
    ·obtain ⟨v41, h42, h⟩ := bo h
     obtain rfl := oi h; exact rf Tryz.func31 none [.f, .b r4, .f, .sum [0, 1, 4, 5, 6] [] (.exit 0) [(0, .sl 9 a1), (1, .sl 125 a2), (4, .e), (5, .z)] [], .f, .sum [0, 1, 4, 5, 7, 8] [] (.exit 2) [(4, .e), (5, .z), (7, .x v41)] []] (pc h3<|pc (k_palingref43_named h5)<|pc h6<|pc (k_palingref43_Text_L1 _ _ h12)<|pc h14<|pc (k_palingref43_Text_L2 _ _ h42)<|pn)

theorem k_palingref43_Apart_L2 {a1 : List (List Palingref43_Cell)} {v2 : Int} : LoopOK Tryz.prog UU 0 34 (subC (codeOf Tryz.f33) [1, 0, 1, 0, 0, 1, 0, 0, 1, 0, 0]) (ρ := Unit ⊕ Unit) (palingref43_Apart_L2 a1 v2)
  (fun v4 : Int => ([(0, .sl 125 a1), (2, .y false), (3, .j v2), (4, .j v4)] : Fr DD)) (fun v4 : Int => ([] : Heap DD)) (fun r => match r with | Sum.inl _ => .ret | Sum.inr _ => .exit 2) (fun r => match r with | Sum.inl _ => [(2, .y false)] | Sum.inr _ => [(0, .sl 125 a1), (2, .y false), (3, .j v2)]) (fun r => match r with | Sum.inl _ => [] | Sum.inr _ => []) := by
 refine loop_sound3 (fun s q h => ?_) (fun r => ?_)
 ·replace h : palingref43_Apart_L2 a1 v2 s = some q := h; revert h; revert s; intro v4 h
  unfold palingref43_Apart_L2 at h
  obtain ⟨x5, h6, h⟩ := bo h
  obtain ⟨h7, h⟩|⟨h7, h⟩ := ite_out h
  ·obtain ⟨h8, h⟩|⟨h8, h⟩ := ite_out h
   ·obtain ⟨x9, h10, h⟩ := bo h
    obtain ⟨x11, h12, h⟩ := bo h
    obtain ⟨h13, h⟩|⟨h13, h⟩ := ite_out h
    ·obtain rfl := oi h; exact rl [2] [] [.row (c125 x5), .t, .t, .row (c125 x9), .row (c126 x11), .t] (pc (ob125 h6)<|pc h7<|pc h8<|pc (ob125 h10)<|pc (ob126 h12)<|pc h13<|pn)
    ·obtain rfl := oi h; exact rl [0, 2, 3, 4] [] [.row (c125 x5), .t, .t, .row (c125 x9), .row (c126 x11), .f] (pc (ob125 h6)<|pc h7<|pc h8<|pc (ob125 h10)<|pc (ob126 h12)<|pc h13<|pn)
   ·obtain rfl := oi h; exact rl [0, 2, 3, 4] [] [.row (c125 x5), .t, .f] (pc (ob125 h6)<|pc h7<|pc h8<|pn)
  ·obtain rfl := oi h; exact rl [0, 2, 3] [] [.row (c125 x5), .f] (pc (ob125 h6)<|pc h7<|pn)
 ·rcases r with _ | _ <;> exact Ex.noConfusion

theorem k_palingref43_Apart_L1 {a1 : List (List Palingref43_Cell)} : LoopOK Tryz.prog UU 0 34 (subC (codeOf Tryz.f33) [1, 0, 1, 0, 0]) (ρ := Unit ⊕ Unit) (palingref43_Apart_L1 a1)
  (fun v2 : Int => ([(0, .sl 125 a1), (2, .y false), (3, .j v2)] : Fr DD)) (fun v2 : Int => ([] : Heap DD)) (fun r => match r with | Sum.inl _ => .ret | Sum.inr _ => .exit 0) (fun r => match r with | Sum.inl _ => [(2, .y false)] | Sum.inr _ => [(2, .y false)]) (fun r => match r with | Sum.inl _ => [] | Sum.inr _ => []) := by
 refine loop_sound3 (fun s q h => ?_) (fun r => ?_)
 ·replace h : palingref43_Apart_L1 a1 s = some q := h; revert h; revert s; intro v2 h
  unfold palingref43_Apart_L1 at h
  obtain ⟨h3, h⟩|⟨h3, h⟩ := ite_out h
  ·obtain ⟨r15, h14, h⟩ := bo h
   rcases r15 with _ | _
   ·obtain rfl := oi h; exact rl [2] [] [.t, .sum [0, 2, 3, 4] [] .ret [(2, .y false)] []] (pc h3<|pc (k_palingref43_Apart_L2 _ _ h14)<|pn)
   ·obtain rfl := oi h; exact rl [0, 2, 3] [] [.t, .sum [0, 2, 3, 4] [] (.exit 2) [(0, .sl 125 a1), (2, .y false), (3, .j v2)] []] (pc h3<|pc (k_palingref43_Apart_L2 _ _ h14)<|pn)
  ·obtain rfl := oi h; exact rl [2] [] [.f] (pc h3<|pn)
 ·rcases r with _ | _ <;> exact Ex.noConfusion

theorem k_palingref43_Apart {a1 : List (List Palingref43_Cell)} {r : Bool} (h : palingref43_Apart a1 = some r) :
  CallsOK Tryz.prog UU 33 [.sl 125 a1] [] (.y r) [] := by
 unfold palingref43_Apart at h
 obtain ⟨r17, h16, h⟩ := bo h
 rcases r17 with _ | _
 ·obtain rfl := oi h; exact rf Tryz.func33 none [.sum [0, 2, 3] [] .ret [(2, .y false)] []] (pc (k_palingref43_Apart_L1 _ _ h16)<|pn)
 ·obtain rfl := oi h; exact rf Tryz.func33 none [.sum [0, 2, 3] [] (.exit 0) [(2, .y false)] []] (pc (k_palingref43_Apart_L1 _ _ h16)<|pn)

theorem k_palinglaw43_MatrixTexts_L1 {a1 : List ByteArray} {a2 : List (List Matrix_Cell)} : LoopOK Tryz.prog UU 0 63 (subC (codeOf Tryz.f6) [1, 1, 0, 1, 0, 0]) (ρ := Bool ⊕ Unit) (palinglaw43_MatrixTexts_L1 a1 a2)
  (fun v11 : Int => ([(0, .sl 9 a1), (1, .sl 70 a2), (4, .y false), (5, .j v11)] : Fr DD)) (fun v11 : Int => ([] : Heap DD)) (fun r => match r with | Sum.inl v19 => .ret | Sum.inr _ => .exit 0) (fun r => match r with | Sum.inl v19 => [(4, .y v19)] | Sum.inr _ => [(0, .sl 9 a1), (1, .sl 70 a2), (4, .y false)]) (fun r => match r with | Sum.inl v19 => [] | Sum.inr _ => []) := by
 refine loop_sound3 (fun s q h => ?_) (fun r => ?_)
 ·replace h : palinglaw43_MatrixTexts_L1 a1 a2 s = some q := h; revert h; revert s; intro v11 h
  unfold palinglaw43_MatrixTexts_L1 at h
  obtain ⟨h12, h⟩|⟨h12, h⟩ := ite_out h
  ·obtain ⟨x13, h14, h⟩ := bo h
   obtain ⟨h15, h⟩|⟨h15, h⟩ := ite_out h
   ·obtain ⟨r16, h17, h⟩ := bo h
    obtain rfl := oi h; exact rl [4] [] [.t, .row (c70 x13), .t, .b r16] (pc h12<|pc (ob70 h14)<|pc h15<|pc (k_palinglaw43_works h17)<|pn)
   ·obtain rfl := oi h; exact rl [0, 1, 4, 5] [] [.t, .row (c70 x13), .f] (pc h12<|pc (ob70 h14)<|pc h15<|pn)
  ·obtain rfl := oi h; exact rl [0, 1, 4] [] [.f] (pc h12<|pn)
 ·rcases r with _ | _ <;> exact Ex.noConfusion

theorem k_palinglaw43_MatrixTexts {a1 : List ByteArray} {a2 : List (List Matrix_Cell)} {r : Bool} (h : palinglaw43_MatrixTexts a1 a2 = some r) :
  CallsOK Tryz.prog UU 6 [.sl 9 a1, .sl 70 a2] [] (.y r) [] := by
 unfold palinglaw43_MatrixTexts at h
 obtain ⟨h3, h⟩|⟨h3, h⟩ := ite_out h
 ·obtain ⟨r4, h5, h⟩ := bo h
  obtain rfl := oi h; exact rf Tryz.func6 none [.t, .b r4] (pc h3<|pc (k_palinglaw43_works h5)<|pn)
 ·obtain ⟨r6, h7, h⟩ := bo h
  obtain ⟨h8, h⟩|⟨h8, h⟩ := ite_out h
  ·obtain ⟨r9, h10, h⟩ := bo h
   obtain rfl := oi h; exact rf Tryz.func6 none [.f, .b r6, .t, .b r9] (pc h3<|pc (k_palinglaw43_long h7)<|pc h8<|pc (k_palinglaw43_works h10)<|pn)
  ·obtain ⟨r21, h20, h⟩ := bo h
   rcases r21 with v19 | _
   ·obtain rfl := oi h; exact rf Tryz.func6 none [.f, .b r6, .f, .sum [0, 1, 4, 5] [] .ret [(4, .y v19)] []] (pc h3<|pc (k_palinglaw43_long h7)<|pc h8<|pc (k_palinglaw43_MatrixTexts_L1 _ _ h20)<|pn)
   ·obtain ⟨r22, h23, h⟩ := bo h
    obtain ⟨l26, h25, h⟩ := bo h
    obtain ⟨r27, h28, h⟩ := bo h
    obtain ⟨h29, h⟩|⟨h29, h⟩ := ite_out h
    ·obtain ⟨h30, h⟩|⟨h30, h⟩ := ite_out h
     ·obtain ⟨r31, h32, h⟩ := bo h
      obtain ⟨l35, h34, h⟩ := bo h
      obtain ⟨r36, h37, h⟩ := bo h
      obtain ⟨h38, h⟩|⟨h38, h⟩ := ite_out h
      ·obtain ⟨r39, h40, h⟩ := bo h
       obtain rfl := oi h; exact rf Tryz.func6 none [.f, .b r6, .f, .sum [0, 1, 4, 5] [] (.exit 0) [(0, .sl 9 a1), (1, .sl 70 a2), (4, .y false)] [], .callv (.tup [.x r22.1, .j r22.2]), .callm [] (.os 0 l26.length) [.w 125 l26], .callv (.tup [.x r27.1, .j r27.2]), .t, .t, .b r31, .callm [] (.os 0 l35.length) [.w 125 l35], .b r36, .t, .b r39] (pc h3<|pc (k_palinglaw43_long h7)<|pc h8<|pc (k_palinglaw43_MatrixTexts_L1 _ _ h20)<|pc (k_matrix_Text h23)<|pc (k_palinglaw43_told h25)<|pc (k_palingref43_Text h28)<|pc (rn l26.length)<|pc h29<|pc h30<|pc (k_matrix_Apart h32)<|pc (k_palinglaw43_told h34)<|pc (k_palingref43_Apart h37)<|pc (rn l35.length)<|pc h38<|pc (k_palinglaw43_works h40)<|pn)
      ·obtain rfl := oi h; exact rf Tryz.func6 none [.f, .b r6, .f, .sum [0, 1, 4, 5] [] (.exit 0) [(0, .sl 9 a1), (1, .sl 70 a2), (4, .y false)] [], .callv (.tup [.x r22.1, .j r22.2]), .callm [] (.os 0 l26.length) [.w 125 l26], .callv (.tup [.x r27.1, .j r27.2]), .t, .t, .b r31, .callm [] (.os 0 l35.length) [.w 125 l35], .b r36, .f] (pc h3<|pc (k_palinglaw43_long h7)<|pc h8<|pc (k_palinglaw43_MatrixTexts_L1 _ _ h20)<|pc (k_matrix_Text h23)<|pc (k_palinglaw43_told h25)<|pc (k_palingref43_Text h28)<|pc (rn l26.length)<|pc h29<|pc h30<|pc (k_matrix_Apart h32)<|pc (k_palinglaw43_told h34)<|pc (k_palingref43_Apart h37)<|pc (rn l35.length)<|pc h38<|pn)
     ·obtain rfl := oi h; exact rf Tryz.func6 none [.f, .b r6, .f, .sum [0, 1, 4, 5] [] (.exit 0) [(0, .sl 9 a1), (1, .sl 70 a2), (4, .y false)] [], .callv (.tup [.x r22.1, .j r22.2]), .callm [] (.os 0 l26.length) [.w 125 l26], .callv (.tup [.x r27.1, .j r27.2]), .t, .f] (pc h3<|pc (k_palinglaw43_long h7)<|pc h8<|pc (k_palinglaw43_MatrixTexts_L1 _ _ h20)<|pc (k_matrix_Text h23)<|pc (k_palinglaw43_told h25)<|pc (k_palingref43_Text h28)<|pc (rn l26.length)<|pc h29<|pc h30<|pn)
    ·obtain rfl := oi h; exact rf Tryz.func6 none [.f, .b r6, .f, .sum [0, 1, 4, 5] [] (.exit 0) [(0, .sl 9 a1), (1, .sl 70 a2), (4, .y false)] [], .callv (.tup [.x r22.1, .j r22.2]), .callm [] (.os 0 l26.length) [.w 125 l26], .callv (.tup [.x r27.1, .j r27.2]), .f] (pc h3<|pc (k_palinglaw43_long h7)<|pc h8<|pc (k_palinglaw43_MatrixTexts_L1 _ _ h20)<|pc (k_matrix_Text h23)<|pc (k_palinglaw43_told h25)<|pc (k_palingref43_Text h28)<|pc (rn l26.length)<|pc h29<|pn)

end Go.Eng
