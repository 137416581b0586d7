/- Part of the proof of AuditOrder: printed mirrors of the functions, or their contracts. No conditions. -/
import Derived.Test.YtdlaaoajcoogbaaGreatDoorMAK1
set_option linter.unusedVariables false
set_option maxRecDepth 100000
namespace Go.Eng
open Go Go.Proofs
theorem k_slices_IndexFunc_Domain_Domain_1_L1 {a1 : List Api_Domain} {a2 : Int} {a3 : Int} : LoopOK Tryz.prog UU 0 19 (subC (codeOf Tryz.f101) [1, 0, 1, 0, 0]) (ρ := Int ⊕ Unit) (slices_IndexFunc_Domain_Domain_1_L1 a1 a2 a3)
  (fun v4 : Int => ([(0, .sl 63 a1), (1, .fn (.func 152) [] [.rp (c3 a2) 0, .rp (c3 a3) 0]), (4, .z), (7, .j (a1.length : Int)), (8, .j v4)] : Fr DD)) (fun v4 : Int => ([] : Heap DD)) (fun r => match r with | Sum.inl v12 => .ret | Sum.inr _ => .exit 0) (fun r => match r with | Sum.inl v12 => [(4, .j v12)] | Sum.inr _ => [(4, .z)]) (fun r => match r with | Sum.inl v12 => [] | Sum.inr _ => []) := by
 refine loop_sound3 (fun s q h => ?_) (fun r => ?_)
 ·replace h : slices_IndexFunc_Domain_Domain_1_L1 a1 a2 a3 s = some q := h; revert h; revert s; intro v4 h
  unfold slices_IndexFunc_Domain_Domain_1_L1 at h
  obtain ⟨h5, h⟩|⟨h5, h⟩ := ite_out h
  ·obtain ⟨x6, h7, h⟩ := bo h
   obtain ⟨r8, h9, h⟩ := bo h
   obtain ⟨h10, h⟩|⟨h10, h⟩ := ite_out h
   ·obtain rfl := oi h; exact rl [4] [] [.t, .row (c63 x6), .b r8, .t] (pc h5<|pc (ob63 h7)<|pc (k_names_Domain_1 h9)<|pc h10<|pn)
   ·obtain rfl := oi h; exact rl [0, 1, 4, 7, 8] [] [.t, .row (c63 x6), .b r8, .f] (pc h5<|pc (ob63 h7)<|pc (k_names_Domain_1 h9)<|pc h10<|pn)
  ·obtain rfl := oi h; exact rl [4] [] [.f] (pc h5<|pn)
 ·rcases r with _ | _ <;> exact Ex.noConfusion

theorem k_slices_IndexFunc_Domain_Domain_1 {a1 : List Api_Domain} {a2 : Int} {a3 : Int} {r : Int} (h : slices_IndexFunc_Domain_Domain_1 a1 a2 a3 = some r) :
  CallsOK Tryz.prog UU 101 [.sl 63 a1, .fn (.func 152) [] [.rp (c3 a2) 0, .rp (c3 a3) 0]] [] (.j r) [] := by
 unfold slices_IndexFunc_Domain_Domain_1 at h
 obtain ⟨r14, h13, h⟩ := bo h
 rcases r14 with v12 | _
 ·obtain rfl := oi h; exact rf Tryz.func101 none [.sum [0, 1, 4, 7, 8] [] .ret [(4, .j v12)] []] (pc (k_slices_IndexFunc_Domain_Domain_1_L1 _ _ h13)<|pn)
 ·obtain rfl := oi h; exact rf Tryz.func101 none [.sum [0, 1, 4, 7, 8] [] (.exit 0) [(4, .z)] []] (pc (k_slices_IndexFunc_Domain_Domain_1_L1 _ _ h13)<|pn)

theorem k_names_find_Domain_Domain_1 {a1 : Api_Net} {a2 : List Api_Domain} {a3 : Int} {a4 : Int} {r : Int} (h : names_find_Domain_Domain_1 a1 a2 a3 a4 = some r) :
  CallsOK Tryz.prog UU 151 [.agg (c31 a1), .sl 63 a2, .fn (.func 152) [] [.rp (c3 a3) 0, .rp (c3 a4) 0]] [] (.j r) [] := by
 unfold names_find_Domain_Domain_1 at h
 obtain ⟨r5, h6, h⟩ := bo h
 obtain ⟨h7, h⟩|⟨h7, h⟩ := ite_out h
 ·obtain rfl := oi h; exact rf Tryz.func151 none [.b r5, .t] (pc (k_names_Right h6)<|pc h7<|pn)
 ·obtain ⟨r8, h9, h⟩ := bo h
  obtain rfl := oi h; exact rf Tryz.func151 none [.b r5, .f, .callv (.j r8)] (pc (k_names_Right h6)<|pc h7<|pc (k_slices_IndexFunc_Domain_Domain_1 h9)<|pn)

theorem k_names_Domain {a1 : Api_Net} {a2 : Int} {a3 : Int} {r : Int} (h : names_Domain a1 a2 a3 = some r) :
  CallsOK Tryz.prog UU 146 [.agg (c31 a1), .j a2, .j a3] [] (.j r) [] := by
 unfold names_Domain at h
 obtain ⟨r4, h5, h⟩ := bo h
 obtain rfl := oi h; exact rf Tryz.func146 none [.callv (.j r4)] (pc (k_names_find_Domain_Domain_1 h5)<|pn)

theorem k_links_Domain {a1 : Api_Net} {a2 : Int} {a3 : Int} {r : Int × Bool} (h : links_Domain a1 a2 a3 = some r) :
  CallsOK Tryz.prog UU 140 [.agg (c31 a1), .j a2, .j a3] [] (.tup [.j r.1, .y r.2]) [] := by
 unfold links_Domain at h
 obtain ⟨r4, h5, h⟩ := bo h
 obtain ⟨h6, h⟩|⟨h6, h⟩ := ite_out h
 ·obtain rfl := oi h; exact rf Tryz.func140 none [.callv (.tup [.j r4.1, .j r4.2.1, .y r4.2.2]), .t] (pc (k_links_Cross h5)<|pc h6<|pn)
 ·obtain ⟨x7, h8, h⟩ := bo h
  obtain ⟨r9, h10, h⟩ := bo h
  obtain rfl := oi h; exact rf Tryz.func140 none [.callv (.tup [.j r4.1, .j r4.2.1, .y r4.2.2]), .f, .row (c52 x7), .callv (.j r9)] (pc (k_links_Cross h5)<|pc h6<|pc (ob52 h8)<|pc (k_names_Domain h10)<|pn)

theorem k_reach_Hops_L1 {a1 : Api_Net} {a2 : Int} {l8 : List Int} : LoopOK Tryz.prog UU 0 62 (subC (codeOf Tryz.f123) [1, 1, 1, 0, 1, 0, 0]) (fun s : (List Reach_Hop) × Int => match s with | (l9, v10) => reach_Hops_L1 a1 a2 l8 l9 v10)
  (fun s : (List Reach_Hop) × Int => (match s with | (l9, v10) => [(1, .j a2), (2, .o 0), (4, .os 1 0), (5, .os 2 l9.length), (18, .os 3 l8.length), (19, .j (l8.length : Int)), (20, .j v10)] : Fr DD)) (fun s : (List Reach_Hop) × Int => (match s with | (l9, v10) => [.box 31 (c31 a1) false, .n 151, .w 151 l9, .w 3 l8] : Heap DD)) (fun r => match r with | l25 => .exit 0) (fun r => match r with | l25 => [(1, .j a2), (2, .o 0), (4, .os 1 0), (5, .os 2 l25.length)]) (fun r => match r with | l25 => [.box 31 (c31 a1) false, .n 151, .w 151 l25]) := by
 refine loop_sound3 (fun s q h => ?_) (fun r => ?_)
 ·obtain ⟨l9, v10⟩ := s; replace h : reach_Hops_L1 a1 a2 l8 l9 v10 = some q := h
  unfold reach_Hops_L1 at h
  obtain ⟨h11, h⟩|⟨h11, h⟩ := ite_out h
  ·obtain ⟨h12, h⟩|⟨h12, h⟩ := ite_out h
   ·obtain ⟨x13, h14, h⟩ := bo h
    obtain ⟨x15, h16, h⟩ := bo h
    obtain ⟨r17, h18, h⟩ := bo h
    obtain ⟨h19, h⟩|⟨h19, h⟩ := ite_out h
    ·obtain ⟨h20, h⟩|⟨h20, h⟩ := ite_out h
     ·obtain rfl := oi h; exact rl [1, 2, 4, 5, 18, 19, 20] [0, 1, 2, 3] [.t, .row (c3 x13), .row (c63 x15), .callv (.tup [.j r17.1, .y r17.2]), .t, .obj [] (.w 151 [(⟨1, x13, r17.1, 0⟩ : Reach_Hop)]), .obj [] (.w 151 (l9 ++ [(⟨1, x13, r17.1, 0⟩ : Reach_Hop)]))] (pc h11<|pc (an l8.length (lin_ob h12))<|pc (an l8.length (obn3 h14))<|pc (ob63 h16)<|pc (k_links_Domain h18)<|pc h19<|pc (bs_ob 151 [(⟨1, x13, r17.1, 0⟩ : Reach_Hop)])<|pc (app_ob 151 (n := l9.length) (l := l9) (xs := [(⟨1, x13, r17.1, 0⟩ : Reach_Hop)]) h20)<|pc (rn (List.length [(⟨1, x13, r17.1, 0⟩ : Reach_Hop)]))<|pn)
     ·cases h
    ·obtain rfl := oi h; exact rl [1, 2, 4, 5, 18, 19, 20] [0, 1, 2, 3] [.t, .row (c3 x13), .row (c63 x15), .callv (.tup [.j r17.1, .y r17.2]), .f] (pc h11<|pc (an l8.length (lin_ob h12))<|pc (an l8.length (obn3 h14))<|pc (ob63 h16)<|pc (k_links_Domain h18)<|pc h19<|pn)
   ·cases h
  ·obtain rfl := oi h; exact rl [1, 2, 4, 5] [0, 1, 2] [.f] (pc h11<|pn)
 ·exact Ex.noConfusion

theorem k_reach_Hops_L2 {x28 : Api_Domain} : LoopOK Tryz.prog UU 0 62 (subC (codeOf Tryz.f123) [1, 1, 1, 1, 0, 1, 0, 0]) (fun s : (List Reach_Hop) × Int => match s with | (l30, v31) => reach_Hops_L2 x28 l30 v31)
  (fun s : (List Reach_Hop) × Int => (match s with | (l30, v31) => [(4, .os 0 0), (5, .os 1 l30.length), (49, .sl 3 x28.peers), (50, .j (x28.peers.length : Int)), (51, .j v31)] : Fr DD)) (fun s : (List Reach_Hop) × Int => (match s with | (l30, v31) => [.n 151, .w 151 l30] : Heap DD)) (fun r => match r with | l38 => .exit 2) (fun r => match r with | l38 => [(4, .os 0 0), (5, .os 1 l38.length)]) (fun r => match r with | l38 => [.n 151, .w 151 l38]) := by
 refine loop_sound3 (fun s q h => ?_) (fun r => ?_)
 ·obtain ⟨l30, v31⟩ := s; replace h : reach_Hops_L2 x28 l30 v31 = some q := h
  unfold reach_Hops_L2 at h
  obtain ⟨h32, h⟩|⟨h32, h⟩ := ite_out h
  ·obtain ⟨x33, h34, h⟩ := bo h
   obtain ⟨h35, h⟩|⟨h35, h⟩ := ite_out h
   ·obtain rfl := oi h; exact rl [4, 5, 49, 50, 51] [0, 1] [.t, .row (c3 x33), .obj [] (.w 151 [(⟨2, 0, x33, 0⟩ : Reach_Hop)]), .obj [] (.w 151 (l30 ++ [(⟨2, 0, x33, 0⟩ : Reach_Hop)]))] (pc h32<|pc (ob3 h34)<|pc (bs_ob 151 [(⟨2, 0, x33, 0⟩ : Reach_Hop)])<|pc (app_ob 151 (n := l30.length) (l := l30) (xs := [(⟨2, 0, x33, 0⟩ : Reach_Hop)]) h35)<|pc (rn (List.length [(⟨2, 0, x33, 0⟩ : Reach_Hop)]))<|pn)
   ·cases h
  ·obtain rfl := oi h; exact rl [4, 5] [0, 1] [.f] (pc h32<|pn)
 ·exact Ex.noConfusion

theorem k_reach_Hops {a1 : Api_Net} {a2 : Int} {r : ((List Reach_Hop))} (h : reach_Hops a1 a2 = some r) :
  CallsOK Tryz.prog UU 123 [.agg (c31 a1), .j a2] [] ((fun r => match r with | l41 => .os 0 l41.length) r) ((fun r => match r with | l41 => [.w 151 l41]) r) := by
 unfold reach_Hops at h
 obtain ⟨r3, h4, h⟩ := bo h
 obtain ⟨h5, h⟩|⟨h5, h⟩ := ite_out h
 ·obtain rfl := oi h; exact rf Tryz.func123 (some [2]) [.b r3, .t] (pc (k_reach_place h4)<|pc h5<|pn)
 ·obtain ⟨l8, h7, h⟩ := bo h
  obtain ⟨l25, h26, h⟩ := bo h
  obtain ⟨x28, h29, h⟩ := bo h
  obtain ⟨l38, h39, h⟩ := bo h
  obtain rfl := oi h; exact rf Tryz.func123 (some [1]) [.b r3, .f, .callo (.os 0 l8.length) [.w 3 l8], .sum [1, 2, 4, 5, 18, 19, 20] [0, 1, 2, 3] (.exit 0) [(1, .j a2), (2, .o 0), (4, .os 1 0), (5, .os 2 l25.length)] [.box 31 (c31 a1) false, .n 151, .w 151 l25], .row (c63 x28), .sum [4, 5, 49, 50, 51] [1, 2] (.exit 2) [(4, .os 0 0), (5, .os 1 l38.length)] [.n 151, .w 151 l38]] (pc (k_reach_place h4)<|pc h5<|pc (k_names_Members h7)<|pc (im3 l8)<|pc (rn l8.length)<|pc (k_reach_Hops_L1 _ _ h26)<|pc (ob63 h29)<|pc (k_reach_Hops_L2 _ _ h39)<|pn)

theorem k_reach_find_J3 {a1 : Api_Net} {a2 : Int} {a3 : Int} {n7 : Nat} {v20 : Int} {x23 : Int} {l27 : List Reach_Hop} {l28 : List Int} {l29 : List Reach_Hop} {l30 : List Int} {l31 : List Int} {v32 : Int} {x35 : Reach_Hop} {r : Unit ⊕ Unit} (h : reach_find_J3 a1 a2 a3 n7 v20 x23 l27 l28 l29 l30 l31 v32 x35 = some r) :
  ExecOK Tryz.prog UU 0 120 (subC (codeOf Tryz.f105) [1, 0, 1, 1, 1, 1, 1, 0, 1, 0, 0, 1, 0, 0, 1, 1, 0, 0, 1, 1, 0, 0, 1, 0]) [(1, .j a2), (2, .j a3), (3, .o 0), (6, .v (.pointer none)), (8, .o 1), (9, .os 5 l31.length), (10, .j v20), (11, .j x23), (13, .o 6), (54, .os 7 l27.length), (55, .j (l27.length : Int)), (56, .j v32)] [.box 31 (c31 a1) false, .box 137 [.os 2 n7, .os 3 (List.length (List.replicate (Int.toNat (a1.domains.length : Int)) (⟨0, 0, 0, 0⟩ : Reach_Hop))), .os 4 (List.length (List.replicate (Int.toNat (a1.domains.length : Int)) (0 : Int)))] false, .arr 3 l28 n7 false, .arr 151 l29 (List.length (List.replicate (Int.toNat (a1.domains.length : Int)) (⟨0, 0, 0, 0⟩ : Reach_Hop))) false, .arr 3 l30 (List.length (List.replicate (Int.toNat (a1.domains.length : Int)) (0 : Int))) false, .w 3 l31, .box 151 (c151 x35) false, .w 151 l27] ((fun r => match r with | Sum.inl _ => .exit 0 | Sum.inr _ => .nor) r) ((fun r => match r with | Sum.inl _ => [(6, .v (.pointer none)), (8, .o 0)] | Sum.inr _ => [(1, .j a2), (2, .j a3), (3, .o 0), (6, .v (.pointer none)), (8, .o 1), (9, .os 5 l31.length), (10, .j v20), (11, .j x23), (13, .o 6), (54, .os 7 l27.length), (55, .j (l27.length : Int)), (56, .j v32)]) r) ((fun r => match r with | Sum.inl _ => [.box 137 [.os 1 n7, .os 2 (List.length (List.replicate (Int.toNat (a1.domains.length : Int)) (⟨0, 0, 0, 0⟩ : Reach_Hop))), .os 3 (List.length (List.replicate (Int.toNat (a1.domains.length : Int)) (0 : Int)))] false, .arr 3 l28 n7 false, .arr 151 l29 (List.length (List.replicate (Int.toNat (a1.domains.length : Int)) (⟨0, 0, 0, 0⟩ : Reach_Hop))) false, .arr 3 l30 (List.length (List.replicate (Int.toNat (a1.domains.length : Int)) (0 : Int))) false] | Sum.inr _ => [.box 31 (c31 a1) false, .box 137 [.os 2 n7, .os 3 (List.length (List.replicate (Int.toNat (a1.domains.length : Int)) (⟨0, 0, 0, 0⟩ : Reach_Hop))), .os 4 (List.length (List.replicate (Int.toNat (a1.domains.length : Int)) (0 : Int)))] false, .arr 3 l28 n7 false, .arr 151 l29 (List.length (List.replicate (Int.toNat (a1.domains.length : Int)) (⟨0, 0, 0, 0⟩ : Reach_Hop))) false, .arr 3 l30 (List.length (List.replicate (Int.toNat (a1.domains.length : Int)) (0 : Int))) false, .w 3 l31, .box 151 (c151 x35) false, .w 151 l27]) r) := by
 unfold reach_find_J3 at h
 obtain ⟨h37, h⟩|⟨h37, h⟩ := ite_out h
 ·obtain ⟨x38, h39, h⟩ := bo h
  obtain ⟨h40, h⟩|⟨h40, h⟩ := ite_out h
  ·obtain ⟨h41, h⟩|⟨h41, h⟩ := ite_out h
   ·obtain rfl := oi h; exact rl [6, 8] [1, 2, 3, 4] [.row (c3 x38), .t, .t] (pc (an n7 (lin_ob h37))<|pc (an n7 (obn3 h39))<|pc h40<|pc h41<|pn)
   ·obtain rfl := oi h; exact rl [1, 2, 3, 6, 8, 9, 10, 11, 13, 54, 55, 56] [0, 1, 2, 3, 4, 5, 6, 7] [.row (c3 x38), .t, .f] (pc (an n7 (lin_ob h37))<|pc (an n7 (obn3 h39))<|pc h40<|pc h41<|pn)
  ·obtain rfl := oi h; exact rl [1, 2, 3, 6, 8, 9, 10, 11, 13, 54, 55, 56] [0, 1, 2, 3, 4, 5, 6, 7] [.row (c3 x38), .f] (pc (an n7 (lin_ob h37))<|pc (an n7 (obn3 h39))<|pc h40<|pn)
 ·cases h

theorem k_reach_find_L2 {a1 : Api_Net} {a2 : Int} {a3 : Int} {n7 : Nat} {v20 : Int} {x23 : Int} {l27 : List Reach_Hop} : LoopOK Tryz.prog UU 0 120 (subC (codeOf Tryz.f105) [1, 0, 1, 1, 1, 1, 1, 0, 1, 0, 0, 1, 0, 0, 1, 1, 0, 0]) (fun s : (List Int) × (List Reach_Hop) × (List Int) × (List Int) × Int => match s with | (l28, l29, l30, l31, v32) => reach_find_L2 a1 a2 a3 n7 v20 x23 l27 l28 l29 l30 l31 v32)
  (fun s : (List Int) × (List Reach_Hop) × (List Int) × (List Int) × Int => (match s with | (l28, l29, l30, l31, v32) => [(1, .j a2), (2, .j a3), (3, .o 0), (6, .v (.pointer none)), (8, .o 1), (9, .os 5 l31.length), (10, .j v20), (11, .j x23), (54, .os 6 l27.length), (55, .j (l27.length : Int)), (56, .j v32)] : Fr DD)) (fun s : (List Int) × (List Reach_Hop) × (List Int) × (List Int) × Int => (match s with | (l28, l29, l30, l31, v32) => [.box 31 (c31 a1) false, .box 137 [.os 2 n7, .os 3 (List.length (List.replicate (Int.toNat (a1.domains.length : Int)) (⟨0, 0, 0, 0⟩ : Reach_Hop))), .os 4 (List.length (List.replicate (Int.toNat (a1.domains.length : Int)) (0 : Int)))] false, .arr 3 l28 n7 false, .arr 151 l29 (List.length (List.replicate (Int.toNat (a1.domains.length : Int)) (⟨0, 0, 0, 0⟩ : Reach_Hop))) false, .arr 3 l30 (List.length (List.replicate (Int.toNat (a1.domains.length : Int)) (0 : Int))) false, .w 3 l31, .w 151 l27] : Heap DD)) (fun r => match r with | Sum.inl (l66, l67, l68) => .exit 0 | Sum.inr (l97, l98, l99, l100) => .exit 2) (fun r => match r with | Sum.inl (l66, l67, l68) => [(6, .v (.pointer none)), (8, .o 0)] | Sum.inr (l97, l98, l99, l100) => [(1, .j a2), (2, .j a3), (3, .o 0), (6, .v (.pointer none)), (8, .o 1), (9, .os 5 l100.length), (10, .j v20)]) (fun r => match r with | Sum.inl (l66, l67, l68) => [.box 137 [.os 1 n7, .os 2 (List.length (List.replicate (Int.toNat (a1.domains.length : Int)) (⟨0, 0, 0, 0⟩ : Reach_Hop))), .os 3 (List.length (List.replicate (Int.toNat (a1.domains.length : Int)) (0 : Int)))] false, .arr 3 l66 n7 false, .arr 151 l67 (List.length (List.replicate (Int.toNat (a1.domains.length : Int)) (⟨0, 0, 0, 0⟩ : Reach_Hop))) false, .arr 3 l68 (List.length (List.replicate (Int.toNat (a1.domains.length : Int)) (0 : Int))) false] | Sum.inr (l97, l98, l99, l100) => [.box 31 (c31 a1) false, .box 137 [.os 2 n7, .os 3 (List.length (List.replicate (Int.toNat (a1.domains.length : Int)) (⟨0, 0, 0, 0⟩ : Reach_Hop))), .os 4 (List.length (List.replicate (Int.toNat (a1.domains.length : Int)) (0 : Int)))] false, .arr 3 l97 n7 false, .arr 151 l98 (List.length (List.replicate (Int.toNat (a1.domains.length : Int)) (⟨0, 0, 0, 0⟩ : Reach_Hop))) false, .arr 3 l99 (List.length (List.replicate (Int.toNat (a1.domains.length : Int)) (0 : Int))) false, .w 3 l100]) := by
 refine loop_sound3 (fun s q h => ?_) (fun r => ?_)
 ·obtain ⟨l28, l29, l30, l31, v32⟩ := s; replace h : reach_find_L2 a1 a2 a3 n7 v20 x23 l27 l28 l29 l30 l31 v32 = some q := h
  unfold reach_find_L2 at h
  obtain ⟨h33, h⟩|⟨h33, h⟩ := ite_out h
  ·obtain ⟨h34, h⟩|⟨h34, h⟩ := ite_out h
   ·obtain ⟨x35, h36, h⟩ := bo h
    obtain ⟨r43, h42, h⟩ := bo h
    rcases r43 with _ | _
    ·obtain rfl := oi h; exact rl [6, 8] [0, 1, 2, 3] [.t, .row (c151 x35), .cut [1, 2, 3, 6, 8, 9, 10, 11, 13, 54, 55, 56] [0, 1, 2, 3, 4, 5, 7, 6] (.exit 0) [(6, .v (.pointer none)), (8, .o 0)] [.box 137 [.os 1 n7, .os 2 (List.length (List.replicate (Int.toNat (a1.domains.length : Int)) (⟨0, 0, 0, 0⟩ : Reach_Hop))), .os 3 (List.length (List.replicate (Int.toNat (a1.domains.length : Int)) (0 : Int)))] false, .arr 3 l28 n7 false, .arr 151 l29 (List.length (List.replicate (Int.toNat (a1.domains.length : Int)) (⟨0, 0, 0, 0⟩ : Reach_Hop))) false, .arr 3 l30 (List.length (List.replicate (Int.toNat (a1.domains.length : Int)) (0 : Int))) false]] (pc h33<|pc (an l27.length (lin_ob h34))<|pc (an l27.length (obn151 h36))<|pc (k_reach_find_J3 h42)<|pn)
    ·obtain ⟨h44, h⟩|⟨h44, h⟩ := ite_out h
     ·obtain ⟨x45, h46, h⟩ := bo h
      obtain ⟨h47, h⟩|⟨h47, h⟩ := ite_out h
      ·obtain ⟨h48, h⟩|⟨h48, h⟩ := ite_out h
       ·obtain ⟨x49, h50, h⟩ := bo h
        obtain ⟨x51, h52, h⟩ := bo h
        obtain ⟨h53, h⟩|⟨h53, h⟩ := ite_out h
        ·obtain ⟨x54, h55, h⟩ := bo h
         obtain ⟨h56, h⟩|⟨h56, h⟩ := ite_out h
         ·obtain ⟨x57, h58, h⟩ := bo h
          obtain ⟨h59, h⟩|⟨h59, h⟩ := ite_out h
          ·obtain rfl := oi h; exact rl [1, 2, 3, 6, 8, 9, 10, 11, 54, 55, 56] [0, 1, 2, 3, 4, 5, 7] [.t, .row (c151 x35), .cut [1, 2, 3, 6, 8, 9, 10, 11, 13, 54, 55, 56] [0, 1, 2, 3, 4, 5, 7, 6] .nor [(1, .j a2), (2, .j a3), (3, .o 0), (6, .v (.pointer none)), (8, .o 1), (9, .os 5 l31.length), (10, .j v20), (11, .j x23), (13, .o 6), (54, .os 7 l27.length), (55, .j (l27.length : Int)), (56, .j v32)] [.box 31 (c31 a1) false, .box 137 [.os 2 n7, .os 3 (List.length (List.replicate (Int.toNat (a1.domains.length : Int)) (⟨0, 0, 0, 0⟩ : Reach_Hop))), .os 4 (List.length (List.replicate (Int.toNat (a1.domains.length : Int)) (0 : Int)))] false, .arr 3 l28 n7 false, .arr 151 l29 (List.length (List.replicate (Int.toNat (a1.domains.length : Int)) (⟨0, 0, 0, 0⟩ : Reach_Hop))) false, .arr 3 l30 (List.length (List.replicate (Int.toNat (a1.domains.length : Int)) (0 : Int))) false, .w 3 l31, .box 151 (c151 x35) false, .w 151 l27], .row (c3 x45), .t, .sum [29] [] .nor [] [.box 31 (c31 a1) false, .box 137 [.os 2 n7, .os 3 (List.length (List.replicate (Int.toNat (a1.domains.length : Int)) (⟨0, 0, 0, 0⟩ : Reach_Hop))), .os 4 (List.length (List.replicate (Int.toNat (a1.domains.length : Int)) (0 : Int)))] false, .arr 3 (List.set l28 (Int.toNat x35.domain) (wr_i64 (x49 + 1) : Int)) n7 false, .arr 151 l29 (List.length (List.replicate (Int.toNat (a1.domains.length : Int)) (⟨0, 0, 0, 0⟩ : Reach_Hop))) false, .arr 3 l30 (List.length (List.replicate (Int.toNat (a1.domains.length : Int)) (0 : Int))) false, .w 3 l31, .box 151 (c151 x35) false, .w 151 l27], .sum [31] [] .nor [] [.box 31 (c31 a1) false, .box 137 [.os 2 n7, .os 3 (List.length (List.replicate (Int.toNat (a1.domains.length : Int)) (⟨0, 0, 0, 0⟩ : Reach_Hop))), .os 4 (List.length (List.replicate (Int.toNat (a1.domains.length : Int)) (0 : Int)))] false, .arr 3 (List.set l28 (Int.toNat x35.domain) (wr_i64 (x49 + 1) : Int)) n7 false, .arr 151 (List.set l29 (Int.toNat x35.domain) x35) (List.length (List.replicate (Int.toNat (a1.domains.length : Int)) (⟨0, 0, 0, 0⟩ : Reach_Hop))) false, .arr 3 l30 (List.length (List.replicate (Int.toNat (a1.domains.length : Int)) (0 : Int))) false, .w 3 l31, .box 151 (c151 x35) false, .w 151 l27], .row (c3 x49), .row (c3 x51), .obj [] (.arr 3 (List.set l28 (Int.toNat x35.domain) (wr_i64 (x49 + 1) : Int)) n7 false), .row (c151 x54), .obj [] (.arr 151 (List.set l29 (Int.toNat x35.domain) x35) (List.length (List.replicate (Int.toNat (a1.domains.length : Int)) (⟨0, 0, 0, 0⟩ : Reach_Hop))) false), .row (c3 x57), .obj [] (.arr 3 (List.set l30 (Int.toNat x35.domain) x23) (List.length (List.replicate (Int.toNat (a1.domains.length : Int)) (0 : Int))) false), .obj [] (.w 3 [x35.domain]), .obj [] (.w 3 (l31 ++ [x35.domain]))] (pc h33<|pc (an l27.length (lin_ob h34))<|pc (an l27.length (obn151 h36))<|pc (k_reach_find_J3 h42)<|pc (an n7 (lin_ob h44))<|pc (an n7 (obn3 h46))<|pc h47<|pc (rr (.op 6 1 0 2))<|pc (rr (.j x35.domain))<|pd (rr (.op 6 1 0 2))<|pd (rr (.j x35.domain))<|pc (an n7 (lin_ob h48))<|pc (an n7 (obn3 h50))<|pc (rr (.agg [.j x35.kind, .j x35.port, .j x35.domain, .v (.int .u32 x35.addr)]))<|pd (rr (.j x23))<|pc (an n7 (lin_ob h44))<|pc (rh [.box 31 (c31 a1) false, .box 137 [.os 2 n7, .os 3 (List.length (List.replicate (Int.toNat (a1.domains.length : Int)) (⟨0, 0, 0, 0⟩ : Reach_Hop))), .os 4 (List.length (List.replicate (Int.toNat (a1.domains.length : Int)) (0 : Int)))] false, .arr 3 (List.set l28 (Int.toNat x35.domain) (wr_i64 (x49 + 1) : Int)) n7 false, .arr 151 l29 (List.length (List.replicate (Int.toNat (a1.domains.length : Int)) (⟨0, 0, 0, 0⟩ : Reach_Hop))) false, .arr 3 l30 (List.length (List.replicate (Int.toNat (a1.domains.length : Int)) (0 : Int))) false, .w 3 l31, .box 151 (c151 x35) false, .w 151 l27])<|pc (st_ob (e := 3) (n := n7) (l := l28) (i := (Int.toNat x35.domain)) (wr_i64 (x49 + 1) : Int) [.j (wr_i64 (x49 + 1))] (obn3 h52) rfl)<|pc (an (List.length (List.replicate (Int.toNat (a1.domains.length : Int)) (⟨0, 0, 0, 0⟩ : Reach_Hop))) (lin_ob h53))<|pc (rh [.box 31 (c31 a1) false, .box 137 [.os 2 n7, .os 3 (List.length (List.replicate (Int.toNat (a1.domains.length : Int)) (⟨0, 0, 0, 0⟩ : Reach_Hop))), .os 4 (List.length (List.replicate (Int.toNat (a1.domains.length : Int)) (0 : Int)))] false, .arr 3 (List.set l28 (Int.toNat x35.domain) (wr_i64 (x49 + 1) : Int)) n7 false, .arr 151 (List.set l29 (Int.toNat x35.domain) x35) (List.length (List.replicate (Int.toNat (a1.domains.length : Int)) (⟨0, 0, 0, 0⟩ : Reach_Hop))) false, .arr 3 l30 (List.length (List.replicate (Int.toNat (a1.domains.length : Int)) (0 : Int))) false, .w 3 l31, .box 151 (c151 x35) false, .w 151 l27])<|pc (st_ob (e := 151) (n := (List.length (List.replicate (Int.toNat (a1.domains.length : Int)) (⟨0, 0, 0, 0⟩ : Reach_Hop)))) (l := l29) (i := (Int.toNat x35.domain)) x35 [.j x35.kind, .j x35.port, .j x35.domain, .v (.int .u32 x35.addr)] (obn151 h55) rfl)<|pc (an (List.length (List.replicate (Int.toNat (a1.domains.length : Int)) (0 : Int))) (lin_ob h56))<|pc (st_ob (e := 3) (n := (List.length (List.replicate (Int.toNat (a1.domains.length : Int)) (0 : Int)))) (l := l30) (i := (Int.toNat x35.domain)) x23 [.j x23] (obn3 h58) rfl)<|pc (bs_ob 3 [x35.domain])<|pc (app_ob 3 (n := l31.length) (l := l31) (xs := [x35.domain]) h59)<|pc (rn (List.length [x35.domain]))<|pn)
          ·cases h
         ·cases h
        ·cases h
       ·cases h
      ·obtain rfl := oi h; exact rl [1, 2, 3, 6, 8, 9, 10, 11, 54, 55, 56] [0, 1, 2, 3, 4, 5, 7] [.t, .row (c151 x35), .cut [1, 2, 3, 6, 8, 9, 10, 11, 13, 54, 55, 56] [0, 1, 2, 3, 4, 5, 7, 6] .nor [(1, .j a2), (2, .j a3), (3, .o 0), (6, .v (.pointer none)), (8, .o 1), (9, .os 5 l31.length), (10, .j v20), (11, .j x23), (13, .o 6), (54, .os 7 l27.length), (55, .j (l27.length : Int)), (56, .j v32)] [.box 31 (c31 a1) false, .box 137 [.os 2 n7, .os 3 (List.length (List.replicate (Int.toNat (a1.domains.length : Int)) (⟨0, 0, 0, 0⟩ : Reach_Hop))), .os 4 (List.length (List.replicate (Int.toNat (a1.domains.length : Int)) (0 : Int)))] false, .arr 3 l28 n7 false, .arr 151 l29 (List.length (List.replicate (Int.toNat (a1.domains.length : Int)) (⟨0, 0, 0, 0⟩ : Reach_Hop))) false, .arr 3 l30 (List.length (List.replicate (Int.toNat (a1.domains.length : Int)) (0 : Int))) false, .w 3 l31, .box 151 (c151 x35) false, .w 151 l27], .row (c3 x45), .f] (pc h33<|pc (an l27.length (lin_ob h34))<|pc (an l27.length (obn151 h36))<|pc (k_reach_find_J3 h42)<|pc (an n7 (lin_ob h44))<|pc (an n7 (obn3 h46))<|pc h47<|pn)
     ·cases h
   ·cases h
  ·obtain rfl := oi h; exact rl [1, 2, 3, 6, 8, 9, 10] [0, 1, 2, 3, 4, 5] [.f] (pc h33<|pn)
 ·rcases r with _ | _ <;> exact Ex.noConfusion

theorem k_reach_find_L1 {a1 : Api_Net} {a2 : Int} {a3 : Int} {n7 : Nat} : LoopOK Tryz.prog UU 0 120 (subC (codeOf Tryz.f105) [1, 0, 1, 1, 1, 1, 1, 0, 1, 0, 0]) (fun s : (List Int) × (List Reach_Hop) × (List Int) × (List Int) × Int => match s with | (l16, l17, l18, l19, v20) => reach_find_L1 a1 a2 a3 n7 l16 l17 l18 l19 v20)
  (fun s : (List Int) × (List Reach_Hop) × (List Int) × (List Int) × Int => (match s with | (l16, l17, l18, l19, v20) => [(1, .j a2), (2, .j a3), (3, .o 0), (6, .v (.pointer none)), (8, .o 1), (9, .os 5 l19.length), (10, .j v20)] : Fr DD)) (fun s : (List Int) × (List Reach_Hop) × (List Int) × (List Int) × Int => (match s with | (l16, l17, l18, l19, v20) => [.box 31 (c31 a1) false, .box 137 [.os 2 n7, .os 3 (List.length (List.replicate (Int.toNat (a1.domains.length : Int)) (⟨0, 0, 0, 0⟩ : Reach_Hop))), .os 4 (List.length (List.replicate (Int.toNat (a1.domains.length : Int)) (0 : Int)))] false, .arr 3 l16 n7 false, .arr 151 l17 (List.length (List.replicate (Int.toNat (a1.domains.length : Int)) (⟨0, 0, 0, 0⟩ : Reach_Hop))) false, .arr 3 l18 (List.length (List.replicate (Int.toNat (a1.domains.length : Int)) (0 : Int))) false, .w 3 l19] : Heap DD)) (fun r => match r with | (l109, l110, l111) => .exit 0) (fun r => match r with | (l109, l110, l111) => [(6, .v (.pointer none)), (8, .o 0)]) (fun r => match r with | (l109, l110, l111) => [.box 137 [.os 1 n7, .os 2 (List.length (List.replicate (Int.toNat (a1.domains.length : Int)) (⟨0, 0, 0, 0⟩ : Reach_Hop))), .os 3 (List.length (List.replicate (Int.toNat (a1.domains.length : Int)) (0 : Int)))] false, .arr 3 l109 n7 false, .arr 151 l110 (List.length (List.replicate (Int.toNat (a1.domains.length : Int)) (⟨0, 0, 0, 0⟩ : Reach_Hop))) false, .arr 3 l111 (List.length (List.replicate (Int.toNat (a1.domains.length : Int)) (0 : Int))) false]) := by
 refine loop_sound3 (fun s q h => ?_) (fun r => ?_)
 ·obtain ⟨l16, l17, l18, l19, v20⟩ := s; replace h : reach_find_L1 a1 a2 a3 n7 l16 l17 l18 l19 v20 = some q := h
  unfold reach_find_L1 at h
  obtain ⟨h21, h⟩|⟨h21, h⟩ := ite_out h
  ·obtain ⟨h22, h⟩|⟨h22, h⟩ := ite_out h
   ·obtain ⟨x23, h24, h⟩ := bo h
    obtain ⟨l27, h26, h⟩ := bo h
    obtain ⟨r102, h101, h⟩ := bo h
    rcases r102 with ⟨l66, l67, l68⟩ | ⟨l97, l98, l99, l100⟩
    ·obtain rfl := oi h; exact rl [6, 8] [0, 1, 2, 3] [.t, .row (c3 x23), .callo (.os 0 l27.length) [.w 151 l27], .sum [1, 2, 3, 6, 8, 9, 10, 11, 54, 55, 56] [0, 1, 2, 3, 4, 5, 6] (.exit 0) [(6, .v (.pointer none)), (8, .o 0)] [.box 137 [.os 1 n7, .os 2 (List.length (List.replicate (Int.toNat (a1.domains.length : Int)) (⟨0, 0, 0, 0⟩ : Reach_Hop))), .os 3 (List.length (List.replicate (Int.toNat (a1.domains.length : Int)) (0 : Int)))] false, .arr 3 l66 n7 false, .arr 151 l67 (List.length (List.replicate (Int.toNat (a1.domains.length : Int)) (⟨0, 0, 0, 0⟩ : Reach_Hop))) false, .arr 3 l68 (List.length (List.replicate (Int.toNat (a1.domains.length : Int)) (0 : Int))) false]] (pc (rn l19.length)<|pc h21<|pc (an l19.length (lin_ob h22))<|pc (an l19.length (obn3 h24))<|pc (k_reach_Hops h26)<|pc (im151 l27)<|pc (rn l27.length)<|pc (k_reach_find_L2 _ _ h101)<|pn)
    ·obtain rfl := oi h; exact rl [1, 2, 3, 6, 8, 9, 10] [0, 1, 2, 3, 4, 5] [.t, .row (c3 x23), .callo (.os 0 l27.length) [.w 151 l27], .sum [1, 2, 3, 6, 8, 9, 10, 11, 54, 55, 56] [0, 1, 2, 3, 4, 5, 6] (.exit 2) [(1, .j a2), (2, .j a3), (3, .o 0), (6, .v (.pointer none)), (8, .o 1), (9, .os 5 l100.length), (10, .j v20)] [.box 31 (c31 a1) false, .box 137 [.os 2 n7, .os 3 (List.length (List.replicate (Int.toNat (a1.domains.length : Int)) (⟨0, 0, 0, 0⟩ : Reach_Hop))), .os 4 (List.length (List.replicate (Int.toNat (a1.domains.length : Int)) (0 : Int)))] false, .arr 3 l97 n7 false, .arr 151 l98 (List.length (List.replicate (Int.toNat (a1.domains.length : Int)) (⟨0, 0, 0, 0⟩ : Reach_Hop))) false, .arr 3 l99 (List.length (List.replicate (Int.toNat (a1.domains.length : Int)) (0 : Int))) false, .w 3 l100]] (pc (rn l19.length)<|pc h21<|pc (an l19.length (lin_ob h22))<|pc (an l19.length (obn3 h24))<|pc (k_reach_Hops h26)<|pc (im151 l27)<|pc (rn l27.length)<|pc (k_reach_find_L2 _ _ h101)<|pn)
   ·cases h
  ·obtain rfl := oi h; exact rl [6, 8] [1, 2, 3, 4] [.f] (pc (rn l19.length)<|pc h21<|pn)
 ·exact Ex.noConfusion

theorem k_reach_find {a1 : Api_Net} {a2 : Int} {a3 : Int} {r : ((List Int) × (List Reach_Hop) × (List Int) × Nat)} (h : reach_find a1 a2 a3 = some r) :
  CallsOK Tryz.prog UU 105 [.agg (c31 a1), .j a2, .j a3] [] ((fun r => match r with | (l114, l115, l116, n117) => .o 0) r) ((fun r => match r with | (l114, l115, l116, n117) => [.box 137 [.os 1 n117, .os 2 (List.length (List.replicate (Int.toNat (a1.domains.length : Int)) (⟨0, 0, 0, 0⟩ : Reach_Hop))), .os 3 (List.length (List.replicate (Int.toNat (a1.domains.length : Int)) (0 : Int)))] false, .arr 3 l114 n117 false, .arr 151 l115 (List.length (List.replicate (Int.toNat (a1.domains.length : Int)) (⟨0, 0, 0, 0⟩ : Reach_Hop))) false, .arr 3 l116 (List.length (List.replicate (Int.toNat (a1.domains.length : Int)) (0 : Int))) false]) r) := by
 unfold reach_find at h
 obtain ⟨r4, h5, h⟩ := bo h
 obtain ⟨l6, n7⟩ := r4
 obtain ⟨h8, h⟩|⟨h8, h⟩ := ite_out h
 ·obtain ⟨h9, h⟩|⟨h9, h⟩ := ite_out h
  ·obtain ⟨h10, h⟩|⟨h10, h⟩ := ite_out h
   ·obtain ⟨x11, h12, h⟩ := bo h
    obtain ⟨h13, h⟩|⟨h13, h⟩ := ite_out h
    ·obtain ⟨x14, h15, h⟩ := bo h
     obtain ⟨r113, h112, h⟩ := bo h
     obtain ⟨l109, l110, l111⟩ := r113
     obtain rfl := oi h; exact rf Tryz.func105 (some [0, 1, 2, 3]) [.sum [2] [] .nor [] [.box 31 (c31 a1) false, .arr 3 l6 n7 false], .obj [] (.w 3 [((-1) : Int)]), .callo (.os 0 n7) [.arr 3 l6 n7 false], .obj [] (.arr 151 (List.replicate (Int.toNat (a1.domains.length : Int)) (⟨0, 0, 0, 0⟩ : Reach_Hop)) (Int.toNat (a1.domains.length : Int)) true), .obj [] (.arr 3 (List.replicate (Int.toNat (a1.domains.length : Int)) (0 : Int)) (Int.toNat (a1.domains.length : Int)) true), .sum [13] [] .nor [] [.box 31 (c31 a1) false, .arr 3 (List.set l6 a2.toNat (0 : Int)) n7 false, .w 151 (List.replicate (Int.toNat (a1.domains.length : Int)) (⟨0, 0, 0, 0⟩ : Reach_Hop)), .w 3 (List.replicate (Int.toNat (a1.domains.length : Int)) (0 : Int)), .box 137 [.os 1 n7, .os 2 (List.length (List.replicate (Int.toNat (a1.domains.length : Int)) (⟨0, 0, 0, 0⟩ : Reach_Hop))), .os 3 (List.length (List.replicate (Int.toNat (a1.domains.length : Int)) (0 : Int)))] false], .row (c3 x11), .obj [] (.arr 3 (List.set l6 a2.toNat (0 : Int)) n7 false), .row (c151 x14), .obj [] (.arr 151 (List.set (List.replicate (Int.toNat (a1.domains.length : Int)) (⟨0, 0, 0, 0⟩ : Reach_Hop)) a2.toNat (⟨0, 0, a2, 0⟩ : Reach_Hop)) (List.length (List.replicate (Int.toNat (a1.domains.length : Int)) (⟨0, 0, 0, 0⟩ : Reach_Hop))) false), .obj [] (.w 3 [a2]), .sum [1, 2, 3, 6, 8, 9, 10] [0, 4, 1, 2, 3, 5] (.exit 0) [(6, .v (.pointer none)), (8, .o 0)] [.box 137 [.os 1 n7, .os 2 (List.length (List.replicate (Int.toNat (a1.domains.length : Int)) (⟨0, 0, 0, 0⟩ : Reach_Hop))), .os 3 (List.length (List.replicate (Int.toNat (a1.domains.length : Int)) (0 : Int)))] false, .arr 3 l109 n7 false, .arr 151 l110 (List.length (List.replicate (Int.toNat (a1.domains.length : Int)) (⟨0, 0, 0, 0⟩ : Reach_Hop))) false, .arr 3 l111 (List.length (List.replicate (Int.toNat (a1.domains.length : Int)) (0 : Int))) false]] (pc (bs_ob 3 [((-1) : Int)])<|pc (rh [.box 31 (c31 a1) false, .arr 3 l6 n7 false])<|pc (k_slices_Repeat_int h5)<|pc (im3 l6)<|pc (rr (.j (a1.domains.length : Int)))<|pc (mk_ob 151 (⟨0, 0, 0, 0⟩ : Reach_Hop) h8)<|pc (rn (Int.toNat (a1.domains.length : Int)))<|pc (rfl : ((a1.domains.length : Int) : Int) = (a1.domains.length : Int))<|pc (rr (.j (a1.domains.length : Int)))<|pc (mk_ob 3 (0 : Int) h9)<|pc (rn (Int.toNat (a1.domains.length : Int)))<|pc (rfl : ((a1.domains.length : Int) : Int) = (a1.domains.length : Int))<|pd (rr (.j a2))<|pc (rr (.agg [.z, .z, .j a2, .v (.int .u32 0)]))<|pc (an n7 (lin_ob h10))<|pc (rh [.box 31 (c31 a1) false, .arr 3 (List.set l6 a2.toNat (0 : Int)) n7 false, .w 151 (List.replicate (Int.toNat (a1.domains.length : Int)) (⟨0, 0, 0, 0⟩ : Reach_Hop)), .w 3 (List.replicate (Int.toNat (a1.domains.length : Int)) (0 : Int)), .box 137 [.os 1 n7, .os 2 (List.length (List.replicate (Int.toNat (a1.domains.length : Int)) (⟨0, 0, 0, 0⟩ : Reach_Hop))), .os 3 (List.length (List.replicate (Int.toNat (a1.domains.length : Int)) (0 : Int)))] false])<|pc (st_ob (e := 3) (n := n7) (l := l6) (i := a2.toNat) (0 : Int) [.z] (obn3 h12) rfl)<|pc (an (List.length (List.replicate (Int.toNat (a1.domains.length : Int)) (⟨0, 0, 0, 0⟩ : Reach_Hop))) (lin_ob h13))<|pc (st_ob (e := 151) (n := (List.length (List.replicate (Int.toNat (a1.domains.length : Int)) (⟨0, 0, 0, 0⟩ : Reach_Hop)))) (l := List.replicate (Int.toNat (a1.domains.length : Int)) (⟨0, 0, 0, 0⟩ : Reach_Hop)) (i := a2.toNat) (⟨0, 0, a2, 0⟩ : Reach_Hop) [.z, .z, .j a2, .v (.int .u32 0)] (obn151 h15) rfl)<|pc (bs_ob 3 [a2])<|pc (k_reach_find_L1 _ _ h112)<|pn)
    ·cases h
   ·cases h
  ·cases h
 ·cases h

theorem k_reach_Steps {a1 : Api_Net} {a2 : Int} {r : ((List Int) × Nat)} (h : reach_Steps a1 a2 = some r) :
  CallsOK Tryz.prog UU 81 [.agg (c31 a1), .j a2] [] ((fun r => match r with | (l12, n13) => .os 0 n13) r) ((fun r => match r with | (l12, n13) => [.arr 3 l12 n13 false]) r) := by
 unfold reach_Steps at h
 obtain ⟨r3, h4, h⟩ := bo h
 obtain ⟨h5, h⟩|⟨h5, h⟩ := ite_out h
 ·obtain rfl := oi h; exact rf Tryz.func81 (some [2]) [.b r3, .t] (pc (k_reach_place h4)<|pc h5<|pn)
 ·obtain ⟨r6, h7, h⟩ := bo h
  obtain ⟨l8, l9, l10, n11⟩ := r6
  obtain rfl := oi h; exact rf Tryz.func81 (some [3]) [.b r3, .f, .callm [] (.o 0) [.box 137 [.os 1 n11, .os 2 (List.length (List.replicate (Int.toNat (a1.domains.length : Int)) (⟨0, 0, 0, 0⟩ : Reach_Hop))), .os 3 (List.length (List.replicate (Int.toNat (a1.domains.length : Int)) (0 : Int)))] false, .arr 3 l8 n11 false, .arr 151 l9 (List.length (List.replicate (Int.toNat (a1.domains.length : Int)) (⟨0, 0, 0, 0⟩ : Reach_Hop))) false, .arr 3 l10 (List.length (List.replicate (Int.toNat (a1.domains.length : Int)) (0 : Int))) false]] (pc (k_reach_place h4)<|pc h5<|pc (k_reach_find h7)<|pn)

theorem k_domains_Hosts_1 {a1 : Int} {a2 : Api_Net} {r : Bool} (h : domains_Hosts_1 a1 a2 = some r) :
  CallsOK Tryz.prog UU 108 [.j a1, .rp (c31 a2) 0] [] (.y r) [] := by
 unfold domains_Hosts_1 at h
 obtain ⟨x3, h4, h⟩ := bo h
 obtain rfl := oi h; exact rf Tryz.func108 none [.row (c52 x3)] (pc (ob52 h4)<|pn)

theorem k_slices_IndexFunc_int_Hosts_1_L1 {a1 : List Int} {a2 : Api_Net} : LoopOK Tryz.prog UU 0 19 (subC (codeOf Tryz.f124) [1, 0, 1, 0, 0]) (ρ := Int ⊕ Unit) (slices_IndexFunc_int_Hosts_1_L1 a1 a2)
  (fun v3 : Int => ([(0, .sl 3 a1), (1, .fn (.func 108) [] [.rp (c31 a2) 0]), (4, .z), (7, .j (a1.length : Int)), (8, .j v3)] : Fr DD)) (fun v3 : Int => ([] : Heap DD)) (fun r => match r with | Sum.inl v11 => .ret | Sum.inr _ => .exit 0) (fun r => match r with | Sum.inl v11 => [(4, .j v11)] | Sum.inr _ => [(4, .z)]) (fun r => match r with | Sum.inl v11 => [] | Sum.inr _ => []) := by
 refine loop_sound3 (fun s q h => ?_) (fun r => ?_)
 ·replace h : slices_IndexFunc_int_Hosts_1_L1 a1 a2 s = some q := h; revert h; revert s; intro v3 h
  unfold slices_IndexFunc_int_Hosts_1_L1 at h
  obtain ⟨h4, h⟩|⟨h4, h⟩ := ite_out h
  ·obtain ⟨x5, h6, h⟩ := bo h
   obtain ⟨r7, h8, h⟩ := bo h
   obtain ⟨h9, h⟩|⟨h9, h⟩ := ite_out h
   ·obtain rfl := oi h; exact rl [4] [] [.t, .row (c3 x5), .b r7, .t] (pc h4<|pc (ob3 h6)<|pc (k_domains_Hosts_1 h8)<|pc h9<|pn)
   ·obtain rfl := oi h; exact rl [0, 1, 4, 7, 8] [] [.t, .row (c3 x5), .b r7, .f] (pc h4<|pc (ob3 h6)<|pc (k_domains_Hosts_1 h8)<|pc h9<|pn)
  ·obtain rfl := oi h; exact rl [4] [] [.f] (pc h4<|pn)
 ·rcases r with _ | _ <;> exact Ex.noConfusion

theorem k_slices_IndexFunc_int_Hosts_1 {a1 : List Int} {a2 : Api_Net} {r : Int} (h : slices_IndexFunc_int_Hosts_1 a1 a2 = some r) :
  CallsOK Tryz.prog UU 124 [.sl 3 a1, .fn (.func 108) [] [.rp (c31 a2) 0]] [] (.j r) [] := by
 unfold slices_IndexFunc_int_Hosts_1 at h
 obtain ⟨r13, h12, h⟩ := bo h
 rcases r13 with v11 | _
 ·obtain rfl := oi h; exact rf Tryz.func124 none [.sum [0, 1, 4, 7, 8] [] .ret [(4, .j v11)] []] (pc (k_slices_IndexFunc_int_Hosts_1_L1 _ _ h12)<|pn)
 ·obtain rfl := oi h; exact rf Tryz.func124 none [.sum [0, 1, 4, 7, 8] [] (.exit 0) [(4, .z)] []] (pc (k_slices_IndexFunc_int_Hosts_1_L1 _ _ h12)<|pn)

theorem k_slices_DeleteFunc_int_Hosts_1_own_L1 {a1 : List Int} {a2 : Api_Net} : LoopOK Tryz.prog UU 2 42 (subC (codeOf Tryz.f106) [1, 1, 1, 0, 1, 0, 0]) (fun s : (List Int) × Int × Int => match s with | (l6, v7, v8) => slices_DeleteFunc_int_Hosts_1_own_L1 a1 a2 l6 v7 v8)
  (fun s : (List Int) × Int × Int => (match s with | (l6, v7, v8) => [(0, .os 0 a1.length), (1, .fn (.func 108) [] [.o 1]), (4, .os 2 0), (5, .j v7), (6, .j v8)] : Fr DD)) (fun s : (List Int) × Int × Int => (match s with | (l6, v7, v8) => [.arr 3 l6 a1.length false, .box 31 (c31 a2) false, .n 3] : Heap DD)) (fun r => match r with | (l23, v24) => .exit 0) (fun r => match r with | (l23, v24) => [(0, .os 0 a1.length), (4, .os 2 0), (5, .j v24)]) (fun r => match r with | (l23, v24) => [.arr 3 l23 a1.length false, .box 31 (c31 a2) false, .n 3]) := by
 refine loop_sound3 (fun s q h => ?_) (fun r => ?_)
 ·obtain ⟨l6, v7, v8⟩ := s; replace h : slices_DeleteFunc_int_Hosts_1_own_L1 a1 a2 l6 v7 v8 = some q := h
  unfold slices_DeleteFunc_int_Hosts_1_own_L1 at h
  obtain ⟨h9, h⟩|⟨h9, h⟩ := ite_out h
  ·obtain ⟨h10, h⟩|⟨h10, h⟩ := ite_out h
   ·obtain ⟨x11, h12, h⟩ := bo h
    obtain ⟨r13, h14, h⟩ := bo h
    obtain ⟨h15, h⟩|⟨h15, h⟩ := ite_out h
    ·obtain ⟨h16, h⟩|⟨h16, h⟩ := ite_out h
     ·obtain ⟨x17, h18, h⟩ := bo h
      obtain rfl := oi h; exact rl [0, 1, 4, 5, 6] [0, 1, 2] [.t, .row (c3 x11), .b r13, .t, .row (c3 x17), .obj [] (.arr 3 (List.set l6 v7.toNat x11) a1.length false)] (pc (rn a1.length)<|pc h9<|pc (an a1.length (lin_ob h10))<|pc (an a1.length (obn3 h12))<|pc (k_domains_Hosts_1 h14)<|pc h15<|pc (an a1.length (lin_ob h16))<|pc (st_ob (e := 3) (n := a1.length) (l := l6) (i := v7.toNat) x11 [.j x11] (obn3 h18) rfl)<|pn)
     ·cases h
    ·obtain rfl := oi h; exact rl [0, 1, 4, 5, 6] [0, 1, 2] [.t, .row (c3 x11), .b r13, .f] (pc (rn a1.length)<|pc h9<|pc (an a1.length (lin_ob h10))<|pc (an a1.length (obn3 h12))<|pc (k_domains_Hosts_1 h14)<|pc h15<|pn)
   ·cases h
  ·obtain rfl := oi h; exact rl [0, 4, 5] [0, 1, 2] [.f] (pc (rn a1.length)<|pc h9<|pn)
 ·exact Ex.noConfusion

theorem k_slices_DeleteFunc_int_Hosts_1_own {a1 : List Int} {a2 : Api_Net} {r : ((List Int) × (List Int))} (h : slices_DeleteFunc_int_Hosts_1_own a1 a2 = some r) :
  CallsOK Tryz.prog UU 106 [.os 0 a1.length, .fn (.func 108) [] [.o 1]] [.w 3 a1, .box 31 (c31 a2) false] ((fun r => match r with | (l29, l30) => .sl 3 l30) r) ((fun r => match r with | (l29, l30) => [.arr 3 l29 a1.length true, .box 31 (c31 a2) false]) r) := by
 unfold slices_DeleteFunc_int_Hosts_1_own at h
 obtain ⟨r3, h4, h⟩ := bo h
 obtain ⟨h5, h⟩|⟨h5, h⟩ := ite_out h
 ·obtain rfl := oi h; exact runFz_sound mixedOrders Tryz.func106 rfl (ids := [0, 1]) (fz := [0]) (π := [.callv (.j r3), .t]) (hrun := by kernel_rfl) (hps := pc (k_slices_IndexFunc_int_Hosts_1 h4)<|pc (rn a1.length)<|pc h5<|pc (rn a1.length)<|pn)
 ·obtain ⟨r26, h25, h⟩ := bo h
  obtain ⟨l23, v24⟩ := r26
  obtain ⟨h27, h⟩|⟨h27, h⟩ := ite_out h
  ·obtain ⟨h28, h⟩|⟨h28, h⟩ := ite_out h
   ·obtain rfl := oi h; exact runFz_sound mixedOrders Tryz.func106 rfl (ids := [0, 1]) (fz := [0]) (π := [.callv (.j r3), .f, .sum [0, 1, 4, 5, 6] [0, 1, 2] (.exit 0) [(0, .os 0 a1.length), (4, .os 2 0), (5, .j v24)] [.arr 3 l23 a1.length false, .box 31 (c31 a2) false, .n 3], .obj [] (.arr 3 (List.take v24.toNat l23 ++ (List.replicate ((Int.toNat (l23.length : Int)) - v24.toNat) (0 : Int) ++ List.drop (Int.toNat (l23.length : Int)) l23)) a1.length false)]) (hrun := by kernel_rfl) (hps := pc (k_slices_IndexFunc_int_Hosts_1 h4)<|pc (rn a1.length)<|pc h5<|pc (k_slices_DeleteFunc_int_Hosts_1_own_L1 _ _ h25)<|pc (rn a1.length)<|pc (sl_ob h27)<|pc (cl_ob (e := 3) (n := a1.length) (l := l23) (a := v24.toNat) (b := (Int.toNat (l23.length : Int))) (0 : Int))<|pc (rn a1.length)<|pc (sl_ob h28)<|pc (rn a1.length)<|pn)
   ·cases h
  ·cases h

theorem k_domains_Hosts {a1 : Api_Net} {a2 : Int} {r : (List Int)} (h : domains_Hosts a1 a2 = some r) :
  CallsOK Tryz.prog UU 82 [.agg (c31 a1), .j a2] [] (.sl 3 r) [] := by
 unfold domains_Hosts at h
 obtain ⟨l5, h4, h⟩ := bo h
 obtain ⟨r6, h7, h⟩ := bo h
 obtain ⟨l8, l9⟩ := r6
 obtain rfl := oi h; exact rf Tryz.func82 none [.callo (.os 0 l5.length) [.w 3 l5], .callm [2, 0] (.sl 3 l9) [.arr 3 l8 l5.length true, .box 31 (c31 a1) false]] (pc (k_names_Members h4)<|pc (im3 l5)<|pc (k_slices_DeleteFunc_int_Hosts_1_own h7)<|pn)

theorem k_audit_auditor_silent_L1 {a1 : Audit_auditor} {l5 : List Int} {n6 : Nat} : LoopOK Tryz.prog UU 0 32 (subC (codeOf Tryz.f56) [1, 0, 1, 0, 0]) (ρ := Unit ⊕ Unit) (audit_auditor_silent_L1 a1 l5 n6)
  (fun v7 : Int => ([(0, .rp (c66 a1) 0), (4, .y false), (12, .os 0 n6), (13, .j (n6 : Int)), (14, .j v7)] : Fr DD)) (fun v7 : Int => ([.arr 3 l5 n6 false] : Heap DD)) (fun r => match r with | Sum.inl _ => .ret | Sum.inr _ => .exit 0) (fun r => match r with | Sum.inl _ => [(4, .y false)] | Sum.inr _ => [(4, .y false)]) (fun r => match r with | Sum.inl _ => [] | Sum.inr _ => []) := by
 refine loop_sound3 (fun s q h => ?_) (fun r => ?_)
 ·replace h : audit_auditor_silent_L1 a1 l5 n6 s = some q := h; revert h; revert s; intro v7 h
  unfold audit_auditor_silent_L1 at h
  obtain ⟨h8, h⟩|⟨h8, h⟩ := ite_out h
  ·obtain ⟨h9, h⟩|⟨h9, h⟩ := ite_out h
   ·obtain ⟨x10, h11, h⟩ := bo h
    obtain ⟨h12, h⟩|⟨h12, h⟩ := ite_out h
    ·obtain ⟨r13, h14, h⟩ := bo h
     obtain ⟨h15, h⟩|⟨h15, h⟩ := ite_out h
     ·obtain rfl := oi h; exact rl [4] [] [.t, .row (c3 x10), .t, .callf [] (.sl 3 r13), .t] (pc h8<|pc (an n6 (lin_ob h9))<|pc (an n6 (obn3 h11))<|pc h12<|pc (k_domains_Hosts h14)<|pc h15<|pn)
     ·obtain rfl := oi h; exact rl [0, 4, 12, 13, 14] [0] [.t, .row (c3 x10), .t, .callf [] (.sl 3 r13), .f] (pc h8<|pc (an n6 (lin_ob h9))<|pc (an n6 (obn3 h11))<|pc h12<|pc (k_domains_Hosts h14)<|pc h15<|pn)
    ·obtain rfl := oi h; exact rl [0, 4, 12, 13, 14] [0] [.t, .row (c3 x10), .f] (pc h8<|pc (an n6 (lin_ob h9))<|pc (an n6 (obn3 h11))<|pc h12<|pn)
   ·cases h
  ·obtain rfl := oi h; exact rl [4] [] [.f] (pc h8<|pn)
 ·rcases r with _ | _ <;> exact Ex.noConfusion

theorem k_audit_auditor_silent {a1 : Audit_auditor} {a2 : Int} {r : Bool} (h : audit_auditor_silent a1 a2 = some r) :
  CallsOK Tryz.prog UU 56 [.rp (c66 a1) 0, .j a2] [] (.y r) [] := by
 unfold audit_auditor_silent at h
 obtain ⟨r3, h4, h⟩ := bo h
 obtain ⟨l5, n6⟩ := r3
 obtain ⟨r17, h16, h⟩ := bo h
 rcases r17 with _ | _
 ·obtain rfl := oi h; exact rf Tryz.func56 none [.callo (.os 0 n6) [.arr 3 l5 n6 false], .sum [0, 4, 12, 13, 14] [0] .ret [(4, .y false)] []] (pc (k_reach_Steps h4)<|pc (im3 l5)<|pc (rn n6)<|pc (k_audit_auditor_silent_L1 _ _ h16)<|pn)
 ·obtain rfl := oi h; exact rf Tryz.func56 none [.callo (.os 0 n6) [.arr 3 l5 n6 false], .sum [0, 4, 12, 13, 14] [0] (.exit 0) [(4, .y false)] []] (pc (k_reach_Steps h4)<|pc (im3 l5)<|pc (rn n6)<|pc (k_audit_auditor_silent_L1 _ _ h16)<|pn)

theorem k_audit_auditor_domains_auditor_note_own_L1 {a1 : List Api_Device} {a2 : List Api_Port} {a3 : List Api_Link} {a4 : List Api_Domain} {a5 : List Api_Static} {a6 : List Api_Flood} {a7 : List Api_Vrf} {a8 : List Api_Irb} : LoopOK Tryz.prog UU 2 56 (subC (codeOf Tryz.f19) [0, 1, 0, 0]) (fun s : (List Audit_Note) × Int => match s with | (l10, v11) => audit_auditor_domains_auditor_note_own_L1 a1 a2 a3 a4 a5 a6 a7 a8 l10 v11)
  (fun s : (List Audit_Note) × Int => (match s with | (l10, v11) => [(0, .o 0), (1, .fn (.func 17) [.o 0] []), (12, .sl 63 a4), (13, .j (a4.length : Int)), (14, .j v11)] : Fr DD)) (fun s : (List Audit_Note) × Int => (match s with | (l10, v11) => [.box 66 [.sl 61 a1, .sl 52 a2, .sl 49 a3, .sl 63 a4, .sl 92 a5, .sl 76 a6, .sl 78 a7, .sl 103 a8, .os 1 l10.length] false, .w 33 l10] : Heap DD)) (fun r => match r with | l21 => .exit 0) (fun r => match r with | l21 => [(0, .o 0), (1, .fn (.func 17) [.o 0] [])]) (fun r => match r with | l21 => [.box 66 [.sl 61 a1, .sl 52 a2, .sl 49 a3, .sl 63 a4, .sl 92 a5, .sl 76 a6, .sl 78 a7, .sl 103 a8, .os 1 l21.length] false, .w 33 l21]) := by
 refine loop_sound3 (fun s q h => ?_) (fun r => ?_)
 ·obtain ⟨l10, v11⟩ := s; replace h : audit_auditor_domains_auditor_note_own_L1 a1 a2 a3 a4 a5 a6 a7 a8 l10 v11 = some q := h
  unfold audit_auditor_domains_auditor_note_own_L1 at h
  obtain ⟨h12, h⟩|⟨h12, h⟩ := ite_out h
  ·obtain ⟨x13, h14, h⟩ := bo h
   obtain ⟨h15, h⟩|⟨h15, h⟩ := ite_out h
   ·obtain ⟨h16, h⟩|⟨h16, h⟩ := ite_out h
    ·obtain ⟨r17, h18, h⟩ := bo h
     obtain rfl := oi h; exact rl [0, 1, 12, 13, 14] [0, 1] [.t, .row (c63 x13), .t, .t, .callm [0, 1] (.tup []) [.box 66 [.sl 61 a1, .sl 52 a2, .sl 49 a3, .sl 63 a4, .sl 92 a5, .sl 76 a6, .sl 78 a7, .sl 103 a8, .os 1 (List.length (l10 ++ [(⟨3, x13.row, v11, x13.vni⟩ : Audit_Note)]))] false, .w 33 (l10 ++ [(⟨3, x13.row, v11, x13.vni⟩ : Audit_Note)])]] (pc h12<|pc (ob63 h14)<|pc h15<|pc h16<|pc (k_audit_auditor_note_own h18)<|pn)
    ·obtain rfl := oi h; exact rl [0, 1, 12, 13, 14] [0, 1] [.t, .row (c63 x13), .t, .f] (pc h12<|pc (ob63 h14)<|pc h15<|pc h16<|pn)
   ·obtain rfl := oi h; exact rl [0, 1, 12, 13, 14] [0, 1] [.t, .row (c63 x13), .f] (pc h12<|pc (ob63 h14)<|pc h15<|pn)
  ·obtain rfl := oi h; exact rl [0, 1] [0, 1] [.f] (pc h12<|pn)
 ·exact Ex.noConfusion

theorem k_audit_auditor_domains_auditor_note_own_L2 {a1 : List Api_Device} {a2 : List Api_Port} {a3 : List Api_Link} {a4 : List Api_Domain} {a5 : List Api_Static} {a6 : List Api_Flood} {a7 : List Api_Vrf} {a8 : List Api_Irb} : LoopOK Tryz.prog UU 2 56 (subC (codeOf Tryz.f19) [1, 1, 0, 0]) (fun s : (List Audit_Note) × Int => match s with | (l24, v25) => audit_auditor_domains_auditor_note_own_L2 a1 a2 a3 a4 a5 a6 a7 a8 l24 v25)
  (fun s : (List Audit_Note) × Int => (match s with | (l24, v25) => [(0, .o 0), (1, .fn (.func 17) [.o 0] []), (40, .sl 63 a4), (41, .j (a4.length : Int)), (42, .j v25)] : Fr DD)) (fun s : (List Audit_Note) × Int => (match s with | (l24, v25) => [.box 66 [.sl 61 a1, .sl 52 a2, .sl 49 a3, .sl 63 a4, .sl 92 a5, .sl 76 a6, .sl 78 a7, .sl 103 a8, .os 1 l24.length] false, .w 33 l24] : Heap DD)) (fun r => match r with | l34 => .exit 2) (fun r => match r with | l34 => []) (fun r => match r with | l34 => [.box 66 [.sl 61 a1, .sl 52 a2, .sl 49 a3, .sl 63 a4, .sl 92 a5, .sl 76 a6, .sl 78 a7, .sl 103 a8, .os 1 l34.length] false, .w 33 l34]) := by
 refine loop_sound3 (fun s q h => ?_) (fun r => ?_)
 ·obtain ⟨l24, v25⟩ := s; replace h : audit_auditor_domains_auditor_note_own_L2 a1 a2 a3 a4 a5 a6 a7 a8 l24 v25 = some q := h
  unfold audit_auditor_domains_auditor_note_own_L2 at h
  obtain ⟨h26, h⟩|⟨h26, h⟩ := ite_out h
  ·obtain ⟨x27, h28, h⟩ := bo h
   obtain ⟨r29, h30, h⟩ := bo h
   obtain ⟨h31, h⟩|⟨h31, h⟩ := ite_out h
   ·obtain ⟨r32, h33, h⟩ := bo h
    obtain rfl := oi h; exact rl [0, 1, 40, 41, 42] [0, 1] [.t, .row (c63 x27), .b r29, .t, .callm [0, 1] (.tup []) [.box 66 [.sl 61 a1, .sl 52 a2, .sl 49 a3, .sl 63 a4, .sl 92 a5, .sl 76 a6, .sl 78 a7, .sl 103 a8, .os 1 (List.length (l24 ++ [(⟨4, 0, v25, x27.vlan⟩ : Audit_Note)]))] false, .w 33 (l24 ++ [(⟨4, 0, v25, x27.vlan⟩ : Audit_Note)])]] (pc h26<|pc (ob63 h28)<|pc (k_audit_auditor_silent h30)<|pc (rn l24.length)<|pc h31<|pc (k_audit_auditor_note_own h33)<|pn)
   ·obtain rfl := oi h; exact rl [0, 1, 40, 41, 42] [0, 1] [.t, .row (c63 x27), .b r29, .f] (pc h26<|pc (ob63 h28)<|pc (k_audit_auditor_silent h30)<|pc (rn l24.length)<|pc h31<|pn)
  ·obtain rfl := oi h; exact rl [] [0, 1] [.f] (pc h26<|pn)
 ·exact Ex.noConfusion

theorem k_audit_auditor_domains_auditor_note_own {a1 : List Api_Device} {a2 : List Api_Port} {a3 : List Api_Link} {a4 : List Api_Domain} {a5 : List Api_Static} {a6 : List Api_Flood} {a7 : List Api_Vrf} {a8 : List Api_Irb} {a9 : List Audit_Note} {r : ((List Audit_Note))} (h : audit_auditor_domains_auditor_note_own a1 a2 a3 a4 a5 a6 a7 a8 a9 = some r) :
  CallsOK Tryz.prog UU 19 [.o 0, .fn (.func 17) [.o 0] []] [.box 66 [.sl 61 a1, .sl 52 a2, .sl 49 a3, .sl 63 a4, .sl 92 a5, .sl 76 a6, .sl 78 a7, .sl 103 a8, .os 1 a9.length] false, .w 33 a9] ((fun r => match r with | l37 => .tup []) r) ((fun r => match r with | l37 => [.box 66 [.sl 61 a1, .sl 52 a2, .sl 49 a3, .sl 63 a4, .sl 92 a5, .sl 76 a6, .sl 78 a7, .sl 103 a8, .os 1 l37.length] false, .w 33 l37]) r) := by
 unfold audit_auditor_domains_auditor_note_own at h
 obtain ⟨l21, h22, h⟩ := bo h
 obtain ⟨l34, h35, h⟩ := bo h
 obtain rfl := oi h; exact rf Tryz.func19 (some [0, 1]) [.sum [0, 1, 12, 13, 14] [0, 1] (.exit 0) [(0, .o 0), (1, .fn (.func 17) [.o 0] [])] [.box 66 [.sl 61 a1, .sl 52 a2, .sl 49 a3, .sl 63 a4, .sl 92 a5, .sl 76 a6, .sl 78 a7, .sl 103 a8, .os 1 l21.length] false, .w 33 l21], .sum [0, 1, 40, 41, 42] [0, 1] (.exit 2) [] [.box 66 [.sl 61 a1, .sl 52 a2, .sl 49 a3, .sl 63 a4, .sl 92 a5, .sl 76 a6, .sl 78 a7, .sl 103 a8, .os 1 l34.length] false, .w 33 l34]] (pc (k_audit_auditor_domains_auditor_note_own_L1 _ _ h22)<|pc (k_audit_auditor_domains_auditor_note_own_L2 _ _ h35)<|pn)

theorem k_audit_auditor_used_L1 {a1 : Audit_auditor} {a2 : Int} : LoopOK Tryz.prog UU 0 22 (subC (codeOf Tryz.f57) [1, 0, 1, 0, 0]) (ρ := Unit ⊕ Unit) (audit_auditor_used_L1 a1 a2)
  (fun v3 : Int => ([(1, .j a2), (4, .y false), (11, .sl 103 a1.n.irbs), (12, .j (a1.n.irbs.length : Int)), (13, .j v3)] : Fr DD)) (fun v3 : Int => ([] : Heap DD)) (fun r => match r with | Sum.inl _ => .ret | Sum.inr _ => .exit 0) (fun r => match r with | Sum.inl _ => [(4, .y true)] | Sum.inr _ => [(4, .y false)]) (fun r => match r with | Sum.inl _ => [] | Sum.inr _ => []) := by
 refine loop_sound3 (fun s q h => ?_) (fun r => ?_)
 ·replace h : audit_auditor_used_L1 a1 a2 s = some q := h; revert h; revert s; intro v3 h
  unfold audit_auditor_used_L1 at h
  obtain ⟨h4, h⟩|⟨h4, h⟩ := ite_out h
  ·obtain ⟨x5, h6, h⟩ := bo h
   obtain ⟨h7, h⟩|⟨h7, h⟩ := ite_out h
   ·obtain rfl := oi h; exact rl [4] [] [.t, .row (c103 x5), .t] (pc h4<|pc (ob103 h6)<|pc h7<|pn)
   ·obtain rfl := oi h; exact rl [1, 4, 11, 12, 13] [] [.t, .row (c103 x5), .f] (pc h4<|pc (ob103 h6)<|pc h7<|pn)
  ·obtain rfl := oi h; exact rl [4] [] [.f] (pc h4<|pn)
 ·rcases r with _ | _ <;> exact Ex.noConfusion

theorem k_audit_auditor_used {a1 : Audit_auditor} {a2 : Int} {r : Bool} (h : audit_auditor_used a1 a2 = some r) :
  CallsOK Tryz.prog UU 57 [.rp (c66 a1) 0, .j a2] [] (.y r) [] := by
 unfold audit_auditor_used at h
 obtain ⟨r9, h8, h⟩ := bo h
 rcases r9 with _ | _
 ·obtain rfl := oi h; exact rf Tryz.func57 none [.sum [1, 4, 11, 12, 13] [] .ret [(4, .y true)] []] (pc (k_audit_auditor_used_L1 _ _ h8)<|pn)
 ·obtain rfl := oi h; exact rf Tryz.func57 none [.sum [1, 4, 11, 12, 13] [] (.exit 0) [(4, .y false)] []] (pc (k_audit_auditor_used_L1 _ _ h8)<|pn)

theorem k_audit_auditor_records_auditor_note_own_L1 {a1 : List Api_Device} {a2 : List Api_Port} {a3 : List Api_Link} {a4 : List Api_Domain} {a5 : List Api_Static} {a6 : List Api_Flood} {a7 : List Api_Vrf} {a8 : List Api_Irb} : LoopOK Tryz.prog UU 2 102 (subC (codeOf Tryz.f20) [0, 1, 0, 0]) (fun s : (List Audit_Note) × Int => match s with | (l10, v11) => audit_auditor_records_auditor_note_own_L1 a1 a2 a3 a4 a5 a6 a7 a8 l10 v11)
  (fun s : (List Audit_Note) × Int => (match s with | (l10, v11) => [(0, .o 0), (1, .fn (.func 17) [.o 0] []), (17, .sl 78 a7), (18, .j (a7.length : Int)), (19, .j v11)] : Fr DD)) (fun s : (List Audit_Note) × Int => (match s with | (l10, v11) => [.box 66 [.sl 61 a1, .sl 52 a2, .sl 49 a3, .sl 63 a4, .sl 92 a5, .sl 76 a6, .sl 78 a7, .sl 103 a8, .os 1 l10.length] false, .w 33 l10] : Heap DD)) (fun r => match r with | l22 => .exit 0) (fun r => match r with | l22 => [(0, .o 0), (1, .fn (.func 17) [.o 0] [])]) (fun r => match r with | l22 => [.box 66 [.sl 61 a1, .sl 52 a2, .sl 49 a3, .sl 63 a4, .sl 92 a5, .sl 76 a6, .sl 78 a7, .sl 103 a8, .os 1 l22.length] false, .w 33 l22]) := by
 refine loop_sound3 (fun s q h => ?_) (fun r => ?_)
 ·obtain ⟨l10, v11⟩ := s; replace h : audit_auditor_records_auditor_note_own_L1 a1 a2 a3 a4 a5 a6 a7 a8 l10 v11 = some q := h
  unfold audit_auditor_records_auditor_note_own_L1 at h
  obtain ⟨h12, h⟩|⟨h12, h⟩ := ite_out h
  ·obtain ⟨x13, h14, h⟩ := bo h
   obtain ⟨r15, h16, h⟩ := bo h
   obtain ⟨h17, h⟩|⟨h17, h⟩ := ite_out h
   ·obtain ⟨r18, h19, h⟩ := bo h
    obtain rfl := oi h; exact rl [0, 1, 17, 18, 19] [0, 1] [.t, .row (c78 x13), .b r15, .t, .callm [0, 1] (.tup []) [.box 66 [.sl 61 a1, .sl 52 a2, .sl 49 a3, .sl 63 a4, .sl 92 a5, .sl 76 a6, .sl 78 a7, .sl 103 a8, .os 1 (List.length (l10 ++ [(⟨5, x13.row, v11, x13.dev⟩ : Audit_Note)]))] false, .w 33 (l10 ++ [(⟨5, x13.row, v11, x13.dev⟩ : Audit_Note)])]] (pc h12<|pc (ob78 h14)<|pc (k_audit_auditor_used h16)<|pc (rn l10.length)<|pc h17<|pc (k_audit_auditor_note_own h19)<|pn)
   ·obtain rfl := oi h; exact rl [0, 1, 17, 18, 19] [0, 1] [.t, .row (c78 x13), .b r15, .f] (pc h12<|pc (ob78 h14)<|pc (k_audit_auditor_used h16)<|pc (rn l10.length)<|pc h17<|pn)
  ·obtain rfl := oi h; exact rl [0, 1] [0, 1] [.f] (pc h12<|pn)
 ·exact Ex.noConfusion

theorem k_audit_auditor_records_auditor_note_own_L2 {a1 : List Api_Device} {a2 : List Api_Port} {a3 : List Api_Link} {a4 : List Api_Domain} {a5 : List Api_Static} {a6 : List Api_Flood} {a7 : List Api_Vrf} {a8 : List Api_Irb} : LoopOK Tryz.prog UU 2 102 (subC (codeOf Tryz.f20) [1, 0, 1, 0, 0]) (fun s : (List Audit_Note) × Int => match s with | (l25, v26) => audit_auditor_records_auditor_note_own_L2 a1 a2 a3 a4 a5 a6 a7 a8 l25 v26)
  (fun s : (List Audit_Note) × Int => (match s with | (l25, v26) => [(0, .o 0), (1, .fn (.func 17) [.o 0] []), (40, .sl 92 a5), (41, .j (a5.length : Int)), (42, .j v26)] : Fr DD)) (fun s : (List Audit_Note) × Int => (match s with | (l25, v26) => [.box 66 [.sl 61 a1, .sl 52 a2, .sl 49 a3, .sl 63 a4, .sl 92 a5, .sl 76 a6, .sl 78 a7, .sl 103 a8, .os 1 l25.length] false, .w 33 l25] : Heap DD)) (fun r => match r with | l37 => .exit 2) (fun r => match r with | l37 => [(0, .o 0), (1, .fn (.func 17) [.o 0] [])]) (fun r => match r with | l37 => [.box 66 [.sl 61 a1, .sl 52 a2, .sl 49 a3, .sl 63 a4, .sl 92 a5, .sl 76 a6, .sl 78 a7, .sl 103 a8, .os 1 l37.length] false, .w 33 l37]) := by
 refine loop_sound3 (fun s q h => ?_) (fun r => ?_)
 ·obtain ⟨l25, v26⟩ := s; replace h : audit_auditor_records_auditor_note_own_L2 a1 a2 a3 a4 a5 a6 a7 a8 l25 v26 = some q := h
  unfold audit_auditor_records_auditor_note_own_L2 at h
  obtain ⟨h27, h⟩|⟨h27, h⟩ := ite_out h
  ·obtain ⟨x28, h29, h⟩ := bo h
   obtain ⟨x30, h31, h⟩ := bo h
   obtain ⟨h32, h⟩|⟨h32, h⟩ := ite_out h
   ·obtain ⟨r33, h34, h⟩ := bo h
    obtain rfl := oi h; exact rl [0, 1, 40, 41, 42] [0, 1] [.t, .row (c92 x28), .row (c52 x30), .t, .callm [0, 1] (.tup []) [.box 66 [.sl 61 a1, .sl 52 a2, .sl 49 a3, .sl 63 a4, .sl 92 a5, .sl 76 a6, .sl 78 a7, .sl 103 a8, .os 1 (List.length (l25 ++ [(⟨6, x28.row, v26, x28.port⟩ : Audit_Note)]))] false, .w 33 (l25 ++ [(⟨6, x28.row, v26, x28.port⟩ : Audit_Note)])]] (pc h27<|pc (ob92 h29)<|pc (ob52 h31)<|pc h32<|pc (k_audit_auditor_note_own h34)<|pn)
   ·obtain rfl := oi h; exact rl [0, 1, 40, 41, 42] [0, 1] [.t, .row (c92 x28), .row (c52 x30), .f] (pc h27<|pc (ob92 h29)<|pc (ob52 h31)<|pc h32<|pn)
  ·obtain rfl := oi h; exact rl [0, 1] [0, 1] [.f] (pc h27<|pn)
 ·exact Ex.noConfusion

theorem k_audit_auditor_records_auditor_note_own_L4 {a1 : List Api_Device} {a2 : List Api_Port} {a3 : List Api_Link} {a4 : List Api_Domain} {a5 : List Api_Static} {a6 : List Api_Flood} {a7 : List Api_Vrf} {a8 : List Api_Irb} {l40 : List Audit_Note} {v41 : Int} {x43 : Api_Device} : LoopOK Tryz.prog UU 2 102 (subC (codeOf Tryz.f20) [1, 1, 1, 0, 0, 1, 1, 0, 0, 1, 1, 0, 1, 0, 0]) (fun s : Bool × Int => match s with | (v45, v46) => audit_auditor_records_auditor_note_own_L4 a1 a2 a3 a4 a5 a6 a7 a8 l40 v41 x43 v45 v46)
  (fun s : Bool × Int => (match s with | (v45, v46) => [(0, .o 0), (1, .fn (.func 17) [.o 0] []), (8, .j v41), (9, .o 2), (10, .y v45), (70, .sl 61 a1), (71, .j (a1.length : Int)), (72, .j v41), (81, .sl 52 a2), (82, .j (a2.length : Int)), (83, .j v46)] : Fr DD)) (fun s : Bool × Int => (match s with | (v45, v46) => [.box 66 [.sl 61 a1, .sl 52 a2, .sl 49 a3, .sl 63 a4, .sl 92 a5, .sl 76 a6, .sl 78 a7, .sl 103 a8, .os 1 l40.length] false, .w 33 l40, .box 61 (c61 x43) false] : Heap DD)) (fun r => match r with | v52 => .exit 6) (fun r => match r with | v52 => [(0, .o 0), (1, .fn (.func 17) [.o 0] []), (8, .j v41), (9, .o 2), (10, .y v52), (70, .sl 61 a1), (71, .j (a1.length : Int)), (72, .j v41)]) (fun r => match r with | v52 => [.box 66 [.sl 61 a1, .sl 52 a2, .sl 49 a3, .sl 63 a4, .sl 92 a5, .sl 76 a6, .sl 78 a7, .sl 103 a8, .os 1 l40.length] false, .w 33 l40, .box 61 (c61 x43) false]) := by
 refine loop_sound3 (fun s q h => ?_) (fun r => ?_)
 ·obtain ⟨v45, v46⟩ := s; replace h : audit_auditor_records_auditor_note_own_L4 a1 a2 a3 a4 a5 a6 a7 a8 l40 v41 x43 v45 v46 = some q := h
  unfold audit_auditor_records_auditor_note_own_L4 at h
  obtain ⟨h47, h⟩|⟨h47, h⟩ := ite_out h
  ·obtain ⟨x48, h49, h⟩ := bo h
   obtain ⟨h50, h⟩|⟨h50, h⟩ := ite_out h
   ·obtain rfl := oi h; exact rl [0, 1, 8, 9, 10, 70, 71, 72, 81, 82, 83] [0, 1, 2] [.t, .row (c52 x48), .t] (pc h47<|pc (ob52 h49)<|pc h50<|pn)
   ·obtain rfl := oi h; exact rl [0, 1, 8, 9, 10, 70, 71, 72, 81, 82, 83] [0, 1, 2] [.t, .row (c52 x48), .f] (pc h47<|pc (ob52 h49)<|pc h50<|pn)
  ·obtain rfl := oi h; exact rl [0, 1, 8, 9, 10, 70, 71, 72] [0, 1, 2] [.f] (pc h47<|pn)
 ·exact Ex.noConfusion

theorem k_audit_auditor_records_auditor_note_own_L3 {a1 : List Api_Device} {a2 : List Api_Port} {a3 : List Api_Link} {a4 : List Api_Domain} {a5 : List Api_Static} {a6 : List Api_Flood} {a7 : List Api_Vrf} {a8 : List Api_Irb} : LoopOK Tryz.prog UU 2 102 (subC (codeOf Tryz.f20) [1, 1, 1, 0, 0]) (fun s : (List Audit_Note) × Int => match s with | (l40, v41) => audit_auditor_records_auditor_note_own_L3 a1 a2 a3 a4 a5 a6 a7 a8 l40 v41)
  (fun s : (List Audit_Note) × Int => (match s with | (l40, v41) => [(0, .o 0), (1, .fn (.func 17) [.o 0] []), (70, .sl 61 a1), (71, .j (a1.length : Int)), (72, .j v41)] : Fr DD)) (fun s : (List Audit_Note) × Int => (match s with | (l40, v41) => [.box 66 [.sl 61 a1, .sl 52 a2, .sl 49 a3, .sl 63 a4, .sl 92 a5, .sl 76 a6, .sl 78 a7, .sl 103 a8, .os 1 l40.length] false, .w 33 l40] : Heap DD)) (fun r => match r with | l58 => .exit 4) (fun r => match r with | l58 => []) (fun r => match r with | l58 => [.box 66 [.sl 61 a1, .sl 52 a2, .sl 49 a3, .sl 63 a4, .sl 92 a5, .sl 76 a6, .sl 78 a7, .sl 103 a8, .os 1 l58.length] false, .w 33 l58]) := by
 refine loop_sound3 (fun s q h => ?_) (fun r => ?_)
 ·obtain ⟨l40, v41⟩ := s; replace h : audit_auditor_records_auditor_note_own_L3 a1 a2 a3 a4 a5 a6 a7 a8 l40 v41 = some q := h
  unfold audit_auditor_records_auditor_note_own_L3 at h
  obtain ⟨h42, h⟩|⟨h42, h⟩ := ite_out h
  ·obtain ⟨x43, h44, h⟩ := bo h
   obtain ⟨v52, h53, h⟩ := bo h
   obtain ⟨h55, h⟩|⟨h55, h⟩ := ite_out h
   ·obtain ⟨r56, h57, h⟩ := bo h
    obtain rfl := oi h; exact rl [0, 1, 70, 71, 72] [0, 1] [.t, .row (c61 x43), .sum [0, 1, 8, 9, 10, 70, 71, 72, 81, 82, 83] [0, 1, 2] (.exit 6) [(0, .o 0), (1, .fn (.func 17) [.o 0] []), (8, .j v41), (9, .o 2), (10, .y v52), (70, .sl 61 a1), (71, .j (a1.length : Int)), (72, .j v41)] [.box 66 [.sl 61 a1, .sl 52 a2, .sl 49 a3, .sl 63 a4, .sl 92 a5, .sl 76 a6, .sl 78 a7, .sl 103 a8, .os 1 l40.length] false, .w 33 l40, .box 61 (c61 x43) false], .t, .callm [0, 1] (.tup []) [.box 66 [.sl 61 a1, .sl 52 a2, .sl 49 a3, .sl 63 a4, .sl 92 a5, .sl 76 a6, .sl 78 a7, .sl 103 a8, .os 1 (List.length (l40 ++ [(⟨7, x43.row, v41, 0⟩ : Audit_Note)]))] false, .w 33 (l40 ++ [(⟨7, x43.row, v41, 0⟩ : Audit_Note)])]] (pc h42<|pc (ob61 h44)<|pc (k_audit_auditor_records_auditor_note_own_L4 _ _ h53)<|pc h55<|pc (k_audit_auditor_note_own h57)<|pn)
   ·obtain rfl := oi h; exact rl [0, 1, 70, 71, 72] [0, 1] [.t, .row (c61 x43), .sum [0, 1, 8, 9, 10, 70, 71, 72, 81, 82, 83] [0, 1, 2] (.exit 6) [(0, .o 0), (1, .fn (.func 17) [.o 0] []), (8, .j v41), (9, .o 2), (10, .y v52), (70, .sl 61 a1), (71, .j (a1.length : Int)), (72, .j v41)] [.box 66 [.sl 61 a1, .sl 52 a2, .sl 49 a3, .sl 63 a4, .sl 92 a5, .sl 76 a6, .sl 78 a7, .sl 103 a8, .os 1 l40.length] false, .w 33 l40, .box 61 (c61 x43) false], .f] (pc h42<|pc (ob61 h44)<|pc (k_audit_auditor_records_auditor_note_own_L4 _ _ h53)<|pc h55<|pn)
  ·obtain rfl := oi h; exact rl [] [0, 1] [.f] (pc h42<|pn)
 ·exact Ex.noConfusion

theorem k_audit_auditor_records_auditor_note_own {a1 : List Api_Device} {a2 : List Api_Port} {a3 : List Api_Link} {a4 : List Api_Domain} {a5 : List Api_Static} {a6 : List Api_Flood} {a7 : List Api_Vrf} {a8 : List Api_Irb} {a9 : List Audit_Note} {r : ((List Audit_Note))} (h : audit_auditor_records_auditor_note_own a1 a2 a3 a4 a5 a6 a7 a8 a9 = some r) :
  CallsOK Tryz.prog UU 20 [.o 0, .fn (.func 17) [.o 0] []] [.box 66 [.sl 61 a1, .sl 52 a2, .sl 49 a3, .sl 63 a4, .sl 92 a5, .sl 76 a6, .sl 78 a7, .sl 103 a8, .os 1 a9.length] false, .w 33 a9] ((fun r => match r with | l61 => .tup []) r) ((fun r => match r with | l61 => [.box 66 [.sl 61 a1, .sl 52 a2, .sl 49 a3, .sl 63 a4, .sl 92 a5, .sl 76 a6, .sl 78 a7, .sl 103 a8, .os 1 l61.length] false, .w 33 l61]) r) := by
 unfold audit_auditor_records_auditor_note_own at h
 obtain ⟨l22, h23, h⟩ := bo h
 obtain ⟨l37, h38, h⟩ := bo h
 obtain ⟨l58, h59, h⟩ := bo h
 obtain rfl := oi h; exact rf Tryz.func20 (some [0, 1]) [.sum [0, 1, 17, 18, 19] [0, 1] (.exit 0) [(0, .o 0), (1, .fn (.func 17) [.o 0] [])] [.box 66 [.sl 61 a1, .sl 52 a2, .sl 49 a3, .sl 63 a4, .sl 92 a5, .sl 76 a6, .sl 78 a7, .sl 103 a8, .os 1 l22.length] false, .w 33 l22], .sum [0, 1, 40, 41, 42] [0, 1] (.exit 2) [(0, .o 0), (1, .fn (.func 17) [.o 0] [])] [.box 66 [.sl 61 a1, .sl 52 a2, .sl 49 a3, .sl 63 a4, .sl 92 a5, .sl 76 a6, .sl 78 a7, .sl 103 a8, .os 1 l37.length] false, .w 33 l37], .sum [0, 1, 70, 71, 72] [0, 1] (.exit 4) [] [.box 66 [.sl 61 a1, .sl 52 a2, .sl 49 a3, .sl 63 a4, .sl 92 a5, .sl 76 a6, .sl 78 a7, .sl 103 a8, .os 1 l58.length] false, .w 33 l58]] (pc (k_audit_auditor_records_auditor_note_own_L1 _ _ h23)<|pc (k_audit_auditor_records_auditor_note_own_L2 _ _ h38)<|pc (k_audit_auditor_records_auditor_note_own_L3 _ _ h59)<|pn)

theorem k_addr_Right {a1 : Api_Prefix} {r : Bool} (h : addr_Right a1 = some r) :
  CallsOK Tryz.prog UU 109 [.agg (c101 a1)] [] (.y r) [] := by
 unfold addr_Right at h
 obtain ⟨h2, h⟩|⟨h2, h⟩ := ite_out h
 ·obtain rfl := oi h; exact rf Tryz.func109 none [.t] (pc h2<|pn)
 ·obtain rfl := oi h; exact rf Tryz.func109 none [.f] (pc h2<|pn)

theorem k_addr_rest {a1 : Api_Prefix} {r : Int} (h : addr_rest a1 = some r) :
  CallsOK Tryz.prog UU 110 [.agg (c101 a1)] [] (.v (.int .u32 r)) [] := by
 unfold addr_rest at h
 obtain ⟨h2, h⟩|⟨h2, h⟩ := ite_out h
 ·obtain rfl := oi h; exact rf Tryz.func110 none [] (pc (of_decide_eq_true h2)<|pn)
 ·cases h

theorem k_addr_First {a1 : Api_Prefix} {r : Int} (h : addr_First a1 = some r) :
  CallsOK Tryz.prog UU 83 [.agg (c101 a1)] [] (.v (.int .u32 r)) [] := by
 unfold addr_First at h
 obtain ⟨r2, h3, h⟩ := bo h
 obtain ⟨h4, h⟩|⟨h4, h⟩ := ite_out h
 ·obtain rfl := oi h; exact rf Tryz.func83 none [.b r2, .t] (pc (k_addr_Right h3)<|pc h4<|pn)
 ·obtain ⟨r5, h6, h⟩ := bo h
  obtain rfl := oi h; exact rf Tryz.func83 none [.b r2, .f, .callv (.v (.int .u32 r5))] (pc (k_addr_Right h3)<|pc h4<|pc (k_addr_rest h6)<|pn)

theorem k_addr_Last {a1 : Api_Prefix} {r : Int} (h : addr_Last a1 = some r) :
  CallsOK Tryz.prog UU 84 [.agg (c101 a1)] [] (.v (.int .u32 r)) [] := by
 unfold addr_Last at h
 obtain ⟨r2, h3, h⟩ := bo h
 obtain ⟨h4, h⟩|⟨h4, h⟩ := ite_out h
 ·obtain rfl := oi h; exact rf Tryz.func84 none [.b r2, .t] (pc (k_addr_Right h3)<|pc h4<|pn)
 ·obtain ⟨r5, h6, h⟩ := bo h
  obtain rfl := oi h; exact rf Tryz.func84 none [.b r2, .f, .callv (.v (.int .u32 r5))] (pc (k_addr_Right h3)<|pc h4<|pc (k_addr_rest h6)<|pn)

theorem k_route_device {a1 : Api_Net} {a2 : Int} {r : Int} (h : route_device a1 a2 = some r) :
  CallsOK Tryz.prog UU 125 [.agg (c31 a1), .j a2] [] (.j r) [] := by
 unfold route_device at h
 obtain ⟨x3, h4, h⟩ := bo h
 obtain ⟨x5, h6, h⟩ := bo h
 obtain rfl := oi h; exact rf Tryz.func125 none [.row (c103 x3), .row (c63 x5)] (pc (ob103 h4)<|pc (ob63 h6)<|pn)

theorem k_addr_Has {a1 : Api_Prefix} {a2 : Int} {r : Bool} (h : addr_Has a1 a2 = some r) :
  CallsOK Tryz.prog UU 126 [.agg (c101 a1), .v (.int .u32 a2)] [] (.y r) [] := by
 unfold addr_Has at h
 obtain ⟨r3, h4, h⟩ := bo h
 obtain ⟨h5, h⟩|⟨h5, h⟩ := ite_out h
 ·obtain ⟨r6, h7, h⟩ := bo h
  obtain rfl := oi h; exact rf Tryz.func126 none [.b r3, .t, .callv (.v (.int .u32 r6))] (pc (k_addr_Right h4)<|pc h5<|pc (k_addr_rest h7)<|pn)
 ·obtain rfl := oi h; exact rf Tryz.func126 none [.b r3, .f] (pc (k_addr_Right h4)<|pc h5<|pn)

theorem k_vrfs_Leaks_1 {a1 : Int} {a2 : Api_Vrf} {r : Bool} (h : vrfs_Leaks_1 a1 a2 = some r) :
  CallsOK Tryz.prog UU 147 [.j a1, .rp (c78 a2) 0] [] (.y r) [] := by
 unfold vrfs_Leaks_1 at h
 obtain ⟨r3, h4, h⟩ := bo h
 obtain rfl := oi h; exact rf Tryz.func147 none [.b r3] (pc (k_slices_Contains_int h4)<|pn)

theorem k_slices_IndexFunc_int_Leaks_1_L1 {a1 : List Int} {a2 : Api_Vrf} : LoopOK Tryz.prog UU 0 19 (subC (codeOf Tryz.f124) [1, 0, 1, 0, 0]) (ρ := Int ⊕ Unit) (slices_IndexFunc_int_Leaks_1_L1 a1 a2)
  (fun v3 : Int => ([(0, .sl 3 a1), (1, .fn (.func 147) [] [.rp (c78 a2) 0]), (4, .z), (7, .j (a1.length : Int)), (8, .j v3)] : Fr DD)) (fun v3 : Int => ([] : Heap DD)) (fun r => match r with | Sum.inl v11 => .ret | Sum.inr _ => .exit 0) (fun r => match r with | Sum.inl v11 => [(4, .j v11)] | Sum.inr _ => [(4, .z)]) (fun r => match r with | Sum.inl v11 => [] | Sum.inr _ => []) := by
 refine loop_sound3 (fun s q h => ?_) (fun r => ?_)
 ·replace h : slices_IndexFunc_int_Leaks_1_L1 a1 a2 s = some q := h; revert h; revert s; intro v3 h
  unfold slices_IndexFunc_int_Leaks_1_L1 at h
  obtain ⟨h4, h⟩|⟨h4, h⟩ := ite_out h
  ·obtain ⟨x5, h6, h⟩ := bo h
   obtain ⟨r7, h8, h⟩ := bo h
   obtain ⟨h9, h⟩|⟨h9, h⟩ := ite_out h
   ·obtain rfl := oi h; exact rl [4] [] [.t, .row (c3 x5), .b r7, .t] (pc h4<|pc (ob3 h6)<|pc (k_vrfs_Leaks_1 h8)<|pc h9<|pn)
   ·obtain rfl := oi h; exact rl [0, 1, 4, 7, 8] [] [.t, .row (c3 x5), .b r7, .f] (pc h4<|pc (ob3 h6)<|pc (k_vrfs_Leaks_1 h8)<|pc h9<|pn)
  ·obtain rfl := oi h; exact rl [4] [] [.f] (pc h4<|pn)
 ·rcases r with _ | _ <;> exact Ex.noConfusion

theorem k_slices_IndexFunc_int_Leaks_1 {a1 : List Int} {a2 : Api_Vrf} {r : Int} (h : slices_IndexFunc_int_Leaks_1 a1 a2 = some r) :
  CallsOK Tryz.prog UU 124 [.sl 3 a1, .fn (.func 147) [] [.rp (c78 a2) 0]] [] (.j r) [] := by
 unfold slices_IndexFunc_int_Leaks_1 at h
 obtain ⟨r13, h12, h⟩ := bo h
 rcases r13 with v11 | _
 ·obtain rfl := oi h; exact rf Tryz.func124 none [.sum [0, 1, 4, 7, 8] [] .ret [(4, .j v11)] []] (pc (k_slices_IndexFunc_int_Leaks_1_L1 _ _ h12)<|pn)
 ·obtain rfl := oi h; exact rf Tryz.func124 none [.sum [0, 1, 4, 7, 8] [] (.exit 0) [(4, .z)] []] (pc (k_slices_IndexFunc_int_Leaks_1_L1 _ _ h12)<|pn)

theorem k_slices_ContainsFunc_int_Leaks_1 {a1 : List Int} {a2 : Api_Vrf} {r : Bool} (h : slices_ContainsFunc_int_Leaks_1 a1 a2 = some r) :
  CallsOK Tryz.prog UU 148 [.sl 3 a1, .fn (.func 147) [] [.rp (c78 a2) 0]] [] (.y r) [] := by
 unfold slices_ContainsFunc_int_Leaks_1 at h
 obtain ⟨r3, h4, h⟩ := bo h
 obtain rfl := oi h; exact rf Tryz.func148 none [.callv (.j r3)] (pc (k_slices_IndexFunc_int_Leaks_1 h4)<|pn)

theorem k_vrfs_Leaks {a1 : Api_Net} {a2 : Int} {a3 : Int} {r : Bool} (h : vrfs_Leaks a1 a2 a3 = some r) :
  CallsOK Tryz.prog UU 141 [.agg (c31 a1), .j a2, .j a3] [] (.y r) [] := by
 unfold vrfs_Leaks at h
 obtain ⟨h4, h⟩|⟨h4, h⟩ := ite_out h
 ·obtain rfl := oi h; exact rf Tryz.func141 none [.t] (pc h4<|pn)
 ·obtain ⟨h5, h⟩|⟨h5, h⟩ := ite_out h
  ·obtain rfl := oi h; exact rf Tryz.func141 none [.f, .t] (pc h4<|pc h5<|pn)
  ·obtain ⟨h6, h⟩|⟨h6, h⟩ := ite_out h
   ·obtain rfl := oi h; exact rf Tryz.func141 none [.f, .f, .t] (pc h4<|pc h5<|pc h6<|pn)
   ·obtain ⟨h7, h⟩|⟨h7, h⟩ := ite_out h
    ·obtain rfl := oi h; exact rf Tryz.func141 none [.f, .f, .f, .t] (pc h4<|pc h5<|pc h6<|pc h7<|pn)
    ·obtain ⟨r8, h9, h⟩ := bo h
     obtain ⟨h10, h⟩|⟨h10, h⟩ := ite_out h
     ·obtain rfl := oi h; exact rf Tryz.func141 none [.f, .f, .f, .f, .b r8, .t] (pc h4<|pc h5<|pc h6<|pc h7<|pc (k_names_Right h9)<|pc h10<|pn)
     ·obtain ⟨x11, h12, h⟩ := bo h
      obtain ⟨x13, h14, h⟩ := bo h
      obtain ⟨h15, h⟩|⟨h15, h⟩ := ite_out h
      ·obtain rfl := oi h; exact rf Tryz.func141 none [.f, .f, .f, .f, .b r8, .f, .row (c78 x11), .row (c78 x13), .t] (pc h4<|pc h5<|pc h6<|pc h7<|pc (k_names_Right h9)<|pc h10<|pc (ob78 h12)<|pc (ob78 h14)<|pc h15<|pn)
      ·obtain ⟨h16, h⟩|⟨h16, h⟩ := ite_out h
       ·obtain ⟨r17, h18, h⟩ := bo h
        obtain rfl := oi h; exact rf Tryz.func141 none [.f, .f, .f, .f, .b r8, .f, .row (c78 x11), .row (c78 x13), .f, .t, .b r17] (pc h4<|pc h5<|pc h6<|pc h7<|pc (k_names_Right h9)<|pc h10<|pc (ob78 h12)<|pc (ob78 h14)<|pc h15<|pc h16<|pc (k_slices_ContainsFunc_int_Leaks_1 h18)<|pn)
       ·obtain rfl := oi h; exact rf Tryz.func141 none [.f, .f, .f, .f, .b r8, .f, .row (c78 x11), .row (c78 x13), .f, .f] (pc h4<|pc h5<|pc h6<|pc h7<|pc (k_names_Right h9)<|pc h10<|pc (ob78 h12)<|pc (ob78 h14)<|pc h15<|pc h16<|pn)

theorem k_route_sees {a1 : Api_Net} {a2 : Int} {a3 : Int} {r : Bool} (h : route_sees a1 a2 a3 = some r) :
  CallsOK Tryz.prog UU 127 [.agg (c31 a1), .j a2, .j a3] [] (.y r) [] := by
 unfold route_sees at h
 obtain ⟨r4, h5, h⟩ := bo h
 obtain ⟨r6, h7, h⟩ := bo h
 obtain ⟨h8, h⟩|⟨h8, h⟩ := ite_out h
 ·obtain ⟨x9, h10, h⟩ := bo h
  obtain ⟨x11, h12, h⟩ := bo h
  obtain ⟨r13, h14, h⟩ := bo h
  obtain rfl := oi h; exact rf Tryz.func127 none [.callv (.j r4), .callv (.j r6), .t, .row (c103 x9), .row (c103 x11), .b r13] (pc (k_route_device h5)<|pc (k_route_device h7)<|pc h8<|pc (ob103 h10)<|pc (ob103 h12)<|pc (k_vrfs_Leaks h14)<|pn)
 ·obtain rfl := oi h; exact rf Tryz.func127 none [.callv (.j r4), .callv (.j r6), .f] (pc (k_route_device h5)<|pc (k_route_device h7)<|pc h8<|pn)

theorem k_route_lookup_1 {a1 : Int} {a2 : Api_Net} {a3 : Int} {r : Int} (h : route_lookup_1 a1 a2 a3 = some r) :
  CallsOK Tryz.prog UU 128 [.j a1, .rp (c31 a2) 0, .rp (c3 a3) 0] [] (.j r) [] := by
 unfold route_lookup_1 at h
 obtain ⟨x4, h5, h⟩ := bo h
 obtain ⟨x6, h7, h⟩ := bo h
 obtain ⟨h8, h⟩|⟨h8, h⟩ := ite_out h
 ·obtain rfl := oi h; exact rf Tryz.func128 none [.row (c103 x4), .row (c103 x6), .t] (pc (ob103 h5)<|pc (ob103 h7)<|pc h8<|pn)
 ·obtain rfl := oi h; exact rf Tryz.func128 none [.row (c103 x4), .row (c103 x6), .f] (pc (ob103 h5)<|pc (ob103 h7)<|pc h8<|pn)

theorem k_route_lookup_2 {a1 : Int} {a2 : Int} {a3 : Api_Net} {a4 : Api_Net} {a5 : Int} {r : Int} (h : route_lookup_2 a1 a2 a3 a4 a5 = some r) :
  CallsOK Tryz.prog UU 130 [.j a1, .j a2, .rp (c31 a3) 0, .rp [.fn (.func 128) [] [.rp (c31 a4) 0, .rp (c3 a5) 0]] 0] [] (.j r) [] := by
 unfold route_lookup_2 at h
 obtain ⟨x6, h7, h⟩ := bo h
 obtain ⟨x8, h9, h⟩ := bo h
 obtain ⟨h10, h⟩|⟨h10, h⟩ := ite_out h
 ·obtain rfl := oi h; exact rf Tryz.func130 none [.row (c103 x6), .row (c103 x8), .t] (pc (ob103 h7)<|pc (ob103 h9)<|pc h10<|pn)
 ·obtain ⟨r11, h12, h⟩ := bo h
  obtain ⟨r13, h14, h⟩ := bo h
  obtain rfl := oi h; exact rf Tryz.func130 none [.row (c103 x6), .row (c103 x8), .f, .callv (.j r11), .callv (.j r13)] (pc (ob103 h7)<|pc (ob103 h9)<|pc h10<|pc (k_route_lookup_1 h12)<|pc (k_route_lookup_1 h14)<|pn)

theorem k_slices_MaxFunc_int_lookup_2_L1 {a1 : List Int} {a2 : Api_Net} {a3 : Api_Net} {a4 : Int} : LoopOK Tryz.prog UU 0 33 (subC (codeOf Tryz.f129) [1, 1, 1, 0, 1, 0, 0]) (fun s : Int × Int => match s with | (v8, v9) => slices_MaxFunc_int_lookup_2_L1 a1 a2 a3 a4 v8 v9)
  (fun s : Int × Int => (match s with | (v8, v9) => [(0, .sl 3 a1), (1, .fn (.func 130) [] [.rp (c31 a2) 0, .rp [.fn (.func 128) [] [.rp (c31 a3) 0, .rp (c3 a4) 0]] 0]), (4, .z), (5, .j v8), (6, .j v9)] : Fr DD)) (fun s : Int × Int => (match s with | (v8, v9) => [] : Heap DD)) (fun r => match r with | v19 => .exit 0) (fun r => match r with | v19 => [(4, .z), (5, .j v19)]) (fun r => match r with | v19 => []) := by
 refine loop_sound3 (fun s q h => ?_) (fun r => ?_)
 ·obtain ⟨v8, v9⟩ := s; replace h : slices_MaxFunc_int_lookup_2_L1 a1 a2 a3 a4 v8 v9 = some q := h
  unfold slices_MaxFunc_int_lookup_2_L1 at h
  obtain ⟨h10, h⟩|⟨h10, h⟩ := ite_out h
  ·obtain ⟨x11, h12, h⟩ := bo h
   obtain ⟨r13, h14, h⟩ := bo h
   obtain ⟨h15, h⟩|⟨h15, h⟩ := ite_out h
   ·obtain ⟨x16, h17, h⟩ := bo h
    obtain rfl := oi h; exact rl [0, 1, 4, 5, 6] [] [.t, .row (c3 x11), .callv (.j r13), .t, .row (c3 x16)] (pc h10<|pc (ob3 h12)<|pc (k_route_lookup_2 h14)<|pc h15<|pc (ob3 h17)<|pn)
   ·obtain rfl := oi h; exact rl [0, 1, 4, 5, 6] [] [.t, .row (c3 x11), .callv (.j r13), .f] (pc h10<|pc (ob3 h12)<|pc (k_route_lookup_2 h14)<|pc h15<|pn)
  ·obtain rfl := oi h; exact rl [4, 5] [] [.f] (pc h10<|pn)
 ·exact Ex.noConfusion

theorem k_slices_MaxFunc_int_lookup_2 {a1 : List Int} {a2 : Api_Net} {a3 : Api_Net} {a4 : Int} {r : Int} (h : slices_MaxFunc_int_lookup_2 a1 a2 a3 a4 = some r) :
  CallsOK Tryz.prog UU 129 [.sl 3 a1, .fn (.func 130) [] [.rp (c31 a2) 0, .rp [.fn (.func 128) [] [.rp (c31 a3) 0, .rp (c3 a4) 0]] 0]] [] (.j r) [] := by
 unfold slices_MaxFunc_int_lookup_2 at h
 obtain ⟨h5, h⟩|⟨h5, h⟩ := ite_out h
 ·cases h
 ·obtain ⟨x6, h7, h⟩ := bo h
  obtain ⟨v19, h20, h⟩ := bo h
  obtain rfl := oi h; exact rf Tryz.func129 none [.f, .row (c3 x6), .sum [0, 1, 4, 5, 6] [] (.exit 0) [(4, .z), (5, .j v19)] []] (pc h5<|pc (ob3 h7)<|pc (k_slices_MaxFunc_int_lookup_2_L1 _ _ h20)<|pn)

theorem k_route_lookup_J2 {a1 : Api_Net} {a2 : Int} {a3 : Int} {l4 : List Int} {v5 : Int} {x7 : Api_Irb} {r : Unit ⊕ Unit} (h : route_lookup_J2 a1 a2 a3 l4 v5 x7 = some r) :
  ExecOK Tryz.prog UU 0 56 (subC (codeOf Tryz.f111) [1, 1, 0, 1, 0, 0, 1, 1, 0, 0, 1, 0]) [(2, .v (.int .u32 a3)), (3, .o 0), (4, .o 1), (6, .z), (7, .y false), (8, .os 2 l4.length), (9, .j v5), (10, .o 3), (13, .sl 103 a1.irbs), (14, .j (a1.irbs.length : Int)), (15, .j v5)] [.box 31 (c31 a1) false, .box 3 [.j a2] false, .w 3 l4, .box 103 (c103 x7) false] ((fun r => match r with | Sum.inl _ => .ret | Sum.inr _ => .nor) r) ((fun r => match r with | Sum.inl _ => [(6, .z), (7, .y false)] | Sum.inr _ => [(2, .v (.int .u32 a3)), (3, .o 0), (4, .o 1), (6, .z), (7, .y false), (8, .os 2 l4.length), (9, .j v5), (10, .o 3), (13, .sl 103 a1.irbs), (14, .j (a1.irbs.length : Int)), (15, .j v5)]) r) ((fun r => match r with | Sum.inl _ => [] | Sum.inr _ => [.box 31 (c31 a1) false, .box 3 [.j a2] false, .w 3 l4, .box 103 (c103 x7) false]) r) := by
 unfold route_lookup_J2 at h
 obtain ⟨r9, h10, h⟩ := bo h
 obtain ⟨r11, h12, h⟩ := bo h
 obtain ⟨h13, h⟩|⟨h13, h⟩ := ite_out h
 ·obtain ⟨h14, h⟩|⟨h14, h⟩ := ite_out h
  ·obtain rfl := oi h; exact rl [6, 7] [] [.callv (.j r9), .callv (.j r11), .t, .t] (pc (k_route_device h10)<|pc (k_route_device h12)<|pc h13<|pc h14<|pn)
  ·obtain rfl := oi h; exact rl [2, 3, 4, 6, 7, 8, 9, 10, 13, 14, 15] [0, 1, 2, 3] [.callv (.j r9), .callv (.j r11), .t, .f] (pc (k_route_device h10)<|pc (k_route_device h12)<|pc h13<|pc h14<|pn)
 ·obtain rfl := oi h; exact rl [2, 3, 4, 6, 7, 8, 9, 10, 13, 14, 15] [0, 1, 2, 3] [.callv (.j r9), .callv (.j r11), .f] (pc (k_route_device h10)<|pc (k_route_device h12)<|pc h13<|pn)

theorem k_route_lookup_L1 {a1 : Api_Net} {a2 : Int} {a3 : Int} : LoopOK Tryz.prog UU 0 56 (subC (codeOf Tryz.f111) [1, 1, 0, 1, 0, 0]) (fun s : (List Int) × Int => match s with | (l4, v5) => route_lookup_L1 a1 a2 a3 l4 v5)
  (fun s : (List Int) × Int => (match s with | (l4, v5) => [(2, .v (.int .u32 a3)), (3, .o 0), (4, .o 1), (6, .z), (7, .y false), (8, .os 2 l4.length), (13, .sl 103 a1.irbs), (14, .j (a1.irbs.length : Int)), (15, .j v5)] : Fr DD)) (fun s : (List Int) × Int => (match s with | (l4, v5) => [.box 31 (c31 a1) false, .box 3 [.j a2] false, .w 3 l4] : Heap DD)) (fun r => match r with | Sum.inl _ => .ret | Sum.inr l29 => .exit 0) (fun r => match r with | Sum.inl _ => [(6, .z), (7, .y false)] | Sum.inr l29 => [(3, .o 0), (4, .o 1), (6, .z), (7, .y false), (8, .os 2 l29.length)]) (fun r => match r with | Sum.inl _ => [] | Sum.inr l29 => [.box 31 (c31 a1) false, .box 3 [.j a2] false, .w 3 l29]) := by
 refine loop_sound3 (fun s q h => ?_) (fun r => ?_)
 ·obtain ⟨l4, v5⟩ := s; replace h : route_lookup_L1 a1 a2 a3 l4 v5 = some q := h
  unfold route_lookup_L1 at h
  obtain ⟨h6, h⟩|⟨h6, h⟩ := ite_out h
  ·obtain ⟨x7, h8, h⟩ := bo h
   obtain ⟨r16, h15, h⟩ := bo h
   rcases r16 with _ | _
   ·obtain rfl := oi h; exact rl [6, 7] [] [.t, .row (c103 x7), .cut [2, 3, 4, 6, 7, 8, 9, 10, 13, 14, 15] [0, 1, 2, 3] .ret [(6, .z), (7, .y false)] []] (pc h6<|pc (ob103 h8)<|pc (k_route_lookup_J2 h15)<|pn)
   ·obtain ⟨r17, h18, h⟩ := bo h
    obtain ⟨h19, h⟩|⟨h19, h⟩ := ite_out h
    ·obtain ⟨r20, h21, h⟩ := bo h
     obtain ⟨h22, h⟩|⟨h22, h⟩ := ite_out h
     ·obtain ⟨h23, h⟩|⟨h23, h⟩ := ite_out h
      ·obtain rfl := oi h; exact rl [2, 3, 4, 6, 7, 8, 13, 14, 15] [0, 1, 2] [.t, .row (c103 x7), .cut [2, 3, 4, 6, 7, 8, 9, 10, 13, 14, 15] [0, 1, 2, 3] .nor [(2, .v (.int .u32 a3)), (3, .o 0), (4, .o 1), (6, .z), (7, .y false), (8, .os 2 l4.length), (9, .j v5), (10, .o 3), (13, .sl 103 a1.irbs), (14, .j (a1.irbs.length : Int)), (15, .j v5)] [.box 31 (c31 a1) false, .box 3 [.j a2] false, .w 3 l4, .box 103 (c103 x7) false], .b r17, .t, .b r20, .t, .obj [] (.w 3 [v5]), .obj [] (.w 3 (l4 ++ [v5]))] (pc h6<|pc (ob103 h8)<|pc (k_route_lookup_J2 h15)<|pc (k_addr_Has h18)<|pc h19<|pc (k_route_sees h21)<|pc h22<|pc (bs_ob 3 [v5])<|pc (app_ob 3 (n := l4.length) (l := l4) (xs := [v5]) h23)<|pc (rn (List.length [v5]))<|pn)
      ·cases h
     ·obtain rfl := oi h; exact rl [2, 3, 4, 6, 7, 8, 13, 14, 15] [0, 1, 2] [.t, .row (c103 x7), .cut [2, 3, 4, 6, 7, 8, 9, 10, 13, 14, 15] [0, 1, 2, 3] .nor [(2, .v (.int .u32 a3)), (3, .o 0), (4, .o 1), (6, .z), (7, .y false), (8, .os 2 l4.length), (9, .j v5), (10, .o 3), (13, .sl 103 a1.irbs), (14, .j (a1.irbs.length : Int)), (15, .j v5)] [.box 31 (c31 a1) false, .box 3 [.j a2] false, .w 3 l4, .box 103 (c103 x7) false], .b r17, .t, .b r20, .f] (pc h6<|pc (ob103 h8)<|pc (k_route_lookup_J2 h15)<|pc (k_addr_Has h18)<|pc h19<|pc (k_route_sees h21)<|pc h22<|pn)
    ·obtain rfl := oi h; exact rl [2, 3, 4, 6, 7, 8, 13, 14, 15] [0, 1, 2] [.t, .row (c103 x7), .cut [2, 3, 4, 6, 7, 8, 9, 10, 13, 14, 15] [0, 1, 2, 3] .nor [(2, .v (.int .u32 a3)), (3, .o 0), (4, .o 1), (6, .z), (7, .y false), (8, .os 2 l4.length), (9, .j v5), (10, .o 3), (13, .sl 103 a1.irbs), (14, .j (a1.irbs.length : Int)), (15, .j v5)] [.box 31 (c31 a1) false, .box 3 [.j a2] false, .w 3 l4, .box 103 (c103 x7) false], .b r17, .f] (pc h6<|pc (ob103 h8)<|pc (k_route_lookup_J2 h15)<|pc (k_addr_Has h18)<|pc h19<|pn)
  ·obtain rfl := oi h; exact rl [3, 4, 6, 7, 8] [0, 1, 2] [.f] (pc h6<|pn)
 ·rcases r with _ | _ <;> exact Ex.noConfusion

theorem k_route_lookup {a1 : Api_Net} {a2 : Int} {a3 : Int} {r : Int × Bool} (h : route_lookup a1 a2 a3 = some r) :
  CallsOK Tryz.prog UU 111 [.agg (c31 a1), .j a2, .v (.int .u32 a3)] [] (.tup [.j r.1, .y r.2]) [] := by
 unfold route_lookup at h
 obtain ⟨r31, h30, h⟩ := bo h
 rcases r31 with _ | l29
 ·obtain rfl := oi h; exact rf Tryz.func111 none [.sum [2, 3, 4, 6, 7, 8, 13, 14, 15] [0, 1, 2] .ret [(6, .z), (7, .y false)] []] (pc (k_route_lookup_L1 _ _ h30)<|pn)
 ·obtain ⟨h32, h⟩|⟨h32, h⟩ := ite_out h
  ·obtain rfl := oi h; exact rf Tryz.func111 none [.sum [2, 3, 4, 6, 7, 8, 13, 14, 15] [0, 1, 2] (.exit 0) [(3, .o 0), (4, .o 1), (6, .z), (7, .y false), (8, .os 2 l29.length)] [.box 31 (c31 a1) false, .box 3 [.j a2] false, .w 3 l29], .t] (pc (k_route_lookup_L1 _ _ h30)<|pc (rn l29.length)<|pc h32<|pn)
  ·obtain ⟨r33, h34, h⟩ := bo h
   obtain rfl := oi h; exact rf Tryz.func111 none [.sum [2, 3, 4, 6, 7, 8, 13, 14, 15] [0, 1, 2] (.exit 0) [(3, .o 0), (4, .o 1), (6, .z), (7, .y false), (8, .os 2 l29.length)] [.box 31 (c31 a1) false, .box 3 [.j a2] false, .w 3 l29], .f, .callv (.j r33)] (pc (k_route_lookup_L1 _ _ h30)<|pc (rn l29.length)<|pc h32<|pc (k_slices_MaxFunc_int_lookup_2 h34)<|pc (rn l29.length)<|pn)

theorem k_route_Lookup {a1 : Api_Net} {a2 : Int} {a3 : Int} {r : Int × Bool} (h : route_Lookup a1 a2 a3 = some r) :
  CallsOK Tryz.prog UU 85 [.agg (c31 a1), .j a2, .v (.int .u32 a3)] [] (.tup [.j r.1, .y r.2]) [] := by
 unfold route_Lookup at h
 obtain ⟨h4, h⟩|⟨h4, h⟩ := ite_out h
 ·obtain rfl := oi h; exact rf Tryz.func85 none [.t] (pc h4<|pn)
 ·obtain ⟨h5, h⟩|⟨h5, h⟩ := ite_out h
  ·obtain rfl := oi h; exact rf Tryz.func85 none [.f, .t] (pc h4<|pc h5<|pn)
  ·obtain ⟨r6, h7, h⟩ := bo h
   obtain ⟨h8, h⟩|⟨h8, h⟩ := ite_out h
   ·obtain rfl := oi h; exact rf Tryz.func85 none [.f, .f, .b r6, .t] (pc h4<|pc h5<|pc (k_names_Right h7)<|pc h8<|pn)
   ·obtain ⟨r9, h10, h⟩ := bo h
    obtain rfl := oi h; exact rf Tryz.func85 none [.f, .f, .b r6, .f, .callv (.tup [.j r9.1, .y r9.2])] (pc h4<|pc h5<|pc (k_names_Right h7)<|pc h8<|pc (k_route_lookup h10)<|pn)

theorem k_choose_Address_1 {a1 : Api_Irb} {a2 : Int} {r : Bool} (h : choose_Address_1 a1 a2 = some r) :
  CallsOK Tryz.prog UU 87 [.agg (c103 a1), .rp (c59 a2) 0] [] (.y r) [] := by
 unfold choose_Address_1 at h
 obtain rfl := oi h; exact rf Tryz.func87 none [] (pn)

theorem k_slices_IndexFunc_Irb_Address_1_L1 {a1 : List Api_Irb} {a2 : Int} : LoopOK Tryz.prog UU 0 19 (subC (codeOf Tryz.f112) [1, 0, 1, 0, 0]) (ρ := Int ⊕ Unit) (slices_IndexFunc_Irb_Address_1_L1 a1 a2)
  (fun v3 : Int => ([(0, .sl 103 a1), (1, .fn (.func 87) [] [.rp (c59 a2) 0]), (4, .z), (7, .j (a1.length : Int)), (8, .j v3)] : Fr DD)) (fun v3 : Int => ([] : Heap DD)) (fun r => match r with | Sum.inl v11 => .ret | Sum.inr _ => .exit 0) (fun r => match r with | Sum.inl v11 => [(4, .j v11)] | Sum.inr _ => [(4, .z)]) (fun r => match r with | Sum.inl v11 => [] | Sum.inr _ => []) := by
 refine loop_sound3 (fun s q h => ?_) (fun r => ?_)
 ·replace h : slices_IndexFunc_Irb_Address_1_L1 a1 a2 s = some q := h; revert h; revert s; intro v3 h
  unfold slices_IndexFunc_Irb_Address_1_L1 at h
  obtain ⟨h4, h⟩|⟨h4, h⟩ := ite_out h
  ·obtain ⟨x5, h6, h⟩ := bo h
   obtain ⟨r7, h8, h⟩ := bo h
   obtain ⟨h9, h⟩|⟨h9, h⟩ := ite_out h
   ·obtain rfl := oi h; exact rl [4] [] [.t, .row (c103 x5), .b r7, .t] (pc h4<|pc (ob103 h6)<|pc (k_choose_Address_1 h8)<|pc h9<|pn)
   ·obtain rfl := oi h; exact rl [0, 1, 4, 7, 8] [] [.t, .row (c103 x5), .b r7, .f] (pc h4<|pc (ob103 h6)<|pc (k_choose_Address_1 h8)<|pc h9<|pn)
  ·obtain rfl := oi h; exact rl [4] [] [.f] (pc h4<|pn)
 ·rcases r with _ | _ <;> exact Ex.noConfusion

theorem k_slices_IndexFunc_Irb_Address_1 {a1 : List Api_Irb} {a2 : Int} {r : Int} (h : slices_IndexFunc_Irb_Address_1 a1 a2 = some r) :
  CallsOK Tryz.prog UU 112 [.sl 103 a1, .fn (.func 87) [] [.rp (c59 a2) 0]] [] (.j r) [] := by
 unfold slices_IndexFunc_Irb_Address_1 at h
 obtain ⟨r13, h12, h⟩ := bo h
 rcases r13 with v11 | _
 ·obtain rfl := oi h; exact rf Tryz.func112 none [.sum [0, 1, 4, 7, 8] [] .ret [(4, .j v11)] []] (pc (k_slices_IndexFunc_Irb_Address_1_L1 _ _ h12)<|pn)
 ·obtain rfl := oi h; exact rf Tryz.func112 none [.sum [0, 1, 4, 7, 8] [] (.exit 0) [(4, .z)] []] (pc (k_slices_IndexFunc_Irb_Address_1_L1 _ _ h12)<|pn)

theorem k_slices_ContainsFunc_Irb_Address_1 {a1 : List Api_Irb} {a2 : Int} {r : Bool} (h : slices_ContainsFunc_Irb_Address_1 a1 a2 = some r) :
  CallsOK Tryz.prog UU 86 [.sl 103 a1, .fn (.func 87) [] [.rp (c59 a2) 0]] [] (.y r) [] := by
 unfold slices_ContainsFunc_Irb_Address_1 at h
 obtain ⟨r3, h4, h⟩ := bo h
 obtain rfl := oi h; exact rf Tryz.func86 none [.callv (.j r3)] (pc (k_slices_IndexFunc_Irb_Address_1 h4)<|pn)

theorem k_choose_past_1 {a1 : Api_Irb} {a2 : Int} {r : Bool} (h : choose_past_1 a1 a2 = some r) :
  CallsOK Tryz.prog UU 113 [.agg (c103 a1), .rp (c59 a2) 0] [] (.y r) [] := by
 unfold choose_past_1 at h
 obtain rfl := oi h; exact rf Tryz.func113 none [] (pn)

theorem k_slices_IndexFunc_Irb_past_1_L1 {a1 : List Api_Irb} {a2 : Int} : LoopOK Tryz.prog UU 0 19 (subC (codeOf Tryz.f112) [1, 0, 1, 0, 0]) (ρ := Int ⊕ Unit) (slices_IndexFunc_Irb_past_1_L1 a1 a2)
  (fun v3 : Int => ([(0, .sl 103 a1), (1, .fn (.func 113) [] [.rp (c59 a2) 0]), (4, .z), (7, .j (a1.length : Int)), (8, .j v3)] : Fr DD)) (fun v3 : Int => ([] : Heap DD)) (fun r => match r with | Sum.inl v11 => .ret | Sum.inr _ => .exit 0) (fun r => match r with | Sum.inl v11 => [(4, .j v11)] | Sum.inr _ => [(4, .z)]) (fun r => match r with | Sum.inl v11 => [] | Sum.inr _ => []) := by
 refine loop_sound3 (fun s q h => ?_) (fun r => ?_)
 ·replace h : slices_IndexFunc_Irb_past_1_L1 a1 a2 s = some q := h; revert h; revert s; intro v3 h
  unfold slices_IndexFunc_Irb_past_1_L1 at h
  obtain ⟨h4, h⟩|⟨h4, h⟩ := ite_out h
  ·obtain ⟨x5, h6, h⟩ := bo h
   obtain ⟨r7, h8, h⟩ := bo h
   obtain ⟨h9, h⟩|⟨h9, h⟩ := ite_out h
   ·obtain rfl := oi h; exact rl [4] [] [.t, .row (c103 x5), .b r7, .t] (pc h4<|pc (ob103 h6)<|pc (k_choose_past_1 h8)<|pc h9<|pn)
   ·obtain rfl := oi h; exact rl [0, 1, 4, 7, 8] [] [.t, .row (c103 x5), .b r7, .f] (pc h4<|pc (ob103 h6)<|pc (k_choose_past_1 h8)<|pc h9<|pn)
  ·obtain rfl := oi h; exact rl [4] [] [.f] (pc h4<|pn)
 ·rcases r with _ | _ <;> exact Ex.noConfusion

theorem k_slices_IndexFunc_Irb_past_1 {a1 : List Api_Irb} {a2 : Int} {r : Int} (h : slices_IndexFunc_Irb_past_1 a1 a2 = some r) :
  CallsOK Tryz.prog UU 112 [.sl 103 a1, .fn (.func 113) [] [.rp (c59 a2) 0]] [] (.j r) [] := by
 unfold slices_IndexFunc_Irb_past_1 at h
 obtain ⟨r13, h12, h⟩ := bo h
 rcases r13 with v11 | _
 ·obtain rfl := oi h; exact rf Tryz.func112 none [.sum [0, 1, 4, 7, 8] [] .ret [(4, .j v11)] []] (pc (k_slices_IndexFunc_Irb_past_1_L1 _ _ h12)<|pn)
 ·obtain rfl := oi h; exact rf Tryz.func112 none [.sum [0, 1, 4, 7, 8] [] (.exit 0) [(4, .z)] []] (pc (k_slices_IndexFunc_Irb_past_1_L1 _ _ h12)<|pn)

theorem k_slices_ContainsFunc_Irb_past_1 {a1 : List Api_Irb} {a2 : Int} {r : Bool} (h : slices_ContainsFunc_Irb_past_1 a1 a2 = some r) :
  CallsOK Tryz.prog UU 86 [.sl 103 a1, .fn (.func 113) [] [.rp (c59 a2) 0]] [] (.y r) [] := by
 unfold slices_ContainsFunc_Irb_past_1 at h
 obtain ⟨r3, h4, h⟩ := bo h
 obtain rfl := oi h; exact rf Tryz.func86 none [.callv (.j r3)] (pc (k_slices_IndexFunc_Irb_past_1 h4)<|pn)

theorem k_choose_past {a1 : Api_Net} {a2 : Int} {a3 : Int} {r : Int} (h : choose_past a1 a2 a3 = some r) :
  CallsOK Tryz.prog UU 88 [.agg (c31 a1), .v (.int .u32 a2), .j a3] [] (.j r) [] := by
 unfold choose_past at h
 obtain ⟨r4, h5, h⟩ := bo h
 obtain ⟨h6, h⟩|⟨h6, h⟩ := ite_out h
 ·obtain rfl := oi h; exact rf Tryz.func88 none [.b r4, .t] (pc (k_slices_ContainsFunc_Irb_past_1 h5)<|pc h6<|pn)
 ·obtain ⟨x7, h8, h⟩ := bo h
  obtain ⟨r9, h10, h⟩ := bo h
  obtain rfl := oi h; exact rf Tryz.func88 none [.b r4, .f, .row (c103 x7), .callv (.v (.int .u32 r9))] (pc (k_slices_ContainsFunc_Irb_past_1 h5)<|pc h6<|pc (ob103 h8)<|pc (k_addr_Last h10)<|pn)

end Go.Eng
