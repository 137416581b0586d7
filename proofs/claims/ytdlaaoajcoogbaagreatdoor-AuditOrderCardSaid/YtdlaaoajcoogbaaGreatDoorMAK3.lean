/- Part of the proof of AuditOrder: printed mirrors of the functions, or their contracts. No conditions. -/
import Derived.Test.YtdlaaoajcoogbaaGreatDoorMAK2
set_option linter.unusedVariables false
set_option maxRecDepth 100000
namespace Go.Eng
open Go Go.Proofs
theorem k_choose_Address_L1 {a1 : Api_Net} {a2 : Int} {a3 : Int} {r15 : Int} : LoopOK Tryz.prog UU 0 91 (subC (codeOf Tryz.f58) [1, 0, 1, 1, 1, 1, 0, 0, 0]) (ρ := Int ⊕ Unit) (choose_Address_L1 a1 a2 a3 r15)
  (fun v17 : Int => ([(1, .j a2), (2, .j a3), (3, .o 0), (6, .v (.int .u32 0)), (7, .y false), (9, .j v17), (10, .j (wr_i64 r15))] : Fr DD)) (fun v17 : Int => ([.box 31 (c31 a1) false] : Heap DD)) (fun r => match r with | Sum.inl v44 => .ret | Sum.inr _ => .exit 0) (fun r => match r with | Sum.inl v44 => [(6, .v (.int .u32 v44)), (7, .y true)] | Sum.inr _ => [(6, .v (.int .u32 0)), (7, .y false)]) (fun r => match r with | Sum.inl v44 => [] | Sum.inr _ => []) := by
 refine loop_sound3 (fun s q h => ?_) (fun r => ?_)
 ·replace h : choose_Address_L1 a1 a2 a3 r15 s = some q := h; revert h; revert s; intro v17 h
  unfold choose_Address_L1 at h
  obtain ⟨h18, h⟩|⟨h18, h⟩ := ite_out h
  ·obtain ⟨r19, h20, h⟩ := bo h
   obtain ⟨r21, h22, h⟩ := bo h
   obtain ⟨h23, h⟩|⟨h23, h⟩ := ite_out h
   ·obtain ⟨h24, h⟩|⟨h24, h⟩ := ite_out h
    ·obtain ⟨h25, h⟩|⟨h25, h⟩ := ite_out h
     ·obtain rfl := oi h; exact rl [6, 7] [] [.t, .callv (.tup [.j r19.1, .y r19.2]), .b r21, .t, .t, .t] (pc h18<|pc (k_route_Lookup h20)<|pc (k_slices_ContainsFunc_Irb_Address_1 h22)<|pc h23<|pc h24<|pc h25<|pn)
     ·obtain ⟨h26, h⟩|⟨h26, h⟩ := ite_out h
      ·obtain ⟨r27, h28, h⟩ := bo h
       obtain rfl := oi h; exact rl [1, 2, 3, 6, 7, 9, 10] [0] [.t, .callv (.tup [.j r19.1, .y r19.2]), .b r21, .t, .t, .f, .t, .f, .callv (.j r27)] (pc h18<|pc (k_route_Lookup h20)<|pc (k_slices_ContainsFunc_Irb_Address_1 h22)<|pc h23<|pc h24<|pc h25<|pc h26<|pc h25<|pc (k_choose_past h28)<|pn)
      ·obtain ⟨r29, h30, h⟩ := bo h
       obtain rfl := oi h; exact rl [1, 2, 3, 6, 7, 9, 10] [0] [.t, .callv (.tup [.j r19.1, .y r19.2]), .b r21, .t, .t, .f, .f, .callv (.j r29)] (pc h18<|pc (k_route_Lookup h20)<|pc (k_slices_ContainsFunc_Irb_Address_1 h22)<|pc h23<|pc h24<|pc h25<|pc h26<|pc (k_choose_past h30)<|pn)
    ·obtain ⟨h31, h⟩|⟨h31, h⟩ := ite_out h
     ·obtain ⟨h32, h⟩|⟨h32, h⟩ := ite_out h
      ·obtain rfl := oi h; exact rl [6, 7] [] [.t, .callv (.tup [.j r19.1, .y r19.2]), .b r21, .t, .f, .t, .t] (pc h18<|pc (k_route_Lookup h20)<|pc (k_slices_ContainsFunc_Irb_Address_1 h22)<|pc h23<|pc h24<|pc h31<|pc h32<|pn)
      ·obtain ⟨r33, h34, h⟩ := bo h
       obtain rfl := oi h; exact rl [1, 2, 3, 6, 7, 9, 10] [0] [.t, .callv (.tup [.j r19.1, .y r19.2]), .b r21, .t, .f, .t, .f, .callv (.j r33)] (pc h18<|pc (k_route_Lookup h20)<|pc (k_slices_ContainsFunc_Irb_Address_1 h22)<|pc h23<|pc h24<|pc h31<|pc h32<|pc (k_choose_past h34)<|pn)
     ·obtain ⟨r35, h36, h⟩ := bo h
      obtain rfl := oi h; exact rl [1, 2, 3, 6, 7, 9, 10] [0] [.t, .callv (.tup [.j r19.1, .y r19.2]), .b r21, .t, .f, .f, .callv (.j r35)] (pc h18<|pc (k_route_Lookup h20)<|pc (k_slices_ContainsFunc_Irb_Address_1 h22)<|pc h23<|pc h24<|pc h31<|pc (k_choose_past h36)<|pn)
   ·obtain ⟨h37, h⟩|⟨h37, h⟩ := ite_out h
    ·obtain ⟨h38, h⟩|⟨h38, h⟩ := ite_out h
     ·obtain rfl := oi h; exact rl [6, 7] [] [.t, .callv (.tup [.j r19.1, .y r19.2]), .b r21, .f, .t, .t] (pc h18<|pc (k_route_Lookup h20)<|pc (k_slices_ContainsFunc_Irb_Address_1 h22)<|pc h23<|pc h37<|pc h38<|pn)
     ·obtain ⟨r39, h40, h⟩ := bo h
      obtain rfl := oi h; exact rl [1, 2, 3, 6, 7, 9, 10] [0] [.t, .callv (.tup [.j r19.1, .y r19.2]), .b r21, .f, .t, .f, .callv (.j r39)] (pc h18<|pc (k_route_Lookup h20)<|pc (k_slices_ContainsFunc_Irb_Address_1 h22)<|pc h23<|pc h37<|pc h38<|pc (k_choose_past h40)<|pn)
    ·obtain ⟨r41, h42, h⟩ := bo h
     obtain rfl := oi h; exact rl [1, 2, 3, 6, 7, 9, 10] [0] [.t, .callv (.tup [.j r19.1, .y r19.2]), .b r21, .f, .f, .callv (.j r41)] (pc h18<|pc (k_route_Lookup h20)<|pc (k_slices_ContainsFunc_Irb_Address_1 h22)<|pc h23<|pc h37<|pc (k_choose_past h42)<|pn)
  ·obtain rfl := oi h; exact rl [6, 7] [] [.f] (pc h18<|pn)
 ·rcases r with _ | _ <;> exact Ex.noConfusion

theorem k_choose_Address {a1 : Api_Net} {a2 : Int} {a3 : Int} {r : Int × Bool} (h : choose_Address a1 a2 a3 = some r) :
  CallsOK Tryz.prog UU 58 [.agg (c31 a1), .j a2, .j a3] [] (.tup [.v (.int .u32 r.1), .y r.2]) [] := by
 unfold choose_Address at h
 obtain ⟨h4, h⟩|⟨h4, h⟩ := ite_out h
 ·obtain rfl := oi h; exact rf Tryz.func58 none [.t] (pc h4<|pn)
 ·obtain ⟨h5, h⟩|⟨h5, h⟩ := ite_out h
  ·obtain rfl := oi h; exact rf Tryz.func58 none [.f, .t] (pc h4<|pc h5<|pn)
  ·obtain ⟨h6, h⟩|⟨h6, h⟩ := ite_out h
   ·obtain rfl := oi h; exact rf Tryz.func58 none [.f, .f, .t] (pc h4<|pc h5<|pc h6<|pn)
   ·obtain ⟨h7, h⟩|⟨h7, h⟩ := ite_out h
    ·obtain rfl := oi h; exact rf Tryz.func58 none [.f, .f, .f, .t] (pc h4<|pc h5<|pc h6<|pc h7<|pn)
    ·obtain ⟨r8, h9, h⟩ := bo h
     obtain ⟨h10, h⟩|⟨h10, h⟩ := ite_out h
     ·obtain rfl := oi h; exact rf Tryz.func58 none [.f, .f, .f, .f, .b r8, .t] (pc h4<|pc h5<|pc h6<|pc h7<|pc (k_names_Right h9)<|pc h10<|pn)
     ·obtain ⟨x11, h12, h⟩ := bo h
      obtain ⟨r13, h14, h⟩ := bo h
      obtain ⟨r15, h16, h⟩ := bo h
      obtain ⟨r46, h45, h⟩ := bo h
      rcases r46 with v44 | _
      ·obtain rfl := oi h; exact rf Tryz.func58 none [.f, .f, .f, .f, .b r8, .f, .row (c103 x11), .callv (.v (.int .u32 r13)), .callv (.v (.int .u32 r15)), .sum [1, 2, 3, 6, 7, 9, 10] [0] .ret [(6, .v (.int .u32 v44)), (7, .y true)] []] (pc h4<|pc h5<|pc h6<|pc h7<|pc (k_names_Right h9)<|pc h10<|pc (ob103 h12)<|pc (k_addr_First h14)<|pc (k_addr_Last h16)<|pc (k_choose_Address_L1 _ _ h45)<|pn)
      ·obtain rfl := oi h; exact rf Tryz.func58 none [.f, .f, .f, .f, .b r8, .f, .row (c103 x11), .callv (.v (.int .u32 r13)), .callv (.v (.int .u32 r15)), .sum [1, 2, 3, 6, 7, 9, 10] [0] (.exit 0) [(6, .v (.int .u32 0)), (7, .y false)] []] (pc h4<|pc h5<|pc h6<|pc h7<|pc (k_names_Right h9)<|pc h10<|pc (ob103 h12)<|pc (k_addr_First h14)<|pc (k_addr_Last h16)<|pc (k_choose_Address_L1 _ _ h45)<|pn)

theorem k_audit_auditor_edges_auditor_note_own_L2 {a1 : List Api_Device} {a2 : List Api_Port} {a3 : List Api_Link} {a4 : List Api_Domain} {a5 : List Api_Static} {a6 : List Api_Flood} {a7 : List Api_Vrf} {a8 : List Api_Irb} {v11 : Int} {x13 : Api_Irb} : LoopOK Tryz.prog UU 2 87 (subC (codeOf Tryz.f21) [0, 1, 0, 0, 1, 1, 0, 0, 1, 1, 0, 0]) (fun s : (List Audit_Note) × Int => match s with | (l15, v16) => audit_auditor_edges_auditor_note_own_L2 a1 a2 a3 a4 a5 a6 a7 a8 v11 x13 l15 v16)
  (fun s : (List Audit_Note) × Int => (match s with | (l15, v16) => [(0, .o 0), (1, .fn (.func 17) [.o 0] []), (4, .j v11), (5, .o 2), (17, .sl 103 a8), (18, .j (a8.length : Int)), (19, .j v11), (28, .sl 103 a8), (29, .j (a8.length : Int)), (30, .j v16)] : Fr DD)) (fun s : (List Audit_Note) × Int => (match s with | (l15, v16) => [.box 66 [.sl 61 a1, .sl 52 a2, .sl 49 a3, .sl 63 a4, .sl 92 a5, .sl 76 a6, .sl 78 a7, .sl 103 a8, .os 1 l15.length] false, .w 33 l15, .box 103 (c103 x13) false] : Heap DD)) (fun r => match r with | l31 => .exit 2) (fun r => match r with | l31 => [(0, .o 0), (1, .fn (.func 17) [.o 0] []), (17, .sl 103 a8), (18, .j (a8.length : Int)), (19, .j v11)]) (fun r => match r with | l31 => [.box 66 [.sl 61 a1, .sl 52 a2, .sl 49 a3, .sl 63 a4, .sl 92 a5, .sl 76 a6, .sl 78 a7, .sl 103 a8, .os 1 l31.length] false, .w 33 l31]) := by
 refine loop_sound3 (fun s q h => ?_) (fun r => ?_)
 ·obtain ⟨l15, v16⟩ := s; replace h : audit_auditor_edges_auditor_note_own_L2 a1 a2 a3 a4 a5 a6 a7 a8 v11 x13 l15 v16 = some q := h
  unfold audit_auditor_edges_auditor_note_own_L2 at h
  obtain ⟨h17, h⟩|⟨h17, h⟩ := ite_out h
  ·obtain ⟨x18, h19, h⟩ := bo h
   obtain ⟨h20, h⟩|⟨h20, h⟩ := ite_out h
   ·obtain rfl := oi h; exact rl [0, 1, 4, 5, 17, 18, 19, 28, 29, 30] [0, 1, 2] [.t, .row (c103 x18), .t] (pc h17<|pc (ob103 h19)<|pc h20<|pn)
   ·obtain ⟨r21, h22, h⟩ := bo h
    obtain ⟨h23, h⟩|⟨h23, h⟩ := ite_out h
    ·obtain ⟨r24, h25, h⟩ := bo h
     obtain rfl := oi h; exact rl [0, 1, 4, 5, 17, 18, 19, 28, 29, 30] [0, 1, 2] [.t, .row (c103 x18), .f, .callv (.tup [.v (.int .u32 r21.1), .y r21.2]), .t, .callm [0, 1] (.tup []) [.box 66 [.sl 61 a1, .sl 52 a2, .sl 49 a3, .sl 63 a4, .sl 92 a5, .sl 76 a6, .sl 78 a7, .sl 103 a8, .os 1 (List.length (l15 ++ [(⟨8, x13.row, v11, v16⟩ : Audit_Note)]))] false, .w 33 (l15 ++ [(⟨8, x13.row, v11, v16⟩ : Audit_Note)])]] (pc h17<|pc (ob103 h19)<|pc h20<|pc (k_choose_Address h22)<|pc h23<|pc (k_audit_auditor_note_own h25)<|pn)
    ·obtain rfl := oi h; exact rl [0, 1, 4, 5, 17, 18, 19, 28, 29, 30] [0, 1, 2] [.t, .row (c103 x18), .f, .callv (.tup [.v (.int .u32 r21.1), .y r21.2]), .f] (pc h17<|pc (ob103 h19)<|pc h20<|pc (k_choose_Address h22)<|pc h23<|pn)
  ·obtain rfl := oi h; exact rl [0, 1, 17, 18, 19] [0, 1] [.f] (pc h17<|pn)
 ·exact Ex.noConfusion

theorem k_audit_auditor_edges_auditor_note_own_L1 {a1 : List Api_Device} {a2 : List Api_Port} {a3 : List Api_Link} {a4 : List Api_Domain} {a5 : List Api_Static} {a6 : List Api_Flood} {a7 : List Api_Vrf} {a8 : List Api_Irb} : LoopOK Tryz.prog UU 2 87 (subC (codeOf Tryz.f21) [0, 1, 0, 0]) (fun s : (List Audit_Note) × Int => match s with | (l10, v11) => audit_auditor_edges_auditor_note_own_L1 a1 a2 a3 a4 a5 a6 a7 a8 l10 v11)
  (fun s : (List Audit_Note) × Int => (match s with | (l10, v11) => [(0, .o 0), (1, .fn (.func 17) [.o 0] []), (17, .sl 103 a8), (18, .j (a8.length : Int)), (19, .j v11)] : Fr DD)) (fun s : (List Audit_Note) × Int => (match s with | (l10, v11) => [.box 66 [.sl 61 a1, .sl 52 a2, .sl 49 a3, .sl 63 a4, .sl 92 a5, .sl 76 a6, .sl 78 a7, .sl 103 a8, .os 1 l10.length] false, .w 33 l10] : Heap DD)) (fun r => match r with | l36 => .exit 0) (fun r => match r with | l36 => [(0, .o 0), (1, .fn (.func 17) [.o 0] [])]) (fun r => match r with | l36 => [.box 66 [.sl 61 a1, .sl 52 a2, .sl 49 a3, .sl 63 a4, .sl 92 a5, .sl 76 a6, .sl 78 a7, .sl 103 a8, .os 1 l36.length] false, .w 33 l36]) := by
 refine loop_sound3 (fun s q h => ?_) (fun r => ?_)
 ·obtain ⟨l10, v11⟩ := s; replace h : audit_auditor_edges_auditor_note_own_L1 a1 a2 a3 a4 a5 a6 a7 a8 l10 v11 = some q := h
  unfold audit_auditor_edges_auditor_note_own_L1 at h
  obtain ⟨h12, h⟩|⟨h12, h⟩ := ite_out h
  ·obtain ⟨x13, h14, h⟩ := bo h
   obtain ⟨l31, h32, h⟩ := bo h
   obtain rfl := oi h; exact rl [0, 1, 17, 18, 19] [0, 1] [.t, .row (c103 x13), .sum [0, 1, 4, 5, 17, 18, 19, 28, 29, 30] [0, 1, 2] (.exit 2) [(0, .o 0), (1, .fn (.func 17) [.o 0] []), (17, .sl 103 a8), (18, .j (a8.length : Int)), (19, .j v11)] [.box 66 [.sl 61 a1, .sl 52 a2, .sl 49 a3, .sl 63 a4, .sl 92 a5, .sl 76 a6, .sl 78 a7, .sl 103 a8, .os 1 l31.length] false, .w 33 l31]] (pc h12<|pc (ob103 h14)<|pc (k_audit_auditor_edges_auditor_note_own_L2 _ _ h32)<|pn)
  ·obtain rfl := oi h; exact rl [0, 1] [0, 1] [.f] (pc h12<|pn)
 ·exact Ex.noConfusion

theorem k_audit_auditor_edges_auditor_note_own_L3 {a1 : List Api_Device} {a2 : List Api_Port} {a3 : List Api_Link} {a4 : List Api_Domain} {a5 : List Api_Static} {a6 : List Api_Flood} {a7 : List Api_Vrf} {a8 : List Api_Irb} : LoopOK Tryz.prog UU 2 87 (subC (codeOf Tryz.f21) [1, 1, 0, 0]) (fun s : (List Audit_Note) × Int => match s with | (l39, v40) => audit_auditor_edges_auditor_note_own_L3 a1 a2 a3 a4 a5 a6 a7 a8 l39 v40)
  (fun s : (List Audit_Note) × Int => (match s with | (l39, v40) => [(1, .fn (.func 17) [.o 0] []), (63, .sl 52 a2), (64, .j (a2.length : Int)), (65, .j v40)] : Fr DD)) (fun s : (List Audit_Note) × Int => (match s with | (l39, v40) => [.box 66 [.sl 61 a1, .sl 52 a2, .sl 49 a3, .sl 63 a4, .sl 92 a5, .sl 76 a6, .sl 78 a7, .sl 103 a8, .os 1 l39.length] false, .w 33 l39] : Heap DD)) (fun r => match r with | l51 => .exit 4) (fun r => match r with | l51 => []) (fun r => match r with | l51 => [.box 66 [.sl 61 a1, .sl 52 a2, .sl 49 a3, .sl 63 a4, .sl 92 a5, .sl 76 a6, .sl 78 a7, .sl 103 a8, .os 1 l51.length] false, .w 33 l51]) := by
 refine loop_sound3 (fun s q h => ?_) (fun r => ?_)
 ·obtain ⟨l39, v40⟩ := s; replace h : audit_auditor_edges_auditor_note_own_L3 a1 a2 a3 a4 a5 a6 a7 a8 l39 v40 = some q := h
  unfold audit_auditor_edges_auditor_note_own_L3 at h
  obtain ⟨h41, h⟩|⟨h41, h⟩ := ite_out h
  ·obtain ⟨x42, h43, h⟩ := bo h
   obtain ⟨l46, h45, h⟩ := bo h
   obtain ⟨h47, h⟩|⟨h47, h⟩ := ite_out h
   ·obtain ⟨h48, h⟩|⟨h48, h⟩ := ite_out h
    ·obtain ⟨r49, h50, h⟩ := bo h
     obtain rfl := oi h; exact rl [1, 63, 64, 65] [0, 1] [.t, .row (c52 x42), .callo (.os 0 l46.length) [.w 3 l46], .t, .t, .callm [0, 1] (.tup []) [.box 66 [.sl 61 a1, .sl 52 a2, .sl 49 a3, .sl 63 a4, .sl 92 a5, .sl 76 a6, .sl 78 a7, .sl 103 a8, .os 1 (List.length (l39 ++ [(⟨9, x42.row, v40, (l46.length : Int)⟩ : Audit_Note)]))] false, .w 33 (l39 ++ [(⟨9, x42.row, v40, (l46.length : Int)⟩ : Audit_Note)])]] (pc h41<|pc (ob52 h43)<|pc (k_audit_vlans h45)<|pc (im3 l46)<|pc (rn l46.length)<|pc h47<|pc h48<|pc (k_audit_auditor_note_own h50)<|pn)
    ·obtain rfl := oi h; exact rl [1, 63, 64, 65] [0, 1] [.t, .row (c52 x42), .callo (.os 0 l46.length) [.w 3 l46], .t, .f] (pc h41<|pc (ob52 h43)<|pc (k_audit_vlans h45)<|pc (im3 l46)<|pc (rn l46.length)<|pc h47<|pc h48<|pn)
   ·obtain rfl := oi h; exact rl [1, 63, 64, 65] [0, 1] [.t, .row (c52 x42), .callo (.os 0 l46.length) [.w 3 l46], .f] (pc h41<|pc (ob52 h43)<|pc (k_audit_vlans h45)<|pc (im3 l46)<|pc (rn l46.length)<|pc h47<|pn)
  ·obtain rfl := oi h; exact rl [] [0, 1] [.f] (pc h41<|pn)
 ·exact Ex.noConfusion

theorem k_audit_auditor_edges_auditor_note_own {a1 : List Api_Device} {a2 : List Api_Port} {a3 : List Api_Link} {a4 : List Api_Domain} {a5 : List Api_Static} {a6 : List Api_Flood} {a7 : List Api_Vrf} {a8 : List Api_Irb} {a9 : List Audit_Note} {r : ((List Audit_Note))} (h : audit_auditor_edges_auditor_note_own a1 a2 a3 a4 a5 a6 a7 a8 a9 = some r) :
  CallsOK Tryz.prog UU 21 [.o 0, .fn (.func 17) [.o 0] []] [.box 66 [.sl 61 a1, .sl 52 a2, .sl 49 a3, .sl 63 a4, .sl 92 a5, .sl 76 a6, .sl 78 a7, .sl 103 a8, .os 1 a9.length] false, .w 33 a9] ((fun r => match r with | l54 => .tup []) r) ((fun r => match r with | l54 => [.box 66 [.sl 61 a1, .sl 52 a2, .sl 49 a3, .sl 63 a4, .sl 92 a5, .sl 76 a6, .sl 78 a7, .sl 103 a8, .os 1 l54.length] false, .w 33 l54]) r) := by
 unfold audit_auditor_edges_auditor_note_own at h
 obtain ⟨l36, h37, h⟩ := bo h
 obtain ⟨l51, h52, h⟩ := bo h
 obtain rfl := oi h; exact rf Tryz.func21 (some [0, 1]) [.sum [0, 1, 17, 18, 19] [0, 1] (.exit 0) [(0, .o 0), (1, .fn (.func 17) [.o 0] [])] [.box 66 [.sl 61 a1, .sl 52 a2, .sl 49 a3, .sl 63 a4, .sl 92 a5, .sl 76 a6, .sl 78 a7, .sl 103 a8, .os 1 l36.length] false, .w 33 l36], .sum [1, 63, 64, 65] [0, 1] (.exit 4) [] [.box 66 [.sl 61 a1, .sl 52 a2, .sl 49 a3, .sl 63 a4, .sl 92 a5, .sl 76 a6, .sl 78 a7, .sl 103 a8, .os 1 l51.length] false, .w 33 l51]] (pc (k_audit_auditor_edges_auditor_note_own_L1 _ _ h37)<|pc (k_audit_auditor_edges_auditor_note_own_L3 _ _ h52)<|pn)

theorem k_audit_All {a1 : Api_Net} {r : ((List Audit_Note) × Int)} (h : audit_All a1 = some r) :
  CallsOK Tryz.prog UU 8 [.agg (c31 a1)] [] ((fun r => match r with | (l17, v18) => .tup [.os 0 l17.length, .j v18]) r) ((fun r => match r with | (l17, v18) => [.w 33 l17]) r) := by
 unfold audit_All at h
 obtain ⟨r2, h3, h⟩ := bo h
 obtain ⟨h4, h⟩|⟨h4, h⟩ := ite_out h
 ·obtain rfl := oi h; exact rf Tryz.func8 (some [2]) [.b r2, .t] (pc (k_names_Right h3)<|pc h4<|pn)
 ·obtain ⟨l7, h6, h⟩ := bo h
  obtain ⟨l10, h9, h⟩ := bo h
  obtain ⟨l13, h12, h⟩ := bo h
  obtain ⟨l16, h15, h⟩ := bo h
  obtain rfl := oi h; exact rf Tryz.func8 (some [2]) [.b r2, .f, .callm [3, 2] (.tup []) [.box 66 [.sl 61 a1.devices, .sl 52 a1.ports, .sl 49 a1.links, .sl 63 a1.domains, .sl 92 a1.statics, .sl 76 a1.floods, .sl 78 a1.vrfs, .sl 103 a1.irbs, .os 1 l7.length] false, .w 33 l7], .callm [3, 2] (.tup []) [.box 66 [.sl 61 a1.devices, .sl 52 a1.ports, .sl 49 a1.links, .sl 63 a1.domains, .sl 92 a1.statics, .sl 76 a1.floods, .sl 78 a1.vrfs, .sl 103 a1.irbs, .os 1 l10.length] false, .w 33 l10], .callm [3, 2] (.tup []) [.box 66 [.sl 61 a1.devices, .sl 52 a1.ports, .sl 49 a1.links, .sl 63 a1.domains, .sl 92 a1.statics, .sl 76 a1.floods, .sl 78 a1.vrfs, .sl 103 a1.irbs, .os 1 l13.length] false, .w 33 l13], .callm [3, 2] (.tup []) [.box 66 [.sl 61 a1.devices, .sl 52 a1.ports, .sl 49 a1.links, .sl 63 a1.domains, .sl 92 a1.statics, .sl 76 a1.floods, .sl 78 a1.vrfs, .sl 103 a1.irbs, .os 1 l16.length] false, .w 33 l16]] (pc (k_names_Right h3)<|pc h4<|pc (k_audit_auditor_links_auditor_note_own h6)<|pc (k_audit_auditor_domains_auditor_note_own h9)<|pc (k_audit_auditor_records_auditor_note_own h12)<|pc (k_audit_auditor_edges_auditor_note_own h15)<|pn)

theorem k_num_Text_J1 {a1 : Int} {r : Int} (h : num_Text_J1 a1 = some r) :
  ExecOK Tryz.prog UU 0 57 (subC (codeOf Tryz.f28) [1, 1, 1, 0]) [(0, .j a1), (2, .e), (3, .os 0 0), (4, .v (.int .u64 (wr_u64 a1)))] [.n 5] ((fun r => match r with | v4 => .nor) r) ((fun r => match r with | v4 => [(0, .j a1), (2, .e), (3, .os 0 0), (4, .v (.int .u64 v4))]) r) ((fun r => match r with | v4 => [.n 5]) r) := by
 unfold num_Text_J1 at h
 obtain ⟨h2, h⟩|⟨h2, h⟩ := ite_out h
 ·obtain rfl := oi h; exact rl [0, 2, 3, 4] [0] [.t] (pc h2<|pn)
 ·obtain rfl := oi h; exact rl [0, 2, 3, 4] [0] [.f] (pc h2<|pn)

theorem k_num_Text_L2 {a1 : Int} : LoopOK Tryz.prog UU 0 57 (subC (codeOf Tryz.f28) [1, 1, 1, 1, 0, 1, 0, 0]) (fun s : (List Int) × Int × Bool => match s with | (l7, v8, v9) => num_Text_L2 a1 l7 v8 v9)
  (fun s : (List Int) × Int × Bool => (match s with | (l7, v8, v9) => [(0, .j a1), (2, .e), (3, .os 0 l7.length), (4, .v (.int .u64 v8)), (5, .y v9)] : Fr DD)) (fun s : (List Int) × Int × Bool => (match s with | (l7, v8, v9) => [.w 5 l7] : Heap DD)) (fun r => match r with | l15 => .exit 0) (fun r => match r with | l15 => [(0, .j a1), (2, .e), (3, .os 0 l15.length)]) (fun r => match r with | l15 => [.w 5 l15]) := by
 refine loop_sound3 (fun s q h => ?_) (fun r => ?_)
 ·obtain ⟨l7, v8, v9⟩ := s; replace h : num_Text_L2 a1 l7 v8 v9 = some q := h
  unfold num_Text_L2 at h
  obtain ⟨h10, h⟩|⟨h10, h⟩ := ite_out h
  ·obtain ⟨h11, h⟩|⟨h11, h⟩ := ite_out h
   ·obtain rfl := oi h; exact rl [0, 2, 3, 4, 5] [0] [.t, .obj [] (.w 5 [(wr_u8 (wr_u64 (48 + (Int.tmod v8 10))) : Int)]), .obj [] (.w 5 (l7 ++ [(wr_u8 (wr_u64 (48 + (Int.tmod v8 10))) : Int)]))] (pc h10<|pc (show (10 : Int) ≠ 0 from by decide)<|pc (bs_ob 5 [(wr_u8 (wr_u64 (48 + (Int.tmod v8 10))) : Int)])<|pc (app_ob 5 (n := l7.length) (l := l7) (xs := [(wr_u8 (wr_u64 (48 + (Int.tmod v8 10))) : Int)]) h11)<|pc (rn (List.length [(wr_u8 (wr_u64 (48 + (Int.tmod v8 10))) : Int)]))<|pc (show (10 : Int) ≠ 0 from by decide)<|pn)
   ·cases h
  ·obtain rfl := oi h; exact rl [0, 2, 3] [0] [.f] (pc h10<|pn)
 ·exact Ex.noConfusion

theorem k_num_Text_J3 {a1 : Int} {l15 : List Int} {r : (List Int)} (h : num_Text_J3 a1 l15 = some r) :
  ExecOK Tryz.prog UU 0 57 (subC (codeOf Tryz.f28) [1, 1, 1, 1, 1, 0]) [(0, .j a1), (2, .e), (3, .os 0 l15.length)] [.w 5 l15] ((fun r => match r with | l22 => .nor) r) ((fun r => match r with | l22 => [(2, .e), (3, .os 0 l22.length)]) r) ((fun r => match r with | l22 => [.w 5 l22]) r) := by
 unfold num_Text_J3 at h
 obtain ⟨h18, h⟩|⟨h18, h⟩ := ite_out h
 ·obtain ⟨h19, h⟩|⟨h19, h⟩ := ite_out h
  ·obtain rfl := oi h; exact rl [2, 3] [0] [.t, .obj [] (.w 5 [(45 : Int)]), .obj [] (.w 5 (l15 ++ [(45 : Int)]))] (pc h18<|pc (bs_ob 5 [(45 : Int)])<|pc (app_ob 5 (n := l15.length) (l := l15) (xs := [(45 : Int)]) h19)<|pc (rn (List.length [(45 : Int)]))<|pn)
  ·cases h
 ·obtain rfl := oi h; exact rl [2, 3] [0] [.f] (pc h18<|pn)

theorem k_num_Text_L4 {l22 : List Int} : LoopOK Tryz.prog UU 0 57 (subC (codeOf Tryz.f28) [1, 1, 1, 1, 1, 1, 0, 1, 0, 0]) (fun s : (List Int) × Int × Int => match s with | (l25, v26, v27) => num_Text_L4 l22 l25 v26 v27)
  (fun s : (List Int) × Int × Int => (match s with | (l25, v26, v27) => [(2, .e), (3, .os 0 l22.length), (6, .j v26), (7, .j v27)] : Fr DD)) (fun s : (List Int) × Int × Int => (match s with | (l25, v26, v27) => [.arr 5 l25 l22.length false] : Heap DD)) (fun r => match r with | l42 => .exit 2) (fun r => match r with | l42 => [(2, .e), (3, .os 0 l22.length)]) (fun r => match r with | l42 => [.arr 5 l42 l22.length false]) := by
 refine loop_sound3 (fun s q h => ?_) (fun r => ?_)
 ·obtain ⟨l25, v26, v27⟩ := s; replace h : num_Text_L4 l22 l25 v26 v27 = some q := h
  unfold num_Text_L4 at h
  obtain ⟨h28, h⟩|⟨h28, h⟩ := ite_out h
  ·obtain ⟨h29, h⟩|⟨h29, h⟩ := ite_out h
   ·obtain ⟨x30, h31, h⟩ := bo h
    obtain ⟨h32, h⟩|⟨h32, h⟩ := ite_out h
    ·obtain ⟨x33, h34, h⟩ := bo h
     obtain ⟨x35, h36, h⟩ := bo h
     obtain ⟨h37, h⟩|⟨h37, h⟩ := ite_out h
     ·obtain ⟨x38, h39, h⟩ := bo h
      obtain rfl := oi h; exact rl [2, 3, 6, 7] [0] [.t, .sum [13] [] .nor [] [.arr 5 (List.set l25 v26.toNat x30) l22.length false], .row (c5 x30), .row (c5 x33), .row (c5 x35), .obj [] (.arr 5 (List.set l25 v26.toNat x30) l22.length false), .row (c5 x38), .obj [] (.arr 5 (List.set (List.set l25 v26.toNat x30) v27.toNat x33) l22.length false)] (pc h28<|pc (rr (.os 0 l22.length))<|pc (rr (.j v27))<|pc (an l22.length (lin_ob h29))<|pc (an l22.length (obn5 h31))<|pc (an l22.length (lin_ob h32))<|pc (an l22.length (obn5 h34))<|pc (an l22.length (lin_ob h32))<|pc (rh [.arr 5 (List.set l25 v26.toNat x30) l22.length false])<|pc (st_ob (e := 5) (n := l22.length) (l := l25) (i := v26.toNat) x30 [.v (.int .u8 x30)] (obn5 h36) rfl)<|pc (an l22.length (lin_ob h37))<|pc (st_ob (e := 5) (n := l22.length) (l := List.set l25 v26.toNat x30) (i := v27.toNat) x33 [.v (.int .u8 x33)] (obn5 h39) rfl)<|pn)
     ·cases h
    ·cases h
   ·cases h
  ·obtain rfl := oi h; exact rl [2, 3] [0] [.f] (pc h28<|pn)
 ·exact Ex.noConfusion

theorem k_num_Text {a1 : Int} {r : ByteArray} (h : num_Text a1 = some r) :
  CallsOK Tryz.prog UU 28 [.j a1] [] (.x r) [] := by
 unfold num_Text at h
 obtain ⟨v4, h5, h⟩ := bo h
 obtain ⟨l15, h16, h⟩ := bo h
 obtain ⟨l22, h23, h⟩ := bo h
 obtain ⟨l42, h43, h⟩ := bo h
 obtain rfl := oi h; exact rf Tryz.func28 none [.skp, .skp, .skp, .cut [0, 2, 3, 4] [0] .nor [(0, .j a1), (2, .e), (3, .os 0 0), (4, .v (.int .u64 v4))] [.n 5], .sum [0, 2, 3, 4, 5] [0] (.exit 0) [(0, .j a1), (2, .e), (3, .os 0 l15.length)] [.w 5 l15], .cut [0, 2, 3] [0] .nor [(2, .e), (3, .os 0 l22.length)] [.w 5 l22], .sum [2, 3, 6, 7] [0] (.exit 2) [(2, .e), (3, .os 0 l22.length)] [.arr 5 l42 l22.length false], .callv (.v (.string (bstr l42)))] (pc (k_num_Text_J1 h5)<|pc (k_num_Text_L2 _ _ h16)<|pc (k_num_Text_J3 h23)<|pc (rn l22.length)<|pc (k_num_Text_L4 _ _ h43)<|pc (cvb5 l42)<|pc (rn l22.length)<|pn)

theorem k_explain_Port {a1 : Api_Net} {a2 : Int} {r : ByteArray} (h : explain_Port a1 a2 = some r) :
  CallsOK Tryz.prog UU 67 [.agg (c31 a1), .j a2] [] (.x r) [] := by
 unfold explain_Port at h
 obtain ⟨h3, h⟩|⟨h3, h⟩ := ite_out h
 ·obtain rfl := oi h; exact rf Tryz.func67 none [.t] (pc h3<|pn)
 ·obtain ⟨h4, h⟩|⟨h4, h⟩ := ite_out h
  ·obtain rfl := oi h; exact rf Tryz.func67 none [.f, .t] (pc h3<|pc h4<|pn)
  ·obtain ⟨r5, h6, h⟩ := bo h
   obtain ⟨h7, h⟩|⟨h7, h⟩ := ite_out h
   ·obtain rfl := oi h; exact rf Tryz.func67 none [.f, .f, .b r5, .t] (pc h3<|pc h4<|pc (k_names_Right h6)<|pc h7<|pn)
   ·obtain ⟨x8, h9, h⟩ := bo h
    obtain ⟨x10, h11, h⟩ := bo h
    obtain ⟨h12, h⟩|⟨h12, h⟩ := ite_out h
    ·obtain ⟨h13, h⟩|⟨h13, h⟩ := ite_out h
     ·obtain rfl := oi h; exact rf Tryz.func67 none [.f, .f, .b r5, .f, .row (c52 x8), .row (c61 x10)] (pc h3<|pc h4<|pc (k_names_Right h6)<|pc h7<|pc (ob52 h9)<|pc (ob61 h11)<|pc (of_decide_eq_true h12)<|pc (of_decide_eq_true h13)<|pn)
     ·cases h
    ·cases h

theorem k_strings_Join {a1 : List ByteArray} {a2 : ByteArray} {r : ByteArray} (h : strings_Join a1 a2 = some r) :
  CallsOK Tryz.prog UU 121 [.sl 9 a1, .x a2] [] (.x r) [] := by
 unfold strings_Join at h
 obtain ⟨h1, h⟩|⟨h1, h⟩ := ite_out h
 ·obtain rfl := oi h; exact join_calls joinLays joinExtra (t := 9) (flat_one fun _ => rfl) rfl rfl rfl h1
 ·cases h

theorem k_domains_joined {a1 : List ByteArray} {r : ByteArray} (h : domains_joined a1 = some r) :
  CallsOK Tryz.prog UU 100 [.sl 9 a1] [] (.x r) [] := by
 unfold domains_joined at h
 obtain ⟨r2, h3, h⟩ := bo h
 obtain rfl := oi h; exact rf Tryz.func100 none [.callv (.x r2)] (pc (k_strings_Join h3)<|pn)

theorem k_domains_Text {a1 : Api_Net} {a2 : Int} {r : ByteArray} (h : domains_Text a1 a2 = some r) :
  CallsOK Tryz.prog UU 68 [.agg (c31 a1), .j a2] [] (.x r) [] := by
 unfold domains_Text at h
 obtain ⟨h3, h⟩|⟨h3, h⟩ := ite_out h
 ·obtain rfl := oi h; exact rf Tryz.func68 none [.t] (pc h3<|pn)
 ·obtain ⟨h4, h⟩|⟨h4, h⟩ := ite_out h
  ·obtain rfl := oi h; exact rf Tryz.func68 none [.f, .t] (pc h3<|pc h4<|pn)
  ·obtain ⟨r5, h6, h⟩ := bo h
   obtain ⟨h7, h⟩|⟨h7, h⟩ := ite_out h
   ·obtain rfl := oi h; exact rf Tryz.func68 none [.f, .f, .b r5, .t] (pc h3<|pc h4<|pc (k_names_Right h6)<|pc h7<|pn)
   ·obtain ⟨x8, h9, h⟩ := bo h
    obtain ⟨x10, h11, h⟩ := bo h
    obtain ⟨r12, h13, h⟩ := bo h
    obtain ⟨r14, h15, h⟩ := bo h
    obtain rfl := oi h; exact rf Tryz.func68 none [.f, .f, .b r5, .f, .row (c63 x8), .row (c61 x10), .callv (.x r12), .obj [] (.w 9 [x10.name, (⟨#[47]⟩ : ByteArray), r12]), .callv (.x r14)] (pc h3<|pc h4<|pc (k_names_Right h6)<|pc h7<|pc (ob63 h9)<|pc (ob61 h11)<|pc (k_num_Text h13)<|pc (bs_ob 9 [x10.name, (⟨#[47]⟩ : ByteArray), r12])<|pc (k_domains_joined h15)<|pc (rn (List.length [x10.name, (⟨#[47]⟩ : ByteArray), r12]))<|pn)

theorem k_audit_place_J1 {a1 : Api_Net} {a2 : Audit_Note} {r : Bool} (h : audit_place_J1 a1 a2 = some r) :
  ExecOK Tryz.prog UU 0 52 (subC (codeOf Tryz.f29) [1, 1, 0, 1, 0, 0]) [(2, .o 0), (3, .o 1), (4, .e), (5, .e), (7, .j a2.kind)] [.box 31 (c31 a1) false, .box 33 (c33 a2) false] ((fun r => match r with | v5 => .nor) r) ((fun r => match r with | v5 => [(2, .o 0), (3, .o 1), (4, .e), (5, .e), (7, .j a2.kind), (8, .y v5)]) r) ((fun r => match r with | v5 => [.box 31 (c31 a1) false, .box 33 (c33 a2) false]) r) := by
 unfold audit_place_J1 at h
 obtain ⟨h3, h⟩|⟨h3, h⟩ := ite_out h
 ·obtain rfl := oi h; exact rl [2, 3, 4, 5, 7, 8] [0, 1] [.t] (pc h3<|pn)
 ·obtain rfl := oi h; exact rl [2, 3, 4, 5, 7, 8] [0, 1] [.f] (pc h3<|pn)

theorem k_audit_place_J2 {a1 : Api_Net} {a2 : Audit_Note} {r : Bool} (h : audit_place_J2 a1 a2 = some r) :
  ExecOK Tryz.prog UU 0 52 (subC (codeOf Tryz.f29) [1, 1, 0, 1, 0, 1, 1, 0]) [(2, .o 0), (3, .o 1), (4, .e), (5, .e), (7, .j a2.kind)] [.box 31 (c31 a1) false, .box 33 (c33 a2) false] ((fun r => match r with | v16 => .nor) r) ((fun r => match r with | v16 => [(2, .o 0), (3, .o 1), (4, .e), (5, .e), (7, .j a2.kind), (15, .y v16)]) r) ((fun r => match r with | v16 => [.box 31 (c31 a1) false, .box 33 (c33 a2) false]) r) := by
 unfold audit_place_J2 at h
 obtain ⟨h14, h⟩|⟨h14, h⟩ := ite_out h
 ·obtain rfl := oi h; exact rl [2, 3, 4, 5, 7, 15] [0, 1] [.t] (pc h14<|pn)
 ·obtain rfl := oi h; exact rl [2, 3, 4, 5, 7, 15] [0, 1] [.f] (pc h14<|pn)

theorem k_audit_place {a1 : Api_Net} {a2 : Audit_Note} {r : ByteArray} (h : audit_place a1 a2 = some r) :
  CallsOK Tryz.prog UU 29 [.agg (c31 a1), .agg (c33 a2)] [] (.x r) [] := by
 unfold audit_place at h
 obtain ⟨v5, h6, h⟩ := bo h
 obtain ⟨h8, h⟩|⟨h8, h⟩ := ite_out h
 ·obtain ⟨r9, h10, h⟩ := bo h
  obtain ⟨h11, h⟩|⟨h11, h⟩ := ite_out h
  ·obtain ⟨r12, h13, h⟩ := bo h
   obtain rfl := oi h; exact rf Tryz.func29 none [.skp, .skp, .skp, .skp, .cut [2, 3, 4, 5, 7] [0, 1] .nor [(2, .o 0), (3, .o 1), (4, .e), (5, .e), (7, .j a2.kind), (8, .y v5)] [.box 31 (c31 a1) false, .box 33 (c33 a2) false], .t, .callv (.x r9), .t, .callv (.x r12)] (pc (k_audit_place_J1 h6)<|pc h8<|pc (k_explain_Port h10)<|pc h11<|pc (k_num_Text h13)<|pn)
  ·obtain rfl := oi h; exact rf Tryz.func29 none [.skp, .skp, .skp, .skp, .cut [2, 3, 4, 5, 7] [0, 1] .nor [(2, .o 0), (3, .o 1), (4, .e), (5, .e), (7, .j a2.kind), (8, .y v5)] [.box 31 (c31 a1) false, .box 33 (c33 a2) false], .t, .callv (.x r9), .f] (pc (k_audit_place_J1 h6)<|pc h8<|pc (k_explain_Port h10)<|pc h11<|pn)
 ·obtain ⟨v16, h17, h⟩ := bo h
  obtain ⟨h19, h⟩|⟨h19, h⟩ := ite_out h
  ·obtain ⟨r20, h21, h⟩ := bo h
   obtain ⟨h22, h⟩|⟨h22, h⟩ := ite_out h
   ·obtain ⟨r23, h24, h⟩ := bo h
    obtain rfl := oi h; exact rf Tryz.func29 none [.skp, .skp, .skp, .skp, .cut [2, 3, 4, 5, 7] [0, 1] .nor [(2, .o 0), (3, .o 1), (4, .e), (5, .e), (7, .j a2.kind), (8, .y v5)] [.box 31 (c31 a1) false, .box 33 (c33 a2) false], .f, .cut [2, 3, 4, 5, 7] [0, 1] .nor [(2, .o 0), (3, .o 1), (4, .e), (5, .e), (7, .j a2.kind), (15, .y v16)] [.box 31 (c31 a1) false, .box 33 (c33 a2) false], .t, .callv (.x r20), .t, .callv (.x r23)] (pc (k_audit_place_J1 h6)<|pc h8<|pc (k_audit_place_J2 h17)<|pc h19<|pc (k_domains_Text h21)<|pc h22<|pc (k_num_Text h24)<|pn)
   ·obtain rfl := oi h; exact rf Tryz.func29 none [.skp, .skp, .skp, .skp, .cut [2, 3, 4, 5, 7] [0, 1] .nor [(2, .o 0), (3, .o 1), (4, .e), (5, .e), (7, .j a2.kind), (8, .y v5)] [.box 31 (c31 a1) false, .box 33 (c33 a2) false], .f, .cut [2, 3, 4, 5, 7] [0, 1] .nor [(2, .o 0), (3, .o 1), (4, .e), (5, .e), (7, .j a2.kind), (15, .y v16)] [.box 31 (c31 a1) false, .box 33 (c33 a2) false], .t, .callv (.x r20), .f] (pc (k_audit_place_J1 h6)<|pc h8<|pc (k_audit_place_J2 h17)<|pc h19<|pc (k_domains_Text h21)<|pc h22<|pn)
  ·obtain ⟨h25, h⟩|⟨h25, h⟩ := ite_out h
   ·obtain ⟨h26, h⟩|⟨h26, h⟩ := ite_out h
    ·obtain ⟨h27, h⟩|⟨h27, h⟩ := ite_out h
     ·obtain ⟨r28, h29, h⟩ := bo h
      obtain ⟨h30, h⟩|⟨h30, h⟩ := ite_out h
      ·obtain ⟨x31, h32, h⟩ := bo h
       obtain rfl := oi h; exact rf Tryz.func29 none [.skp, .skp, .skp, .skp, .cut [2, 3, 4, 5, 7] [0, 1] .nor [(2, .o 0), (3, .o 1), (4, .e), (5, .e), (7, .j a2.kind), (8, .y v5)] [.box 31 (c31 a1) false, .box 33 (c33 a2) false], .f, .cut [2, 3, 4, 5, 7] [0, 1] .nor [(2, .o 0), (3, .o 1), (4, .e), (5, .e), (7, .j a2.kind), (15, .y v16)] [.box 31 (c31 a1) false, .box 33 (c33 a2) false], .f, .t, .t, .t, .b r28, .t, .row (c61 x31)] (pc (k_audit_place_J1 h6)<|pc h8<|pc (k_audit_place_J2 h17)<|pc h19<|pc h25<|pc h26<|pc h27<|pc (k_names_Right h29)<|pc h30<|pc (ob61 h32)<|pn)
      ·obtain ⟨h33, h⟩|⟨h33, h⟩ := ite_out h
       ·obtain ⟨r34, h35, h⟩ := bo h
        obtain rfl := oi h; exact rf Tryz.func29 none [.skp, .skp, .skp, .skp, .cut [2, 3, 4, 5, 7] [0, 1] .nor [(2, .o 0), (3, .o 1), (4, .e), (5, .e), (7, .j a2.kind), (8, .y v5)] [.box 31 (c31 a1) false, .box 33 (c33 a2) false], .f, .cut [2, 3, 4, 5, 7] [0, 1] .nor [(2, .o 0), (3, .o 1), (4, .e), (5, .e), (7, .j a2.kind), (15, .y v16)] [.box 31 (c31 a1) false, .box 33 (c33 a2) false], .f, .t, .t, .t, .b r28, .f, .t, .callv (.x r34)] (pc (k_audit_place_J1 h6)<|pc h8<|pc (k_audit_place_J2 h17)<|pc h19<|pc h25<|pc h26<|pc h27<|pc (k_names_Right h29)<|pc h30<|pc h33<|pc (k_num_Text h35)<|pn)
       ·obtain rfl := oi h; exact rf Tryz.func29 none [.skp, .skp, .skp, .skp, .cut [2, 3, 4, 5, 7] [0, 1] .nor [(2, .o 0), (3, .o 1), (4, .e), (5, .e), (7, .j a2.kind), (8, .y v5)] [.box 31 (c31 a1) false, .box 33 (c33 a2) false], .f, .cut [2, 3, 4, 5, 7] [0, 1] .nor [(2, .o 0), (3, .o 1), (4, .e), (5, .e), (7, .j a2.kind), (15, .y v16)] [.box 31 (c31 a1) false, .box 33 (c33 a2) false], .f, .t, .t, .t, .b r28, .f, .f] (pc (k_audit_place_J1 h6)<|pc h8<|pc (k_audit_place_J2 h17)<|pc h19<|pc h25<|pc h26<|pc h27<|pc (k_names_Right h29)<|pc h30<|pc h33<|pn)
     ·obtain ⟨h36, h⟩|⟨h36, h⟩ := ite_out h
      ·obtain ⟨r37, h38, h⟩ := bo h
       obtain rfl := oi h; exact rf Tryz.func29 none [.skp, .skp, .skp, .skp, .cut [2, 3, 4, 5, 7] [0, 1] .nor [(2, .o 0), (3, .o 1), (4, .e), (5, .e), (7, .j a2.kind), (8, .y v5)] [.box 31 (c31 a1) false, .box 33 (c33 a2) false], .f, .cut [2, 3, 4, 5, 7] [0, 1] .nor [(2, .o 0), (3, .o 1), (4, .e), (5, .e), (7, .j a2.kind), (15, .y v16)] [.box 31 (c31 a1) false, .box 33 (c33 a2) false], .f, .t, .t, .f, .t, .callv (.x r37)] (pc (k_audit_place_J1 h6)<|pc h8<|pc (k_audit_place_J2 h17)<|pc h19<|pc h25<|pc h26<|pc h27<|pc h36<|pc (k_num_Text h38)<|pn)
      ·obtain rfl := oi h; exact rf Tryz.func29 none [.skp, .skp, .skp, .skp, .cut [2, 3, 4, 5, 7] [0, 1] .nor [(2, .o 0), (3, .o 1), (4, .e), (5, .e), (7, .j a2.kind), (8, .y v5)] [.box 31 (c31 a1) false, .box 33 (c33 a2) false], .f, .cut [2, 3, 4, 5, 7] [0, 1] .nor [(2, .o 0), (3, .o 1), (4, .e), (5, .e), (7, .j a2.kind), (15, .y v16)] [.box 31 (c31 a1) false, .box 33 (c33 a2) false], .f, .t, .t, .f, .f] (pc (k_audit_place_J1 h6)<|pc h8<|pc (k_audit_place_J2 h17)<|pc h19<|pc h25<|pc h26<|pc h27<|pc h36<|pn)
    ·obtain ⟨h39, h⟩|⟨h39, h⟩ := ite_out h
     ·obtain ⟨r40, h41, h⟩ := bo h
      obtain rfl := oi h; exact rf Tryz.func29 none [.skp, .skp, .skp, .skp, .cut [2, 3, 4, 5, 7] [0, 1] .nor [(2, .o 0), (3, .o 1), (4, .e), (5, .e), (7, .j a2.kind), (8, .y v5)] [.box 31 (c31 a1) false, .box 33 (c33 a2) false], .f, .cut [2, 3, 4, 5, 7] [0, 1] .nor [(2, .o 0), (3, .o 1), (4, .e), (5, .e), (7, .j a2.kind), (15, .y v16)] [.box 31 (c31 a1) false, .box 33 (c33 a2) false], .f, .t, .f, .t, .callv (.x r40)] (pc (k_audit_place_J1 h6)<|pc h8<|pc (k_audit_place_J2 h17)<|pc h19<|pc h25<|pc h26<|pc h39<|pc (k_num_Text h41)<|pn)
     ·obtain rfl := oi h; exact rf Tryz.func29 none [.skp, .skp, .skp, .skp, .cut [2, 3, 4, 5, 7] [0, 1] .nor [(2, .o 0), (3, .o 1), (4, .e), (5, .e), (7, .j a2.kind), (8, .y v5)] [.box 31 (c31 a1) false, .box 33 (c33 a2) false], .f, .cut [2, 3, 4, 5, 7] [0, 1] .nor [(2, .o 0), (3, .o 1), (4, .e), (5, .e), (7, .j a2.kind), (15, .y v16)] [.box 31 (c31 a1) false, .box 33 (c33 a2) false], .f, .t, .f, .f] (pc (k_audit_place_J1 h6)<|pc h8<|pc (k_audit_place_J2 h17)<|pc h19<|pc h25<|pc h26<|pc h39<|pn)
   ·obtain ⟨h42, h⟩|⟨h42, h⟩ := ite_out h
    ·obtain ⟨r43, h44, h⟩ := bo h
     obtain rfl := oi h; exact rf Tryz.func29 none [.skp, .skp, .skp, .skp, .cut [2, 3, 4, 5, 7] [0, 1] .nor [(2, .o 0), (3, .o 1), (4, .e), (5, .e), (7, .j a2.kind), (8, .y v5)] [.box 31 (c31 a1) false, .box 33 (c33 a2) false], .f, .cut [2, 3, 4, 5, 7] [0, 1] .nor [(2, .o 0), (3, .o 1), (4, .e), (5, .e), (7, .j a2.kind), (15, .y v16)] [.box 31 (c31 a1) false, .box 33 (c33 a2) false], .f, .f, .t, .callv (.x r43)] (pc (k_audit_place_J1 h6)<|pc h8<|pc (k_audit_place_J2 h17)<|pc h19<|pc h25<|pc h42<|pc (k_num_Text h44)<|pn)
    ·obtain rfl := oi h; exact rf Tryz.func29 none [.skp, .skp, .skp, .skp, .cut [2, 3, 4, 5, 7] [0, 1] .nor [(2, .o 0), (3, .o 1), (4, .e), (5, .e), (7, .j a2.kind), (8, .y v5)] [.box 31 (c31 a1) false, .box 33 (c33 a2) false], .f, .cut [2, 3, 4, 5, 7] [0, 1] .nor [(2, .o 0), (3, .o 1), (4, .e), (5, .e), (7, .j a2.kind), (15, .y v16)] [.box 31 (c31 a1) false, .box 33 (c33 a2) false], .f, .f, .f] (pc (k_audit_place_J1 h6)<|pc h8<|pc (k_audit_place_J2 h17)<|pc h19<|pc h25<|pc h42<|pn)

theorem k_audit_Text {a1 : Api_Net} {a2 : Audit_Note} {r : ByteArray} (h : audit_Text a1 a2 = some r) :
  CallsOK Tryz.prog UU 10 [.agg (c31 a1), .agg (c33 a2)] [] (.x r) [] := by
 unfold audit_Text at h
 obtain ⟨h3, h⟩|⟨h3, h⟩ := ite_out h
 ·obtain rfl := oi h; exact rf Tryz.func10 none [.t] (pc h3<|pn)
 ·obtain ⟨h4, h⟩|⟨h4, h⟩ := ite_out h
  ·obtain rfl := oi h; exact rf Tryz.func10 none [.f, .t] (pc h3<|pc h4<|pn)
  ·obtain ⟨r5, h6, h⟩ := bo h
   obtain ⟨h7, h⟩|⟨h7, h⟩ := ite_out h
   ·obtain ⟨h8, h⟩|⟨h8, h⟩ := ite_out h
    ·obtain ⟨h9, h⟩|⟨h9, h⟩ := ite_out h
     ·obtain ⟨h10, h⟩|⟨h10, h⟩ := ite_out h
      ·obtain ⟨r11, h12, h⟩ := bo h
       obtain ⟨h13, h⟩|⟨h13, h⟩ := ite_out h
       ·obtain ⟨h14, h⟩|⟨h14, h⟩ := ite_out h
        ·obtain ⟨r15, h16, h⟩ := bo h
         obtain ⟨h17, h⟩|⟨h17, h⟩ := ite_out h
         ·obtain rfl := oi h; exact rf Tryz.func10 none [.f, .f, .callv (.x r5), .frz [0], .callv (.x r11), .callv (.x r15)] (pc h3<|pc h4<|pc (k_num_Text h6)<|pc (of_decide_eq_true h7)<|pc (eq_of_beq h8)<|pc (of_decide_eq_true h9)<|pc (of_decide_eq_true h10)<|pc (k_audit_place h12)<|pc (of_decide_eq_true h13)<|pc (of_decide_eq_true h14)<|pc (k_num_Text h16)<|pc (of_decide_eq_true h17)<|pn)
         ·cases h
        ·cases h
       ·cases h
      ·cases h
     ·cases h
    ·obtain ⟨h18, h⟩|⟨h18, h⟩ := ite_out h
     ·obtain ⟨h19, h⟩|⟨h19, h⟩ := ite_out h
      ·obtain ⟨h20, h⟩|⟨h20, h⟩ := ite_out h
       ·obtain ⟨r21, h22, h⟩ := bo h
        obtain ⟨h23, h⟩|⟨h23, h⟩ := ite_out h
        ·obtain ⟨h24, h⟩|⟨h24, h⟩ := ite_out h
         ·obtain ⟨r25, h26, h⟩ := bo h
          obtain ⟨h27, h⟩|⟨h27, h⟩ := ite_out h
          ·obtain rfl := oi h; exact rf Tryz.func10 none [.f, .f, .callv (.x r5), .frz [1], .callv (.x r21), .callv (.x r25)] (pc h3<|pc h4<|pc (k_num_Text h6)<|pc (of_decide_eq_true h7)<|pc (eq_of_beq h18)<|pc (of_decide_eq_true h19)<|pc (of_decide_eq_true h20)<|pc (k_audit_place h22)<|pc (of_decide_eq_true h23)<|pc (of_decide_eq_true h24)<|pc (k_num_Text h26)<|pc (of_decide_eq_true h27)<|pn)
          ·cases h
         ·cases h
        ·cases h
       ·cases h
      ·cases h
     ·obtain ⟨h28, h⟩|⟨h28, h⟩ := ite_out h
      ·obtain ⟨h29, h⟩|⟨h29, h⟩ := ite_out h
       ·obtain ⟨h30, h⟩|⟨h30, h⟩ := ite_out h
        ·obtain ⟨r31, h32, h⟩ := bo h
         obtain ⟨h33, h⟩|⟨h33, h⟩ := ite_out h
         ·obtain ⟨h34, h⟩|⟨h34, h⟩ := ite_out h
          ·obtain ⟨r35, h36, h⟩ := bo h
           obtain ⟨h37, h⟩|⟨h37, h⟩ := ite_out h
           ·obtain rfl := oi h; exact rf Tryz.func10 none [.f, .f, .callv (.x r5), .frz [2], .callv (.x r31), .callv (.x r35)] (pc h3<|pc h4<|pc (k_num_Text h6)<|pc (of_decide_eq_true h7)<|pc (eq_of_beq h28)<|pc (of_decide_eq_true h29)<|pc (of_decide_eq_true h30)<|pc (k_audit_place h32)<|pc (of_decide_eq_true h33)<|pc (of_decide_eq_true h34)<|pc (k_num_Text h36)<|pc (of_decide_eq_true h37)<|pn)
           ·cases h
          ·cases h
         ·cases h
        ·cases h
       ·cases h
      ·obtain ⟨h38, h⟩|⟨h38, h⟩ := ite_out h
       ·obtain ⟨h39, h⟩|⟨h39, h⟩ := ite_out h
        ·obtain ⟨h40, h⟩|⟨h40, h⟩ := ite_out h
         ·obtain ⟨r41, h42, h⟩ := bo h
          obtain ⟨h43, h⟩|⟨h43, h⟩ := ite_out h
          ·obtain ⟨h44, h⟩|⟨h44, h⟩ := ite_out h
           ·obtain ⟨r45, h46, h⟩ := bo h
            obtain ⟨h47, h⟩|⟨h47, h⟩ := ite_out h
            ·obtain rfl := oi h; exact rf Tryz.func10 none [.f, .f, .callv (.x r5), .frz [3], .callv (.x r41), .callv (.x r45)] (pc h3<|pc h4<|pc (k_num_Text h6)<|pc (of_decide_eq_true h7)<|pc (eq_of_beq h38)<|pc (of_decide_eq_true h39)<|pc (of_decide_eq_true h40)<|pc (k_audit_place h42)<|pc (of_decide_eq_true h43)<|pc (of_decide_eq_true h44)<|pc (k_num_Text h46)<|pc (of_decide_eq_true h47)<|pn)
            ·cases h
           ·cases h
          ·cases h
         ·cases h
        ·cases h
       ·obtain ⟨h48, h⟩|⟨h48, h⟩ := ite_out h
        ·obtain ⟨h49, h⟩|⟨h49, h⟩ := ite_out h
         ·obtain ⟨h50, h⟩|⟨h50, h⟩ := ite_out h
          ·obtain ⟨r51, h52, h⟩ := bo h
           obtain ⟨h53, h⟩|⟨h53, h⟩ := ite_out h
           ·obtain ⟨h54, h⟩|⟨h54, h⟩ := ite_out h
            ·obtain ⟨r55, h56, h⟩ := bo h
             obtain ⟨h57, h⟩|⟨h57, h⟩ := ite_out h
             ·obtain rfl := oi h; exact rf Tryz.func10 none [.f, .f, .callv (.x r5), .frz [4], .callv (.x r51), .callv (.x r55)] (pc h3<|pc h4<|pc (k_num_Text h6)<|pc (of_decide_eq_true h7)<|pc (eq_of_beq h48)<|pc (of_decide_eq_true h49)<|pc (of_decide_eq_true h50)<|pc (k_audit_place h52)<|pc (of_decide_eq_true h53)<|pc (of_decide_eq_true h54)<|pc (k_num_Text h56)<|pc (of_decide_eq_true h57)<|pn)
             ·cases h
            ·cases h
           ·cases h
          ·cases h
         ·cases h
        ·obtain ⟨h58, h⟩|⟨h58, h⟩ := ite_out h
         ·obtain ⟨h59, h⟩|⟨h59, h⟩ := ite_out h
          ·obtain ⟨h60, h⟩|⟨h60, h⟩ := ite_out h
           ·obtain ⟨r61, h62, h⟩ := bo h
            obtain ⟨h63, h⟩|⟨h63, h⟩ := ite_out h
            ·obtain ⟨h64, h⟩|⟨h64, h⟩ := ite_out h
             ·obtain ⟨r65, h66, h⟩ := bo h
              obtain ⟨h67, h⟩|⟨h67, h⟩ := ite_out h
              ·obtain rfl := oi h; exact rf Tryz.func10 none [.f, .f, .callv (.x r5), .frz [5], .callv (.x r61), .callv (.x r65)] (pc h3<|pc h4<|pc (k_num_Text h6)<|pc (of_decide_eq_true h7)<|pc (eq_of_beq h58)<|pc (of_decide_eq_true h59)<|pc (of_decide_eq_true h60)<|pc (k_audit_place h62)<|pc (of_decide_eq_true h63)<|pc (of_decide_eq_true h64)<|pc (k_num_Text h66)<|pc (of_decide_eq_true h67)<|pn)
              ·cases h
             ·cases h
            ·cases h
           ·cases h
          ·cases h
         ·obtain ⟨h68, h⟩|⟨h68, h⟩ := ite_out h
          ·obtain ⟨h69, h⟩|⟨h69, h⟩ := ite_out h
           ·obtain ⟨h70, h⟩|⟨h70, h⟩ := ite_out h
            ·obtain ⟨r71, h72, h⟩ := bo h
             obtain ⟨h73, h⟩|⟨h73, h⟩ := ite_out h
             ·obtain ⟨h74, h⟩|⟨h74, h⟩ := ite_out h
              ·obtain ⟨r75, h76, h⟩ := bo h
               obtain ⟨h77, h⟩|⟨h77, h⟩ := ite_out h
               ·obtain rfl := oi h; exact rf Tryz.func10 none [.f, .f, .callv (.x r5), .frz [6], .callv (.x r71), .callv (.x r75)] (pc h3<|pc h4<|pc (k_num_Text h6)<|pc (of_decide_eq_true h7)<|pc (eq_of_beq h68)<|pc (of_decide_eq_true h69)<|pc (of_decide_eq_true h70)<|pc (k_audit_place h72)<|pc (of_decide_eq_true h73)<|pc (of_decide_eq_true h74)<|pc (k_num_Text h76)<|pc (of_decide_eq_true h77)<|pn)
               ·cases h
              ·cases h
             ·cases h
            ·cases h
           ·cases h
          ·obtain ⟨h78, h⟩|⟨h78, h⟩ := ite_out h
           ·obtain ⟨h79, h⟩|⟨h79, h⟩ := ite_out h
            ·obtain ⟨h80, h⟩|⟨h80, h⟩ := ite_out h
             ·obtain ⟨r81, h82, h⟩ := bo h
              obtain ⟨h83, h⟩|⟨h83, h⟩ := ite_out h
              ·obtain ⟨h84, h⟩|⟨h84, h⟩ := ite_out h
               ·obtain ⟨r85, h86, h⟩ := bo h
                obtain ⟨h87, h⟩|⟨h87, h⟩ := ite_out h
                ·obtain rfl := oi h; exact rf Tryz.func10 none [.f, .f, .callv (.x r5), .frz [7], .callv (.x r81), .callv (.x r85)] (pc h3<|pc h4<|pc (k_num_Text h6)<|pc (of_decide_eq_true h7)<|pc (eq_of_beq h78)<|pc (of_decide_eq_true h79)<|pc (of_decide_eq_true h80)<|pc (k_audit_place h82)<|pc (of_decide_eq_true h83)<|pc (of_decide_eq_true h84)<|pc (k_num_Text h86)<|pc (of_decide_eq_true h87)<|pn)
                ·cases h
               ·cases h
              ·cases h
             ·cases h
            ·cases h
           ·obtain ⟨h88, h⟩|⟨h88, h⟩ := ite_out h
            ·obtain ⟨h89, h⟩|⟨h89, h⟩ := ite_out h
             ·obtain ⟨h90, h⟩|⟨h90, h⟩ := ite_out h
              ·obtain ⟨r91, h92, h⟩ := bo h
               obtain ⟨h93, h⟩|⟨h93, h⟩ := ite_out h
               ·obtain ⟨h94, h⟩|⟨h94, h⟩ := ite_out h
                ·obtain ⟨r95, h96, h⟩ := bo h
                 obtain ⟨h97, h⟩|⟨h97, h⟩ := ite_out h
                 ·obtain rfl := oi h; exact rf Tryz.func10 none [.f, .f, .callv (.x r5), .frz [8], .callv (.x r91), .callv (.x r95)] (pc h3<|pc h4<|pc (k_num_Text h6)<|pc (of_decide_eq_true h7)<|pc (eq_of_beq h88)<|pc (of_decide_eq_true h89)<|pc (of_decide_eq_true h90)<|pc (k_audit_place h92)<|pc (of_decide_eq_true h93)<|pc (of_decide_eq_true h94)<|pc (k_num_Text h96)<|pc (of_decide_eq_true h97)<|pn)
                 ·cases h
                ·cases h
               ·cases h
              ·cases h
             ·cases h
            ·obtain ⟨h98, h⟩|⟨h98, h⟩ := ite_out h
             ·obtain ⟨h99, h⟩|⟨h99, h⟩ := ite_out h
              ·obtain ⟨h100, h⟩|⟨h100, h⟩ := ite_out h
               ·obtain ⟨r101, h102, h⟩ := bo h
                obtain ⟨h103, h⟩|⟨h103, h⟩ := ite_out h
                ·obtain ⟨h104, h⟩|⟨h104, h⟩ := ite_out h
                 ·obtain ⟨r105, h106, h⟩ := bo h
                  obtain ⟨h107, h⟩|⟨h107, h⟩ := ite_out h
                  ·obtain rfl := oi h; exact rf Tryz.func10 none [.f, .f, .callv (.x r5), .frz [9], .callv (.x r101), .callv (.x r105)] (pc h3<|pc h4<|pc (k_num_Text h6)<|pc (of_decide_eq_true h7)<|pc (eq_of_beq h98)<|pc (of_decide_eq_true h99)<|pc (of_decide_eq_true h100)<|pc (k_audit_place h102)<|pc (of_decide_eq_true h103)<|pc (of_decide_eq_true h104)<|pc (k_num_Text h106)<|pc (of_decide_eq_true h107)<|pn)
                  ·cases h
                 ·cases h
                ·cases h
               ·cases h
              ·cases h
             ·cases h
   ·cases h

theorem k_audit_Count_L1 {a1 : List Audit_Note} {a2 : Int} : LoopOK Tryz.prog UU 0 22 (subC (codeOf Tryz.f15) [1, 1, 0, 1, 0, 0]) (fun s : Int × Int => match s with | (v3, v4) => audit_Count_L1 a1 a2 v3 v4)
  (fun s : Int × Int => (match s with | (v3, v4) => [(1, .j a2), (4, .z), (5, .j v3), (8, .sl 33 a1), (9, .j (a1.length : Int)), (10, .j v4)] : Fr DD)) (fun s : Int × Int => (match s with | (v3, v4) => [] : Heap DD)) (fun r => match r with | v10 => .exit 0) (fun r => match r with | v10 => [(4, .z), (5, .j v10)]) (fun r => match r with | v10 => []) := by
 refine loop_sound3 (fun s q h => ?_) (fun r => ?_)
 ·obtain ⟨v3, v4⟩ := s; replace h : audit_Count_L1 a1 a2 v3 v4 = some q := h
  unfold audit_Count_L1 at h
  obtain ⟨h5, h⟩|⟨h5, h⟩ := ite_out h
  ·obtain ⟨x6, h7, h⟩ := bo h
   obtain ⟨h8, h⟩|⟨h8, h⟩ := ite_out h
   ·obtain rfl := oi h; exact rl [1, 4, 5, 8, 9, 10] [] [.t, .row (c33 x6), .t] (pc h5<|pc (ob33 h7)<|pc h8<|pn)
   ·obtain rfl := oi h; exact rl [1, 4, 5, 8, 9, 10] [] [.t, .row (c33 x6), .f] (pc h5<|pc (ob33 h7)<|pc h8<|pn)
  ·obtain rfl := oi h; exact rl [4, 5] [] [.f] (pc h5<|pn)
 ·exact Ex.noConfusion

theorem k_audit_Count {a1 : List Audit_Note} {a2 : Int} {r : Int} (h : audit_Count a1 a2 = some r) :
  CallsOK Tryz.prog UU 15 [.sl 33 a1, .j a2] [] (.j r) [] := by
 unfold audit_Count at h
 obtain ⟨v10, h11, h⟩ := bo h
 obtain rfl := oi h; exact rf Tryz.func15 none [.sum [1, 4, 5, 8, 9, 10] [] (.exit 0) [(4, .z), (5, .j v10)] []] (pc (k_audit_Count_L1 _ _ h11)<|pn)

theorem k_palinglaw47_works {r : Bool} (h : palinglaw47_works = some r) :
  CallsOK Tryz.prog UU 7 [] [] (.y r) [] := by
 have hr : some true = some r := (by kernel_rfl : palinglaw47_works = some true).symm.trans h
 unfold palinglaw47_works at h
 obtain ⟨r1, h2, h⟩ := bo h
 obtain ⟨l3, v4⟩ := r1
 obtain ⟨h5, h⟩|⟨h5, h⟩ := ite_out h
 ·obtain ⟨h6, h⟩|⟨h6, h⟩ := ite_out h
  ·obtain ⟨h7, h⟩|⟨h7, h⟩ := ite_out h
   ·obtain ⟨x8, h9, h⟩ := bo h
    obtain ⟨h10, h⟩|⟨h10, h⟩ := ite_out h
    ·obtain ⟨x11, h12, h⟩ := bo h
     obtain ⟨r13, h14, h⟩ := bo h
     obtain ⟨h15, h⟩|⟨h15, h⟩ := ite_out h
     ·obtain ⟨r16, h17, h⟩ := bo h
      obtain ⟨h18, h⟩|⟨h18, h⟩ := ite_out h
      ·obtain ⟨r19, h20, h⟩ := bo h
       obtain rfl := oi h; exact rf Tryz.func7 none [.obj [] (.w 61 [(⟨0, 0, (⟨#[97]⟩ : ByteArray), 0, 0⟩ : Api_Device), (⟨0, 0, (⟨#[98]⟩ : ByteArray), 0, 0⟩ : Api_Device)]), .obj [] (.w 52 [(⟨0, 0, 10, 0, 0, (⟨#[112]⟩ : ByteArray), []⟩ : Api_Port), (⟨0, 1, 20, 0, 0, (⟨#[112]⟩ : ByteArray), []⟩ : Api_Port), (⟨0, 1, 20, 0, (-1), (⟨#[113]⟩ : ByteArray), []⟩ : Api_Port)]), .obj [] (.w 49 [(⟨5, 0, 1⟩ : Api_Link)]), .obj [] (.w 63 [(⟨0, 10, 0, (-1), 0, []⟩ : Api_Domain), (⟨1, 20, 0, (-1), 0, []⟩ : Api_Domain)]), .callo (.tup [.os 0 l3.length, .j v4]) [.w 33 l3], .t, .t, .row (c33 x8), .t, .row (c33 x11), .callv (.x r13), .t, .callv (.j r16), .t, .callv (.j r19)] (pc (bs_ob 61 [(⟨0, 0, (⟨#[97]⟩ : ByteArray), 0, 0⟩ : Api_Device), (⟨0, 0, (⟨#[98]⟩ : ByteArray), 0, 0⟩ : Api_Device)])<|pc (bs_ob 52 [(⟨0, 0, 10, 0, 0, (⟨#[112]⟩ : ByteArray), []⟩ : Api_Port), (⟨0, 1, 20, 0, 0, (⟨#[112]⟩ : ByteArray), []⟩ : Api_Port), (⟨0, 1, 20, 0, (-1), (⟨#[113]⟩ : ByteArray), []⟩ : Api_Port)])<|pc (bs_ob 49 [(⟨5, 0, 1⟩ : Api_Link)])<|pc (bs_ob 63 [(⟨0, 10, 0, (-1), 0, []⟩ : Api_Domain), (⟨1, 20, 0, (-1), 0, []⟩ : Api_Domain)])<|pc (k_audit_All h2)<|pc (im33 l3)<|pc (rn (List.length [(⟨0, 0, (⟨#[97]⟩ : ByteArray), 0, 0⟩ : Api_Device), (⟨0, 0, (⟨#[98]⟩ : ByteArray), 0, 0⟩ : Api_Device)]))<|pc (rn (List.length [(⟨0, 0, 10, 0, 0, (⟨#[112]⟩ : ByteArray), []⟩ : Api_Port), (⟨0, 1, 20, 0, 0, (⟨#[112]⟩ : ByteArray), []⟩ : Api_Port), (⟨0, 1, 20, 0, (-1), (⟨#[113]⟩ : ByteArray), []⟩ : Api_Port)]))<|pc (rn (List.length [(⟨5, 0, 1⟩ : Api_Link)]))<|pc (rn (List.length [(⟨0, 10, 0, (-1), 0, []⟩ : Api_Domain), (⟨1, 20, 0, (-1), 0, []⟩ : Api_Domain)]))<|pd (rn 0)<|pd (rn 0)<|pc h5<|pc (rn l3.length)<|pc h6<|pc (an l3.length (lin_ob h7))<|pc (an l3.length (obn33 h9))<|pc h10<|pc (an l3.length (lin_ob h7))<|pc (an l3.length (obn33 h12))<|pc (k_audit_Text h14)<|pc (rn (List.length [(⟨0, 0, (⟨#[97]⟩ : ByteArray), 0, 0⟩ : Api_Device), (⟨0, 0, (⟨#[98]⟩ : ByteArray), 0, 0⟩ : Api_Device)]))<|pc (rn (List.length [(⟨0, 0, 10, 0, 0, (⟨#[112]⟩ : ByteArray), []⟩ : Api_Port), (⟨0, 1, 20, 0, 0, (⟨#[112]⟩ : ByteArray), []⟩ : Api_Port), (⟨0, 1, 20, 0, (-1), (⟨#[113]⟩ : ByteArray), []⟩ : Api_Port)]))<|pc (rn (List.length [(⟨5, 0, 1⟩ : Api_Link)]))<|pc (rn (List.length [(⟨0, 10, 0, (-1), 0, []⟩ : Api_Domain), (⟨1, 20, 0, (-1), 0, []⟩ : Api_Domain)]))<|pd (rn 0)<|pd (rn 0)<|pc h15<|pc (k_audit_Count h17)<|pc (rn l3.length)<|pc h18<|pc (k_audit_Count h20)<|pn)
      ·exact absurd (hr.trans h.symm) (by decide)
     ·exact absurd (hr.trans h.symm) (by decide)
    ·exact absurd (hr.trans h.symm) (by decide)
   ·cases h
  ·exact absurd (hr.trans h.symm) (by decide)
 ·exact absurd (hr.trans h.symm) (by decide)

theorem k_palinglaw15_Great_L1 {a1 : Api_Net} : LoopOK Tryz.prog UU 0 123 (subC (codeOf Tryz.f12) [1, 1, 0, 1, 0, 0]) (ρ := Unit ⊕ Unit) (palinglaw15_Great_L1 a1)
  (fun v10 : Int => ([(1, .o 0), (2, .y false), (3, .j v10)] : Fr DD)) (fun v10 : Int => ([.box 31 (c31 a1) false] : Heap DD)) (fun r => match r with | Sum.inl _ => .ret | Sum.inr _ => .exit 0) (fun r => match r with | Sum.inl _ => [(2, .y true)] | Sum.inr _ => [(1, .o 0), (2, .y false)]) (fun r => match r with | Sum.inl _ => [] | Sum.inr _ => [.box 31 (c31 a1) false]) := by
 refine loop_sound3 (fun s q h => ?_) (fun r => ?_)
 ·replace h : palinglaw15_Great_L1 a1 s = some q := h; revert h; revert s; intro v10 h
  unfold palinglaw15_Great_L1 at h
  obtain ⟨h11, h⟩|⟨h11, h⟩ := ite_out h
  ·obtain ⟨x12, h13, h⟩ := bo h
   obtain ⟨h14, h⟩|⟨h14, h⟩ := ite_out h
   ·obtain rfl := oi h; exact rl [2] [] [.t, .row (c52 x12), .t] (pc h11<|pc (ob52 h13)<|pc h14<|pn)
   ·obtain rfl := oi h; exact rl [1, 2, 3] [0] [.t, .row (c52 x12), .f] (pc h11<|pc (ob52 h13)<|pc h14<|pn)
  ·obtain rfl := oi h; exact rl [1, 2] [0] [.f] (pc h11<|pn)
 ·rcases r with _ | _ <;> exact Ex.noConfusion

theorem k_palinglaw15_Great_L2 {a1 : Api_Net} : LoopOK Tryz.prog UU 0 123 (subC (codeOf Tryz.f12) [1, 1, 1, 0, 1, 0, 0]) (ρ := Unit ⊕ Unit) (palinglaw15_Great_L2 a1)
  (fun v17 : Int => ([(1, .o 0), (2, .y false), (4, .j v17)] : Fr DD)) (fun v17 : Int => ([.box 31 (c31 a1) false] : Heap DD)) (fun r => match r with | Sum.inl _ => .ret | Sum.inr _ => .exit 2) (fun r => match r with | Sum.inl _ => [(2, .y true)] | Sum.inr _ => [(1, .o 0), (2, .y false)]) (fun r => match r with | Sum.inl _ => [] | Sum.inr _ => [.box 31 (c31 a1) false]) := by
 refine loop_sound3 (fun s q h => ?_) (fun r => ?_)
 ·replace h : palinglaw15_Great_L2 a1 s = some q := h; revert h; revert s; intro v17 h
  unfold palinglaw15_Great_L2 at h
  obtain ⟨h18, h⟩|⟨h18, h⟩ := ite_out h
  ·obtain ⟨x19, h20, h⟩ := bo h
   obtain ⟨h21, h⟩|⟨h21, h⟩ := ite_out h
   ·obtain rfl := oi h; exact rl [2] [] [.t, .row (c63 x19), .t] (pc h18<|pc (ob63 h20)<|pc h21<|pn)
   ·obtain rfl := oi h; exact rl [1, 2, 4] [0] [.t, .row (c63 x19), .f] (pc h18<|pc (ob63 h20)<|pc h21<|pn)
  ·obtain rfl := oi h; exact rl [1, 2] [0] [.f] (pc h18<|pn)
 ·rcases r with _ | _ <;> exact Ex.noConfusion

theorem k_palinglaw15_Great_L3 {a1 : Api_Net} : LoopOK Tryz.prog UU 0 123 (subC (codeOf Tryz.f12) [1, 1, 1, 1, 0, 1, 0, 0]) (ρ := Unit ⊕ Unit) (palinglaw15_Great_L3 a1)
  (fun v24 : Int => ([(1, .o 0), (2, .y false), (5, .j v24)] : Fr DD)) (fun v24 : Int => ([.box 31 (c31 a1) false] : Heap DD)) (fun r => match r with | Sum.inl _ => .ret | Sum.inr _ => .exit 4) (fun r => match r with | Sum.inl _ => [(2, .y true)] | Sum.inr _ => [(1, .o 0), (2, .y false)]) (fun r => match r with | Sum.inl _ => [] | Sum.inr _ => [.box 31 (c31 a1) false]) := by
 refine loop_sound3 (fun s q h => ?_) (fun r => ?_)
 ·replace h : palinglaw15_Great_L3 a1 s = some q := h; revert h; revert s; intro v24 h
  unfold palinglaw15_Great_L3 at h
  obtain ⟨h25, h⟩|⟨h25, h⟩ := ite_out h
  ·obtain ⟨x26, h27, h⟩ := bo h
   obtain ⟨h28, h⟩|⟨h28, h⟩ := ite_out h
   ·obtain rfl := oi h; exact rl [2] [] [.t, .row (c76 x26), .t] (pc h25<|pc (ob76 h27)<|pc h28<|pn)
   ·obtain rfl := oi h; exact rl [1, 2, 5] [0] [.t, .row (c76 x26), .f] (pc h25<|pc (ob76 h27)<|pc h28<|pn)
  ·obtain rfl := oi h; exact rl [1, 2] [0] [.f] (pc h25<|pn)
 ·rcases r with _ | _ <;> exact Ex.noConfusion

theorem k_palinglaw15_Great_L4 {a1 : Api_Net} : LoopOK Tryz.prog UU 0 123 (subC (codeOf Tryz.f12) [1, 1, 1, 1, 1, 0, 1, 0, 0]) (ρ := Unit ⊕ Unit) (palinglaw15_Great_L4 a1)
  (fun v31 : Int => ([(1, .o 0), (2, .y false), (6, .j v31)] : Fr DD)) (fun v31 : Int => ([.box 31 (c31 a1) false] : Heap DD)) (fun r => match r with | Sum.inl _ => .ret | Sum.inr _ => .exit 6) (fun r => match r with | Sum.inl _ => [(2, .y true)] | Sum.inr _ => [(2, .y false)]) (fun r => match r with | Sum.inl _ => [] | Sum.inr _ => []) := by
 refine loop_sound3 (fun s q h => ?_) (fun r => ?_)
 ·replace h : palinglaw15_Great_L4 a1 s = some q := h; revert h; revert s; intro v31 h
  unfold palinglaw15_Great_L4 at h
  obtain ⟨h32, h⟩|⟨h32, h⟩ := ite_out h
  ·obtain ⟨x33, h34, h⟩ := bo h
   obtain ⟨h35, h⟩|⟨h35, h⟩ := ite_out h
   ·obtain rfl := oi h; exact rl [2] [] [.t, .row (c78 x33), .t] (pc h32<|pc (ob78 h34)<|pc h35<|pn)
   ·obtain ⟨x36, h37, h⟩ := bo h
    obtain ⟨h38, h⟩|⟨h38, h⟩ := ite_out h
    ·obtain rfl := oi h; exact rl [2] [] [.t, .row (c78 x33), .f, .row (c78 x36), .t] (pc h32<|pc (ob78 h34)<|pc h35<|pc (ob78 h37)<|pc h38<|pn)
    ·obtain rfl := oi h; exact rl [1, 2, 6] [0] [.t, .row (c78 x33), .f, .row (c78 x36), .f] (pc h32<|pc (ob78 h34)<|pc h35<|pc (ob78 h37)<|pc h38<|pn)
  ·obtain rfl := oi h; exact rl [2] [] [.f] (pc h32<|pn)
 ·rcases r with _ | _ <;> exact Ex.noConfusion

theorem k_palinglaw15_Great {a1 : Api_Net} {r : Bool} (h : palinglaw15_Great a1 = some r) :
  CallsOK Tryz.prog UU 12 [.agg (c31 a1)] [] (.y r) [] := by
 unfold palinglaw15_Great at h
 obtain ⟨h2, h⟩|⟨h2, h⟩ := ite_out h
 ·obtain rfl := oi h; exact rf Tryz.func12 none [.t] (pc h2<|pn)
 ·obtain ⟨h3, h⟩|⟨h3, h⟩ := ite_out h
  ·obtain rfl := oi h; exact rf Tryz.func12 none [.f, .t] (pc h2<|pc h3<|pn)
  ·obtain ⟨h4, h⟩|⟨h4, h⟩ := ite_out h
   ·obtain rfl := oi h; exact rf Tryz.func12 none [.f, .f, .t] (pc h2<|pc h3<|pc h4<|pn)
   ·obtain ⟨h5, h⟩|⟨h5, h⟩ := ite_out h
    ·obtain rfl := oi h; exact rf Tryz.func12 none [.f, .f, .f, .t] (pc h2<|pc h3<|pc h4<|pc h5<|pn)
    ·obtain ⟨h6, h⟩|⟨h6, h⟩ := ite_out h
     ·obtain rfl := oi h; exact rf Tryz.func12 none [.f, .f, .f, .f, .t] (pc h2<|pc h3<|pc h4<|pc h5<|pc h6<|pn)
     ·obtain ⟨h7, h⟩|⟨h7, h⟩ := ite_out h
      ·obtain rfl := oi h; exact rf Tryz.func12 none [.f, .f, .f, .f, .f, .t] (pc h2<|pc h3<|pc h4<|pc h5<|pc h6<|pc h7<|pn)
      ·obtain ⟨h8, h⟩|⟨h8, h⟩ := ite_out h
       ·obtain rfl := oi h; exact rf Tryz.func12 none [.f, .f, .f, .f, .f, .f, .t] (pc h2<|pc h3<|pc h4<|pc h5<|pc h6<|pc h7<|pc h8<|pn)
       ·obtain ⟨h9, h⟩|⟨h9, h⟩ := ite_out h
        ·obtain rfl := oi h; exact rf Tryz.func12 none [.f, .f, .f, .f, .f, .f, .f, .t] (pc h2<|pc h3<|pc h4<|pc h5<|pc h6<|pc h7<|pc h8<|pc h9<|pn)
        ·obtain ⟨r16, h15, h⟩ := bo h
         rcases r16 with _ | _
         ·obtain rfl := oi h; exact rf Tryz.func12 none [.f, .f, .f, .f, .f, .f, .f, .f, .sum [1, 2, 3] [0] .ret [(2, .y true)] []] (pc h2<|pc h3<|pc h4<|pc h5<|pc h6<|pc h7<|pc h8<|pc h9<|pc (k_palinglaw15_Great_L1 _ _ h15)<|pn)
         ·obtain ⟨r23, h22, h⟩ := bo h
          rcases r23 with _ | _
          ·obtain rfl := oi h; exact rf Tryz.func12 none [.f, .f, .f, .f, .f, .f, .f, .f, .sum [1, 2, 3] [0] (.exit 0) [(1, .o 0), (2, .y false)] [.box 31 (c31 a1) false], .sum [1, 2, 4] [0] .ret [(2, .y true)] []] (pc h2<|pc h3<|pc h4<|pc h5<|pc h6<|pc h7<|pc h8<|pc h9<|pc (k_palinglaw15_Great_L1 _ _ h15)<|pc (k_palinglaw15_Great_L2 _ _ h22)<|pn)
          ·obtain ⟨r30, h29, h⟩ := bo h
           rcases r30 with _ | _
           ·obtain rfl := oi h; exact rf Tryz.func12 none [.f, .f, .f, .f, .f, .f, .f, .f, .sum [1, 2, 3] [0] (.exit 0) [(1, .o 0), (2, .y false)] [.box 31 (c31 a1) false], .sum [1, 2, 4] [0] (.exit 2) [(1, .o 0), (2, .y false)] [.box 31 (c31 a1) false], .sum [1, 2, 5] [0] .ret [(2, .y true)] []] (pc h2<|pc h3<|pc h4<|pc h5<|pc h6<|pc h7<|pc h8<|pc h9<|pc (k_palinglaw15_Great_L1 _ _ h15)<|pc (k_palinglaw15_Great_L2 _ _ h22)<|pc (k_palinglaw15_Great_L3 _ _ h29)<|pn)
           ·obtain ⟨r40, h39, h⟩ := bo h
            rcases r40 with _ | _
            ·obtain rfl := oi h; exact rf Tryz.func12 none [.f, .f, .f, .f, .f, .f, .f, .f, .sum [1, 2, 3] [0] (.exit 0) [(1, .o 0), (2, .y false)] [.box 31 (c31 a1) false], .sum [1, 2, 4] [0] (.exit 2) [(1, .o 0), (2, .y false)] [.box 31 (c31 a1) false], .sum [1, 2, 5] [0] (.exit 4) [(1, .o 0), (2, .y false)] [.box 31 (c31 a1) false], .sum [1, 2, 6] [0] .ret [(2, .y true)] []] (pc h2<|pc h3<|pc h4<|pc h5<|pc h6<|pc h7<|pc h8<|pc h9<|pc (k_palinglaw15_Great_L1 _ _ h15)<|pc (k_palinglaw15_Great_L2 _ _ h22)<|pc (k_palinglaw15_Great_L3 _ _ h29)<|pc (k_palinglaw15_Great_L4 _ _ h39)<|pn)
            ·obtain rfl := oi h; exact rf Tryz.func12 none [.f, .f, .f, .f, .f, .f, .f, .f, .sum [1, 2, 3] [0] (.exit 0) [(1, .o 0), (2, .y false)] [.box 31 (c31 a1) false], .sum [1, 2, 4] [0] (.exit 2) [(1, .o 0), (2, .y false)] [.box 31 (c31 a1) false], .sum [1, 2, 5] [0] (.exit 4) [(1, .o 0), (2, .y false)] [.box 31 (c31 a1) false], .sum [1, 2, 6] [0] (.exit 6) [(2, .y false)] []] (pc h2<|pc h3<|pc h4<|pc h5<|pc h6<|pc h7<|pc h8<|pc h9<|pc (k_palinglaw15_Great_L1 _ _ h15)<|pc (k_palinglaw15_Great_L2 _ _ h22)<|pc (k_palinglaw15_Great_L3 _ _ h29)<|pc (k_palinglaw15_Great_L4 _ _ h39)<|pn)

theorem k_palinglaw47_AuditOrder_L1 {l10 : List Audit_Note} : LoopOK Tryz.prog UU 0 76 (subC (codeOf Tryz.f5) [1, 1, 1, 1, 1, 0, 1, 0, 0]) (fun s : Int × Int => match s with | (v12, v13) => palinglaw47_AuditOrder_L1 l10 v12 v13)
  (fun s : Int × Int => (match s with | (v12, v13) => [(2, .y false), (3, .os 0 l10.length), (5, .j v12), (6, .j v13)] : Fr DD)) (fun s : Int × Int => (match s with | (v12, v13) => [.w 33 l10] : Heap DD)) (fun r => match r with | v18 => .exit 0) (fun r => match r with | v18 => [(2, .y false), (3, .os 0 l10.length), (5, .j v18)]) (fun r => match r with | v18 => [.w 33 l10]) := by
 refine loop_sound3 (fun s q h => ?_) (fun r => ?_)
 ·obtain ⟨v12, v13⟩ := s; replace h : palinglaw47_AuditOrder_L1 l10 v12 v13 = some q := h
  unfold palinglaw47_AuditOrder_L1 at h
  obtain ⟨h14, h⟩|⟨h14, h⟩ := ite_out h
  ·obtain ⟨r15, h16, h⟩ := bo h
   obtain rfl := oi h; exact rl [2, 3, 5, 6] [0] [.t, .callv (.j r15)] (pc h14<|pc (k_audit_Count h16)<|pc (rn l10.length)<|pn)
  ·obtain rfl := oi h; exact rl [2, 3, 5] [0] [.f] (pc h14<|pn)
 ·exact Ex.noConfusion

theorem k_palinglaw47_AuditOrder_L2 {l10 : List Audit_Note} {v18 : Int} : LoopOK Tryz.prog UU 0 76 (subC (codeOf Tryz.f5) [1, 1, 1, 1, 1, 1, 0, 1, 0, 0]) (ρ := Unit ⊕ Unit) (palinglaw47_AuditOrder_L2 l10 v18)
  (fun v21 : Int => ([(2, .y false), (3, .os 0 l10.length), (5, .j v18), (7, .j v21)] : Fr DD)) (fun v21 : Int => ([.w 33 l10] : Heap DD)) (fun r => match r with | Sum.inl _ => .ret | Sum.inr _ => .exit 2) (fun r => match r with | Sum.inl _ => [(2, .y false)] | Sum.inr _ => [(2, .y false), (3, .os 0 l10.length), (5, .j v18)]) (fun r => match r with | Sum.inl _ => [] | Sum.inr _ => [.w 33 l10]) := by
 refine loop_sound3 (fun s q h => ?_) (fun r => ?_)
 ·replace h : palinglaw47_AuditOrder_L2 l10 v18 s = some q := h; revert h; revert s; intro v21 h
  unfold palinglaw47_AuditOrder_L2 at h
  obtain ⟨h22, h⟩|⟨h22, h⟩ := ite_out h
  ·obtain ⟨h23, h⟩|⟨h23, h⟩ := ite_out h
   ·obtain ⟨x24, h25, h⟩ := bo h
    obtain ⟨h26, h⟩|⟨h26, h⟩ := ite_out h
    ·obtain ⟨x27, h28, h⟩ := bo h
     obtain ⟨h29, h⟩|⟨h29, h⟩ := ite_out h
     ·obtain rfl := oi h; exact rl [2] [] [.t, .row (c33 x24), .row (c33 x27), .t] (pc (rn l10.length)<|pc h22<|pc (an l10.length (lin_ob h23))<|pc (an l10.length (obn33 h25))<|pc (an l10.length (lin_ob h26))<|pc (an l10.length (obn33 h28))<|pc h29<|pn)
     ·obtain ⟨h30, h⟩|⟨h30, h⟩ := ite_out h
      ·obtain ⟨h31, h⟩|⟨h31, h⟩ := ite_out h
       ·obtain rfl := oi h; exact rl [2] [] [.t, .row (c33 x24), .row (c33 x27), .f, .t, .t] (pc (rn l10.length)<|pc h22<|pc (an l10.length (lin_ob h23))<|pc (an l10.length (obn33 h25))<|pc (an l10.length (lin_ob h26))<|pc (an l10.length (obn33 h28))<|pc h29<|pc h30<|pc h31<|pn)
       ·obtain ⟨h32, h⟩|⟨h32, h⟩ := ite_out h
        ·obtain rfl := oi h; exact rl [2] [] [.t, .row (c33 x24), .row (c33 x27), .f, .t, .f, .t] (pc (rn l10.length)<|pc h22<|pc (an l10.length (lin_ob h23))<|pc (an l10.length (obn33 h25))<|pc (an l10.length (lin_ob h26))<|pc (an l10.length (obn33 h28))<|pc h29<|pc h30<|pc h31<|pc h32<|pn)
        ·obtain rfl := oi h; exact rl [2, 3, 5, 7] [0] [.t, .row (c33 x24), .row (c33 x27), .f, .t, .f, .f] (pc (rn l10.length)<|pc h22<|pc (an l10.length (lin_ob h23))<|pc (an l10.length (obn33 h25))<|pc (an l10.length (lin_ob h26))<|pc (an l10.length (obn33 h28))<|pc h29<|pc h30<|pc h31<|pc h32<|pn)
      ·obtain ⟨h33, h⟩|⟨h33, h⟩ := ite_out h
       ·obtain rfl := oi h; exact rl [2] [] [.t, .row (c33 x24), .row (c33 x27), .f, .f, .t] (pc (rn l10.length)<|pc h22<|pc (an l10.length (lin_ob h23))<|pc (an l10.length (obn33 h25))<|pc (an l10.length (lin_ob h26))<|pc (an l10.length (obn33 h28))<|pc h29<|pc h30<|pc h33<|pn)
       ·obtain rfl := oi h; exact rl [2, 3, 5, 7] [0] [.t, .row (c33 x24), .row (c33 x27), .f, .f, .f] (pc (rn l10.length)<|pc h22<|pc (an l10.length (lin_ob h23))<|pc (an l10.length (obn33 h25))<|pc (an l10.length (lin_ob h26))<|pc (an l10.length (obn33 h28))<|pc h29<|pc h30<|pc h33<|pn)
    ·cases h
   ·cases h
  ·obtain rfl := oi h; exact rl [2, 3, 5] [0] [.f] (pc (rn l10.length)<|pc h22<|pn)
 ·rcases r with _ | _ <;> exact Ex.noConfusion

theorem k_palinglaw47_AuditOrder {a1 : Api_Net} {r : Bool} (h : palinglaw47_AuditOrder a1 = some r) :
  CallsOK Tryz.prog UU 5 [.agg (c31 a1)] [] (.y r) [] := by
 unfold palinglaw47_AuditOrder at h
 obtain ⟨r2, h3, h⟩ := bo h
 obtain ⟨h4, h⟩|⟨h4, h⟩ := ite_out h
 ·obtain rfl := oi h; exact rf Tryz.func5 none [.b r2, .t] (pc (k_palinglaw47_works h3)<|pc h4<|pn)
 ·obtain ⟨r5, h6, h⟩ := bo h
  obtain ⟨h7, h⟩|⟨h7, h⟩ := ite_out h
  ·obtain rfl := oi h; exact rf Tryz.func5 none [.b r2, .f, .b r5, .t] (pc (k_palinglaw47_works h3)<|pc h4<|pc (k_palinglaw15_Great h6)<|pc h7<|pn)
  ·obtain ⟨r8, h9, h⟩ := bo h
   obtain ⟨l10, v11⟩ := r8
   obtain ⟨v18, h19, h⟩ := bo h
   obtain ⟨r35, h34, h⟩ := bo h
   rcases r35 with _ | _
   ·obtain rfl := oi h; exact rf Tryz.func5 none [.b r2, .f, .b r5, .f, .callo (.tup [.os 0 l10.length, .j v11]) [.w 33 l10], .sum [2, 3, 5, 6] [1] (.exit 0) [(2, .y false), (3, .os 0 l10.length), (5, .j v18)] [.w 33 l10], .sum [2, 3, 5, 7] [0] .ret [(2, .y false)] []] (pc (k_palinglaw47_works h3)<|pc h4<|pc (k_palinglaw15_Great h6)<|pc h7<|pc (k_audit_All h9)<|pc (im33 l10)<|pc (k_palinglaw47_AuditOrder_L1 _ _ h19)<|pc (k_palinglaw47_AuditOrder_L2 _ _ h34)<|pn)
   ·obtain ⟨h36, h⟩|⟨h36, h⟩ := ite_out h
    ·obtain ⟨r37, h38, h⟩ := bo h
     obtain rfl := oi h; exact rf Tryz.func5 none [.b r2, .f, .b r5, .f, .callo (.tup [.os 0 l10.length, .j v11]) [.w 33 l10], .sum [2, 3, 5, 6] [1] (.exit 0) [(2, .y false), (3, .os 0 l10.length), (5, .j v18)] [.w 33 l10], .sum [2, 3, 5, 7] [0] (.exit 2) [(2, .y false), (3, .os 0 l10.length), (5, .j v18)] [.w 33 l10], .t, .callv (.j r37)] (pc (k_palinglaw47_works h3)<|pc h4<|pc (k_palinglaw15_Great h6)<|pc h7<|pc (k_audit_All h9)<|pc (im33 l10)<|pc (k_palinglaw47_AuditOrder_L1 _ _ h19)<|pc (k_palinglaw47_AuditOrder_L2 _ _ h34)<|pc (rn l10.length)<|pc h36<|pc (k_audit_Count h38)<|pc (rn l10.length)<|pn)
    ·obtain rfl := oi h; exact rf Tryz.func5 none [.b r2, .f, .b r5, .f, .callo (.tup [.os 0 l10.length, .j v11]) [.w 33 l10], .sum [2, 3, 5, 6] [1] (.exit 0) [(2, .y false), (3, .os 0 l10.length), (5, .j v18)] [.w 33 l10], .sum [2, 3, 5, 7] [0] (.exit 2) [(2, .y false), (3, .os 0 l10.length), (5, .j v18)] [.w 33 l10], .f] (pc (k_palinglaw47_works h3)<|pc h4<|pc (k_palinglaw15_Great h6)<|pc h7<|pc (k_audit_All h9)<|pc (im33 l10)<|pc (k_palinglaw47_AuditOrder_L1 _ _ h19)<|pc (k_palinglaw47_AuditOrder_L2 _ _ h34)<|pc (rn l10.length)<|pc h36<|pn)

end Go.Eng
