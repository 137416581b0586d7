/- Part of the proof of AuditEven: printed mirrors of the functions, or their contracts. No conditions. -/
import Derived.Test.YtdlaaoajcoogbaaGreatDoorMAK3
set_option linter.unusedVariables false
set_option maxRecDepth 100000
namespace Go.Eng
open Go Go.Proofs
theorem k_palinglaw47_AuditEven_L1 {a1 : Api_Net} {l10 : List Audit_Note} : LoopOK Tryz.prog UU 0 180 (subC (codeOf Tryz.f4) [1, 1, 1, 1, 1, 1, 1, 0, 1, 0, 0]) (fun s : Bool × Int => match s with | (v13, v14) => palinglaw47_AuditEven_L1 a1 l10 v13 v14)
  (fun s : Bool × Int => (match s with | (v13, v14) => [(1, .o 0), (2, .y false), (3, .os 1 l10.length), (5, .y v13), (6, .z), (7, .z), (39, .sl 49 a1.links), (40, .j (a1.links.length : Int)), (41, .j v14)] : Fr DD)) (fun s : Bool × Int => (match s with | (v13, v14) => [.box 31 (c31 a1) false, .w 33 l10] : Heap DD)) (fun r => match r with | Sum.inl _ => .ret | Sum.inr v31 => .exit 0) (fun r => match r with | Sum.inl _ => [(2, .y false)] | Sum.inr v31 => [(1, .o 0), (2, .y false), (3, .os 1 l10.length), (5, .y v31), (6, .z), (7, .z)]) (fun r => match r with | Sum.inl _ => [] | Sum.inr v31 => [.box 31 (c31 a1) false, .w 33 l10]) := by
 refine loop_sound3 (fun s q h => ?_) (fun r => ?_)
 ·obtain ⟨v13, v14⟩ := s; replace h : palinglaw47_AuditEven_L1 a1 l10 v13 v14 = some q := h
  unfold palinglaw47_AuditEven_L1 at h
  obtain ⟨h15, h⟩|⟨h15, h⟩ := ite_out h
  ·obtain ⟨x16, h17, h⟩ := bo h
   obtain ⟨h18, h⟩|⟨h18, h⟩ := ite_out h
   ·obtain rfl := oi h; exact rl [2] [] [.t, .row (c49 x16), .t] (pc h15<|pc (ob49 h17)<|pc h18<|pn)
   ·obtain ⟨h19, h⟩|⟨h19, h⟩ := ite_out h
    ·obtain rfl := oi h; exact rl [2] [] [.t, .row (c49 x16), .f, .t] (pc h15<|pc (ob49 h17)<|pc h18<|pc h19<|pn)
    ·obtain ⟨h20, h⟩|⟨h20, h⟩ := ite_out h
     ·obtain rfl := oi h; exact rl [2] [] [.t, .row (c49 x16), .f, .f, .t] (pc h15<|pc (ob49 h17)<|pc h18<|pc h19<|pc h20<|pn)
     ·obtain ⟨h21, h⟩|⟨h21, h⟩ := ite_out h
      ·obtain rfl := oi h; exact rl [2] [] [.t, .row (c49 x16), .f, .f, .f, .t] (pc h15<|pc (ob49 h17)<|pc h18<|pc h19<|pc h20<|pc h21<|pn)
      ·obtain ⟨x22, h23, h⟩ := bo h
       obtain ⟨x24, h25, h⟩ := bo h
       obtain ⟨h26, h⟩|⟨h26, h⟩ := ite_out h
       ·obtain ⟨h27, h⟩|⟨h27, h⟩ := ite_out h
        ·obtain ⟨r28, h29, h⟩ := bo h
         obtain rfl := oi h; exact rl [1, 2, 3, 5, 6, 7, 39, 40, 41] [0, 1] [.t, .row (c49 x16), .f, .f, .f, .f, .row (c52 x22), .row (c52 x24), .t, .t, .b r28] (pc h15<|pc (ob49 h17)<|pc h18<|pc h19<|pc h20<|pc h21<|pc (ob52 h23)<|pc (ob52 h25)<|pc h26<|pc h27<|pc (k_palinglaw47_equal h29)<|pn)
        ·obtain rfl := oi h; exact rl [1, 2, 3, 5, 6, 7, 39, 40, 41] [0, 1] [.t, .row (c49 x16), .f, .f, .f, .f, .row (c52 x22), .row (c52 x24), .t, .f] (pc h15<|pc (ob49 h17)<|pc h18<|pc h19<|pc h20<|pc h21<|pc (ob52 h23)<|pc (ob52 h25)<|pc h26<|pc h27<|pn)
       ·obtain rfl := oi h; exact rl [1, 2, 3, 5, 6, 7, 39, 40, 41] [0, 1] [.t, .row (c49 x16), .f, .f, .f, .f, .row (c52 x22), .row (c52 x24), .f] (pc h15<|pc (ob49 h17)<|pc h18<|pc h19<|pc h20<|pc h21<|pc (ob52 h23)<|pc (ob52 h25)<|pc h26<|pn)
  ·obtain rfl := oi h; exact rl [1, 2, 3, 5, 6, 7] [0, 1] [.f] (pc h15<|pn)
 ·rcases r with _ | _ <;> exact Ex.noConfusion

theorem k_palinglaw47_AuditEven_L3 {a1 : Api_Net} {l10 : List Audit_Note} {v31 : Bool} {v36 : Int} {x38 : Api_Port} : LoopOK Tryz.prog UU 0 180 (subC (codeOf Tryz.f4) [1, 1, 1, 1, 1, 1, 1, 1, 0, 1, 0, 0, 1, 1, 0, 0, 1, 1, 0, 0]) (fun s : Int × Int × Int => match s with | (v41, v42, v43) => palinglaw47_AuditEven_L3 a1 l10 v31 v36 x38 v41 v42 v43)
  (fun s : Int × Int × Int => (match s with | (v41, v42, v43) => [(1, .o 0), (2, .y false), (3, .os 1 l10.length), (5, .y v31), (6, .j v41), (7, .j v42), (12, .j v36), (13, .o 2), (98, .sl 52 a1.ports), (99, .j (a1.ports.length : Int)), (100, .j v36), (110, .os 3 (List.length ([x38.native] ++ x38.tagged))), (111, .j ((List.length ([x38.native] ++ x38.tagged)) : Int)), (112, .j v43)] : Fr DD)) (fun s : Int × Int × Int => (match s with | (v41, v42, v43) => [.box 31 (c31 a1) false, .w 33 l10, .box 52 (c52 x38) false, .w 3 ([x38.native] ++ x38.tagged)] : Heap DD)) (fun r => match r with | (v55, v56) => .exit 4) (fun r => match r with | (v55, v56) => [(1, .o 0), (2, .y false), (3, .os 1 l10.length), (5, .y v31), (6, .j v55), (7, .j v56), (98, .sl 52 a1.ports), (99, .j (a1.ports.length : Int)), (100, .j v36)]) (fun r => match r with | (v55, v56) => [.box 31 (c31 a1) false, .w 33 l10]) := by
 refine loop_sound3 (fun s q h => ?_) (fun r => ?_)
 ·obtain ⟨v41, v42, v43⟩ := s; replace h : palinglaw47_AuditEven_L3 a1 l10 v31 v36 x38 v41 v42 v43 = some q := h
  unfold palinglaw47_AuditEven_L3 at h
  obtain ⟨h44, h⟩|⟨h44, h⟩ := ite_out h
  ·obtain ⟨h45, h⟩|⟨h45, h⟩ := ite_out h
   ·obtain ⟨x46, h47, h⟩ := bo h
    obtain ⟨h48, h⟩|⟨h48, h⟩ := ite_out h
    ·obtain rfl := oi h; exact rl [1, 2, 3, 5, 6, 7, 12, 13, 98, 99, 100, 110, 111, 112] [0, 1, 2, 3] [.t, .row (c3 x46), .t] (pc h44<|pc (an (List.length ([x38.native] ++ x38.tagged)) (lin_ob h45))<|pc (an (List.length ([x38.native] ++ x38.tagged)) (obn3 h47))<|pc h48<|pn)
    ·obtain ⟨h49, h⟩|⟨h49, h⟩ := ite_out h
     ·obtain rfl := oi h; exact rl [1, 2, 3, 5, 6, 7, 12, 13, 98, 99, 100, 110, 111, 112] [0, 1, 2, 3] [.t, .row (c3 x46), .f, .t] (pc h44<|pc (an (List.length ([x38.native] ++ x38.tagged)) (lin_ob h45))<|pc (an (List.length ([x38.native] ++ x38.tagged)) (obn3 h47))<|pc h48<|pc h49<|pn)
     ·obtain ⟨r50, h51, h⟩ := bo h
      obtain ⟨h52, h⟩|⟨h52, h⟩ := ite_out h
      ·obtain rfl := oi h; exact rl [1, 2, 3, 5, 6, 7, 12, 13, 98, 99, 100, 110, 111, 112] [0, 1, 2, 3] [.t, .row (c3 x46), .f, .f, .callv (.tup [.j r50.1, .j r50.2.1, .y r50.2.2]), .t] (pc h44<|pc (an (List.length ([x38.native] ++ x38.tagged)) (lin_ob h45))<|pc (an (List.length ([x38.native] ++ x38.tagged)) (obn3 h47))<|pc h48<|pc h49<|pc (k_links_Cross h51)<|pc h52<|pn)
      ·obtain rfl := oi h; exact rl [1, 2, 3, 5, 6, 7, 12, 13, 98, 99, 100, 110, 111, 112] [0, 1, 2, 3] [.t, .row (c3 x46), .f, .f, .callv (.tup [.j r50.1, .j r50.2.1, .y r50.2.2]), .f] (pc h44<|pc (an (List.length ([x38.native] ++ x38.tagged)) (lin_ob h45))<|pc (an (List.length ([x38.native] ++ x38.tagged)) (obn3 h47))<|pc h48<|pc h49<|pc (k_links_Cross h51)<|pc h52<|pn)
   ·cases h
  ·obtain rfl := oi h; exact rl [1, 2, 3, 5, 6, 7, 98, 99, 100] [0, 1] [.f] (pc h44<|pn)
 ·exact Ex.noConfusion

theorem k_palinglaw47_AuditEven_L2 {a1 : Api_Net} {l10 : List Audit_Note} {v31 : Bool} : LoopOK Tryz.prog UU 0 180 (subC (codeOf Tryz.f4) [1, 1, 1, 1, 1, 1, 1, 1, 0, 1, 0, 0]) (fun s : Int × Int × Int => match s with | (v34, v35, v36) => palinglaw47_AuditEven_L2 a1 l10 v31 v34 v35 v36)
  (fun s : Int × Int × Int => (match s with | (v34, v35, v36) => [(1, .o 0), (2, .y false), (3, .os 1 l10.length), (5, .y v31), (6, .j v34), (7, .j v35), (98, .sl 52 a1.ports), (99, .j (a1.ports.length : Int)), (100, .j v36)] : Fr DD)) (fun s : Int × Int × Int => (match s with | (v34, v35, v36) => [.box 31 (c31 a1) false, .w 33 l10] : Heap DD)) (fun r => match r with | (v61, v62) => .exit 2) (fun r => match r with | (v61, v62) => [(1, .o 0), (2, .y false), (3, .os 1 l10.length), (5, .y v31), (6, .j v61), (7, .j v62)]) (fun r => match r with | (v61, v62) => [.box 31 (c31 a1) false, .w 33 l10]) := by
 refine loop_sound3 (fun s q h => ?_) (fun r => ?_)
 ·obtain ⟨v34, v35, v36⟩ := s; replace h : palinglaw47_AuditEven_L2 a1 l10 v31 v34 v35 v36 = some q := h
  unfold palinglaw47_AuditEven_L2 at h
  obtain ⟨h37, h⟩|⟨h37, h⟩ := ite_out h
  ·obtain ⟨x38, h39, h⟩ := bo h
   obtain ⟨h40, h⟩|⟨h40, h⟩ := ite_out h
   ·obtain ⟨r58, h57, h⟩ := bo h
    obtain ⟨v55, v56⟩ := r58
    obtain rfl := oi h; exact rl [1, 2, 3, 5, 6, 7, 98, 99, 100] [0, 1] [.t, .row (c52 x38), .obj [] (.w 3 [x38.native]), .obj [] (.w 3 ([x38.native] ++ x38.tagged)), .sum [1, 2, 3, 5, 6, 7, 12, 13, 98, 99, 100, 110, 111, 112] [0, 1, 3, 4] (.exit 4) [(1, .o 0), (2, .y false), (3, .os 1 l10.length), (5, .y v31), (6, .j v55), (7, .j v56), (98, .sl 52 a1.ports), (99, .j (a1.ports.length : Int)), (100, .j v36)] [.box 31 (c31 a1) false, .w 33 l10]] (pc h37<|pc (ob52 h39)<|pc (bs_ob 3 [x38.native])<|pc (app_ob 3 (n := (List.length [x38.native])) (l := [x38.native]) (xs := x38.tagged) h40)<|pc (rn (List.length ([x38.native] ++ x38.tagged)))<|pc (k_palinglaw47_AuditEven_L3 _ _ h57)<|pn)
   ·cases h
  ·obtain rfl := oi h; exact rl [1, 2, 3, 5, 6, 7] [0, 1] [.f] (pc h37<|pn)
 ·exact Ex.noConfusion

theorem k_palinglaw47_AuditEven_L4 {a1 : Api_Net} {l10 : List Audit_Note} {v31 : Bool} {v61 : Int} {v62 : Int} : LoopOK Tryz.prog UU 0 180 (subC (codeOf Tryz.f4) [1, 1, 1, 1, 1, 1, 1, 1, 1, 0, 1, 0, 0]) (ρ := Unit ⊕ Unit) (palinglaw47_AuditEven_L4 a1 l10 v31 v61 v62)
  (fun v65 : Int => ([(1, .o 0), (2, .y false), (3, .os 1 l10.length), (5, .y v31), (6, .j v61), (7, .j v62), (138, .os 1 l10.length), (139, .j (l10.length : Int)), (140, .j v65)] : Fr DD)) (fun v65 : Int => ([.box 31 (c31 a1) false, .w 33 l10] : Heap DD)) (fun r => match r with | Sum.inl _ => .ret | Sum.inr _ => .exit 6) (fun r => match r with | Sum.inl _ => [(2, .y false)] | Sum.inr _ => [(2, .y false), (3, .os 0 l10.length), (5, .y v31), (6, .j v61), (7, .j v62)]) (fun r => match r with | Sum.inl _ => [] | Sum.inr _ => [.w 33 l10]) := by
 refine loop_sound3 (fun s q h => ?_) (fun r => ?_)
 ·replace h : palinglaw47_AuditEven_L4 a1 l10 v31 v61 v62 s = some q := h; revert h; revert s; intro v65 h
  unfold palinglaw47_AuditEven_L4 at h
  obtain ⟨h66, h⟩|⟨h66, h⟩ := ite_out h
  ·obtain ⟨h67, h⟩|⟨h67, h⟩ := ite_out h
   ·obtain ⟨x68, h69, h⟩ := bo h
    obtain ⟨h70, h⟩|⟨h70, h⟩ := ite_out h
    ·obtain rfl := oi h; exact rl [1, 2, 3, 5, 6, 7, 138, 139, 140] [0, 1] [.t, .row (c33 x68), .t] (pc h66<|pc (an l10.length (lin_ob h67))<|pc (an l10.length (obn33 h69))<|pc h70<|pn)
    ·obtain ⟨r71, h72, h⟩ := bo h
     obtain ⟨h73, h⟩|⟨h73, h⟩ := ite_out h
     ·obtain rfl := oi h; exact rl [2] [] [.t, .row (c33 x68), .f, .callv (.tup [.j r71.1, .j r71.2.1, .y r71.2.2]), .t] (pc h66<|pc (an l10.length (lin_ob h67))<|pc (an l10.length (obn33 h69))<|pc h70<|pc (k_links_Cross h72)<|pc h73<|pn)
     ·obtain rfl := oi h; exact rl [1, 2, 3, 5, 6, 7, 138, 139, 140] [0, 1] [.t, .row (c33 x68), .f, .callv (.tup [.j r71.1, .j r71.2.1, .y r71.2.2]), .f] (pc h66<|pc (an l10.length (lin_ob h67))<|pc (an l10.length (obn33 h69))<|pc h70<|pc (k_links_Cross h72)<|pc h73<|pn)
   ·cases h
  ·obtain rfl := oi h; exact rl [2, 3, 5, 6, 7] [1] [.f] (pc h66<|pn)
 ·rcases r with _ | _ <;> exact Ex.noConfusion

theorem k_palinglaw47_AuditEven {a1 : Api_Net} {r : Bool} (h : palinglaw47_AuditEven a1 = some r) :
  CallsOK Tryz.prog UU 4 [.agg (c31 a1)] [] (.y r) [] := by
 unfold palinglaw47_AuditEven at h
 obtain ⟨r2, h3, h⟩ := bo h
 obtain ⟨h4, h⟩|⟨h4, h⟩ := ite_out h
 ·obtain rfl := oi h; exact rf Tryz.func4 none [.b r2, .t] (pc (k_palinglaw47_works h3)<|pc h4<|pn)
 ·obtain ⟨r5, h6, h⟩ := bo h
  obtain ⟨h7, h⟩|⟨h7, h⟩ := ite_out h
  ·obtain rfl := oi h; exact rf Tryz.func4 none [.b r2, .f, .b r5, .t] (pc (k_palinglaw47_works h3)<|pc h4<|pc (k_palinglaw15_Great h6)<|pc h7<|pn)
  ·obtain ⟨r8, h9, h⟩ := bo h
   obtain ⟨l10, v11⟩ := r8
   obtain ⟨h12, h⟩|⟨h12, h⟩ := ite_out h
   ·obtain rfl := oi h; exact rf Tryz.func4 none [.b r2, .f, .b r5, .f, .callo (.tup [.os 0 l10.length, .j v11]) [.w 33 l10], .t] (pc (k_palinglaw47_works h3)<|pc h4<|pc (k_palinglaw15_Great h6)<|pc h7<|pc (k_audit_All h9)<|pc (im33 l10)<|pc h12<|pc (rn l10.length)<|pn)
   ·obtain ⟨r33, h32, h⟩ := bo h
    rcases r33 with _ | v31
    ·obtain rfl := oi h; exact rf Tryz.func4 none [.b r2, .f, .b r5, .f, .callo (.tup [.os 0 l10.length, .j v11]) [.w 33 l10], .f, .sum [1, 2, 3, 5, 6, 7, 39, 40, 41] [0, 1] .ret [(2, .y false)] []] (pc (k_palinglaw47_works h3)<|pc h4<|pc (k_palinglaw15_Great h6)<|pc h7<|pc (k_audit_All h9)<|pc (im33 l10)<|pc h12<|pc (k_palinglaw47_AuditEven_L1 _ _ h32)<|pn)
    ·obtain ⟨r64, h63, h⟩ := bo h
     obtain ⟨v61, v62⟩ := r64
     obtain ⟨r75, h74, h⟩ := bo h
     rcases r75 with _ | _
     ·obtain rfl := oi h; exact rf Tryz.func4 none [.b r2, .f, .b r5, .f, .callo (.tup [.os 0 l10.length, .j v11]) [.w 33 l10], .f, .sum [1, 2, 3, 5, 6, 7, 39, 40, 41] [0, 1] (.exit 0) [(1, .o 0), (2, .y false), (3, .os 1 l10.length), (5, .y v31), (6, .z), (7, .z)] [.box 31 (c31 a1) false, .w 33 l10], .sum [1, 2, 3, 5, 6, 7, 98, 99, 100] [0, 1] (.exit 2) [(1, .o 0), (2, .y false), (3, .os 1 l10.length), (5, .y v31), (6, .j v61), (7, .j v62)] [.box 31 (c31 a1) false, .w 33 l10], .sum [1, 2, 3, 5, 6, 7, 138, 139, 140] [0, 1] .ret [(2, .y false)] []] (pc (k_palinglaw47_works h3)<|pc h4<|pc (k_palinglaw15_Great h6)<|pc h7<|pc (k_audit_All h9)<|pc (im33 l10)<|pc h12<|pc (k_palinglaw47_AuditEven_L1 _ _ h32)<|pc (k_palinglaw47_AuditEven_L2 _ _ h63)<|pc (rn l10.length)<|pc (k_palinglaw47_AuditEven_L4 _ _ h74)<|pn)
     ·obtain ⟨r76, h77, h⟩ := bo h
      obtain ⟨h78, h⟩|⟨h78, h⟩ := ite_out h
      ·obtain ⟨h79, h⟩|⟨h79, h⟩ := ite_out h
       ·obtain rfl := oi h; exact rf Tryz.func4 none [.b r2, .f, .b r5, .f, .callo (.tup [.os 0 l10.length, .j v11]) [.w 33 l10], .f, .sum [1, 2, 3, 5, 6, 7, 39, 40, 41] [0, 1] (.exit 0) [(1, .o 0), (2, .y false), (3, .os 1 l10.length), (5, .y v31), (6, .z), (7, .z)] [.box 31 (c31 a1) false, .w 33 l10], .sum [1, 2, 3, 5, 6, 7, 98, 99, 100] [0, 1] (.exit 2) [(1, .o 0), (2, .y false), (3, .os 1 l10.length), (5, .y v31), (6, .j v61), (7, .j v62)] [.box 31 (c31 a1) false, .w 33 l10], .sum [1, 2, 3, 5, 6, 7, 138, 139, 140] [0, 1] (.exit 6) [(2, .y false), (3, .os 0 l10.length), (5, .y v31), (6, .j v61), (7, .j v62)] [.w 33 l10], .callv (.j r76), .t, .t] (pc (k_palinglaw47_works h3)<|pc h4<|pc (k_palinglaw15_Great h6)<|pc h7<|pc (k_audit_All h9)<|pc (im33 l10)<|pc h12<|pc (k_palinglaw47_AuditEven_L1 _ _ h32)<|pc (k_palinglaw47_AuditEven_L2 _ _ h63)<|pc (rn l10.length)<|pc (k_palinglaw47_AuditEven_L4 _ _ h74)<|pc (k_audit_Count h77)<|pc (rn l10.length)<|pc h78<|pc h79<|pn)
       ·obtain ⟨h80, h⟩|⟨h80, h⟩ := ite_out h
        ·obtain ⟨r81, h82, h⟩ := bo h
         obtain ⟨h83, h⟩|⟨h83, h⟩ := ite_out h
         ·obtain rfl := oi h; exact rf Tryz.func4 none [.b r2, .f, .b r5, .f, .callo (.tup [.os 0 l10.length, .j v11]) [.w 33 l10], .f, .sum [1, 2, 3, 5, 6, 7, 39, 40, 41] [0, 1] (.exit 0) [(1, .o 0), (2, .y false), (3, .os 1 l10.length), (5, .y v31), (6, .z), (7, .z)] [.box 31 (c31 a1) false, .w 33 l10], .sum [1, 2, 3, 5, 6, 7, 98, 99, 100] [0, 1] (.exit 2) [(1, .o 0), (2, .y false), (3, .os 1 l10.length), (5, .y v31), (6, .j v61), (7, .j v62)] [.box 31 (c31 a1) false, .w 33 l10], .sum [1, 2, 3, 5, 6, 7, 138, 139, 140] [0, 1] (.exit 6) [(2, .y false), (3, .os 0 l10.length), (5, .y v31), (6, .j v61), (7, .j v62)] [.w 33 l10], .callv (.j r76), .t, .f, .t, .callv (.j r81), .t] (pc (k_palinglaw47_works h3)<|pc h4<|pc (k_palinglaw15_Great h6)<|pc h7<|pc (k_audit_All h9)<|pc (im33 l10)<|pc h12<|pc (k_palinglaw47_AuditEven_L1 _ _ h32)<|pc (k_palinglaw47_AuditEven_L2 _ _ h63)<|pc (rn l10.length)<|pc (k_palinglaw47_AuditEven_L4 _ _ h74)<|pc (k_audit_Count h77)<|pc (rn l10.length)<|pc h78<|pc h79<|pc h80<|pc (k_audit_Count h82)<|pc (rn l10.length)<|pc h83<|pn)
         ·obtain rfl := oi h; exact rf Tryz.func4 none [.b r2, .f, .b r5, .f, .callo (.tup [.os 0 l10.length, .j v11]) [.w 33 l10], .f, .sum [1, 2, 3, 5, 6, 7, 39, 40, 41] [0, 1] (.exit 0) [(1, .o 0), (2, .y false), (3, .os 1 l10.length), (5, .y v31), (6, .z), (7, .z)] [.box 31 (c31 a1) false, .w 33 l10], .sum [1, 2, 3, 5, 6, 7, 98, 99, 100] [0, 1] (.exit 2) [(1, .o 0), (2, .y false), (3, .os 1 l10.length), (5, .y v31), (6, .j v61), (7, .j v62)] [.box 31 (c31 a1) false, .w 33 l10], .sum [1, 2, 3, 5, 6, 7, 138, 139, 140] [0, 1] (.exit 6) [(2, .y false), (3, .os 0 l10.length), (5, .y v31), (6, .j v61), (7, .j v62)] [.w 33 l10], .callv (.j r76), .t, .f, .t, .callv (.j r81), .f] (pc (k_palinglaw47_works h3)<|pc h4<|pc (k_palinglaw15_Great h6)<|pc h7<|pc (k_audit_All h9)<|pc (im33 l10)<|pc h12<|pc (k_palinglaw47_AuditEven_L1 _ _ h32)<|pc (k_palinglaw47_AuditEven_L2 _ _ h63)<|pc (rn l10.length)<|pc (k_palinglaw47_AuditEven_L4 _ _ h74)<|pc (k_audit_Count h77)<|pc (rn l10.length)<|pc h78<|pc h79<|pc h80<|pc (k_audit_Count h82)<|pc (rn l10.length)<|pc h83<|pn)
        ·obtain rfl := oi h; exact rf Tryz.func4 none [.b r2, .f, .b r5, .f, .callo (.tup [.os 0 l10.length, .j v11]) [.w 33 l10], .f, .sum [1, 2, 3, 5, 6, 7, 39, 40, 41] [0, 1] (.exit 0) [(1, .o 0), (2, .y false), (3, .os 1 l10.length), (5, .y v31), (6, .z), (7, .z)] [.box 31 (c31 a1) false, .w 33 l10], .sum [1, 2, 3, 5, 6, 7, 98, 99, 100] [0, 1] (.exit 2) [(1, .o 0), (2, .y false), (3, .os 1 l10.length), (5, .y v31), (6, .j v61), (7, .j v62)] [.box 31 (c31 a1) false, .w 33 l10], .sum [1, 2, 3, 5, 6, 7, 138, 139, 140] [0, 1] (.exit 6) [(2, .y false), (3, .os 0 l10.length), (5, .y v31), (6, .j v61), (7, .j v62)] [.w 33 l10], .callv (.j r76), .t, .f, .f] (pc (k_palinglaw47_works h3)<|pc h4<|pc (k_palinglaw15_Great h6)<|pc h7<|pc (k_audit_All h9)<|pc (im33 l10)<|pc h12<|pc (k_palinglaw47_AuditEven_L1 _ _ h32)<|pc (k_palinglaw47_AuditEven_L2 _ _ h63)<|pc (rn l10.length)<|pc (k_palinglaw47_AuditEven_L4 _ _ h74)<|pc (k_audit_Count h77)<|pc (rn l10.length)<|pc h78<|pc h79<|pc h80<|pn)
      ·obtain rfl := oi h; exact rf Tryz.func4 none [.b r2, .f, .b r5, .f, .callo (.tup [.os 0 l10.length, .j v11]) [.w 33 l10], .f, .sum [1, 2, 3, 5, 6, 7, 39, 40, 41] [0, 1] (.exit 0) [(1, .o 0), (2, .y false), (3, .os 1 l10.length), (5, .y v31), (6, .z), (7, .z)] [.box 31 (c31 a1) false, .w 33 l10], .sum [1, 2, 3, 5, 6, 7, 98, 99, 100] [0, 1] (.exit 2) [(1, .o 0), (2, .y false), (3, .os 1 l10.length), (5, .y v31), (6, .j v61), (7, .j v62)] [.box 31 (c31 a1) false, .w 33 l10], .sum [1, 2, 3, 5, 6, 7, 138, 139, 140] [0, 1] (.exit 6) [(2, .y false), (3, .os 0 l10.length), (5, .y v31), (6, .j v61), (7, .j v62)] [.w 33 l10], .callv (.j r76), .f] (pc (k_palinglaw47_works h3)<|pc h4<|pc (k_palinglaw15_Great h6)<|pc h7<|pc (k_audit_All h9)<|pc (im33 l10)<|pc h12<|pc (k_palinglaw47_AuditEven_L1 _ _ h32)<|pc (k_palinglaw47_AuditEven_L2 _ _ h63)<|pc (rn l10.length)<|pc (k_palinglaw47_AuditEven_L4 _ _ h74)<|pc (k_audit_Count h77)<|pc (rn l10.length)<|pc h78<|pn)

end Go.Eng
