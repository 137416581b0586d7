/- Part of the proof of AuditOrder: printed mirrors of the functions, or their contracts. No conditions. -/
import Derived.Test.YtdlaaoajcoogbaaGreatDoorMAK
set_option linter.unusedVariables false
set_option maxRecDepth 100000
namespace Go.Eng
open Go Go.Proofs
theorem k_names_judge_few {a1 : Names_judge} {r : Bool} (h : names_judge_few a1 = some r) :
  CallsOK Tryz.prog UU 37 [.agg (c83 a1)] [] (.y r) [] := by
 unfold names_judge_few at h
 obtain ⟨h2, h⟩|⟨h2, h⟩ := ite_out h
 ·obtain ⟨h3, h⟩|⟨h3, h⟩ := ite_out h
  ·obtain ⟨h4, h⟩|⟨h4, h⟩ := ite_out h
   ·obtain ⟨h5, h⟩|⟨h5, h⟩ := ite_out h
    ·obtain ⟨h6, h⟩|⟨h6, h⟩ := ite_out h
     ·obtain ⟨h7, h⟩|⟨h7, h⟩ := ite_out h
      ·obtain ⟨h8, h⟩|⟨h8, h⟩ := ite_out h
       ·obtain rfl := oi h; exact rf Tryz.func37 none [.t, .t, .t, .t, .t, .t, .t] (pc h2<|pc h3<|pc h4<|pc h5<|pc h6<|pc h7<|pc h8<|pn)
       ·obtain rfl := oi h; exact rf Tryz.func37 none [.t, .t, .t, .t, .t, .t, .f] (pc h2<|pc h3<|pc h4<|pc h5<|pc h6<|pc h7<|pc h8<|pn)
      ·obtain rfl := oi h; exact rf Tryz.func37 none [.t, .t, .t, .t, .t, .f] (pc h2<|pc h3<|pc h4<|pc h5<|pc h6<|pc h7<|pn)
     ·obtain rfl := oi h; exact rf Tryz.func37 none [.t, .t, .t, .t, .f] (pc h2<|pc h3<|pc h4<|pc h5<|pc h6<|pn)
    ·obtain rfl := oi h; exact rf Tryz.func37 none [.t, .t, .t, .f] (pc h2<|pc h3<|pc h4<|pc h5<|pn)
   ·obtain rfl := oi h; exact rf Tryz.func37 none [.t, .t, .f] (pc h2<|pc h3<|pc h4<|pn)
  ·obtain rfl := oi h; exact rf Tryz.func37 none [.t, .f] (pc h2<|pc h3<|pn)
 ·obtain rfl := oi h; exact rf Tryz.func37 none [.f] (pc h2<|pn)

theorem k_names_place_Device {a1 : List Api_Device} {a2 : Int} {r : Bool} (h : names_place_Device a1 a2 = some r) :
  CallsOK Tryz.prog UU 49 [.sl 61 a1, .j a2] [] (.y r) [] := by
 unfold names_place_Device at h
 obtain ⟨h3, h⟩|⟨h3, h⟩ := ite_out h
 ·obtain rfl := oi h; exact rf Tryz.func49 none [.t] (pc h3<|pn)
 ·obtain rfl := oi h; exact rf Tryz.func49 none [.f] (pc h3<|pn)

theorem k_names_judge_domain_1 {a1 : Api_Domain} {a2 : Int} {a3 : Int} {r : Bool} (h : names_judge_domain_1 a1 a2 a3 = some r) :
  CallsOK Tryz.prog UU 102 [.agg (c63 a1), .rp (c3 a2) 0, .rp (c3 a3) 0] [] (.y r) [] := by
 unfold names_judge_domain_1 at h
 obtain ⟨h4, h⟩|⟨h4, h⟩ := ite_out h
 ·obtain rfl := oi h; exact rf Tryz.func102 none [.t] (pc h4<|pn)
 ·obtain rfl := oi h; exact rf Tryz.func102 none [.f] (pc h4<|pn)

theorem k_slices_IndexFunc_Domain_judge_domain_1_L1 {a1 : List Api_Domain} {a2 : Int} {a3 : Int} : LoopOK Tryz.prog UU 0 19 (subC (codeOf Tryz.f101) [1, 0, 1, 0, 0]) (ρ := Int ⊕ Unit) (slices_IndexFunc_Domain_judge_domain_1_L1 a1 a2 a3)
  (fun v4 : Int => ([(0, .sl 63 a1), (1, .fn (.func 102) [] [.rp (c3 a2) 0, .rp (c3 a3) 0]), (4, .z), (7, .j (a1.length : Int)), (8, .j v4)] : Fr DD)) (fun v4 : Int => ([] : Heap DD)) (fun r => match r with | Sum.inl v12 => .ret | Sum.inr _ => .exit 0) (fun r => match r with | Sum.inl v12 => [(4, .j v12)] | Sum.inr _ => [(4, .z)]) (fun r => match r with | Sum.inl v12 => [] | Sum.inr _ => []) := by
 refine loop_sound3 (fun s q h => ?_) (fun r => ?_)
 ·replace h : slices_IndexFunc_Domain_judge_domain_1_L1 a1 a2 a3 s = some q := h; revert h; revert s; intro v4 h
  unfold slices_IndexFunc_Domain_judge_domain_1_L1 at h
  obtain ⟨h5, h⟩|⟨h5, h⟩ := ite_out h
  ·obtain ⟨x6, h7, h⟩ := bo h
   obtain ⟨r8, h9, h⟩ := bo h
   obtain ⟨h10, h⟩|⟨h10, h⟩ := ite_out h
   ·obtain rfl := oi h; exact rl [4] [] [.t, .row (c63 x6), .b r8, .t] (pc h5<|pc (ob63 h7)<|pc (k_names_judge_domain_1 h9)<|pc h10<|pn)
   ·obtain rfl := oi h; exact rl [0, 1, 4, 7, 8] [] [.t, .row (c63 x6), .b r8, .f] (pc h5<|pc (ob63 h7)<|pc (k_names_judge_domain_1 h9)<|pc h10<|pn)
  ·obtain rfl := oi h; exact rl [4] [] [.f] (pc h5<|pn)
 ·rcases r with _ | _ <;> exact Ex.noConfusion

theorem k_slices_IndexFunc_Domain_judge_domain_1 {a1 : List Api_Domain} {a2 : Int} {a3 : Int} {r : Int} (h : slices_IndexFunc_Domain_judge_domain_1 a1 a2 a3 = some r) :
  CallsOK Tryz.prog UU 101 [.sl 63 a1, .fn (.func 102) [] [.rp (c3 a2) 0, .rp (c3 a3) 0]] [] (.j r) [] := by
 unfold slices_IndexFunc_Domain_judge_domain_1 at h
 obtain ⟨r14, h13, h⟩ := bo h
 rcases r14 with v12 | _
 ·obtain rfl := oi h; exact rf Tryz.func101 none [.sum [0, 1, 4, 7, 8] [] .ret [(4, .j v12)] []] (pc (k_slices_IndexFunc_Domain_judge_domain_1_L1 _ _ h13)<|pn)
 ·obtain rfl := oi h; exact rf Tryz.func101 none [.sum [0, 1, 4, 7, 8] [] (.exit 0) [(4, .z)] []] (pc (k_slices_IndexFunc_Domain_judge_domain_1_L1 _ _ h13)<|pn)

theorem k_names_judge_domain {a1 : Names_judge} {a2 : Int} {a3 : Int} {r : Int} (h : names_judge_domain a1 a2 a3 = some r) :
  CallsOK Tryz.prog UU 72 [.agg (c83 a1), .j a2, .j a3] [] (.j r) [] := by
 unfold names_judge_domain at h
 obtain ⟨r4, h5, h⟩ := bo h
 obtain rfl := oi h; exact rf Tryz.func72 none [.callv (.j r4)] (pc (k_slices_IndexFunc_Domain_judge_domain_1 h5)<|pn)

theorem k_names_place_Irb {a1 : List Api_Irb} {a2 : Int} {r : Bool} (h : names_place_Irb a1 a2 = some r) :
  CallsOK Tryz.prog UU 71 [.sl 103 a1, .j a2] [] (.y r) [] := by
 unfold names_place_Irb at h
 obtain ⟨h3, h⟩|⟨h3, h⟩ := ite_out h
 ·obtain rfl := oi h; exact rf Tryz.func71 none [.t] (pc h3<|pn)
 ·obtain rfl := oi h; exact rf Tryz.func71 none [.f] (pc h3<|pn)

theorem k_names_judge_bare {a1 : Names_judge} {a2 : Int} {a3 : Api_Domain} {r : Bool} (h : names_judge_bare a1 a2 a3 = some r) :
  CallsOK Tryz.prog UU 39 [.agg (c83 a1), .j a2, .agg (c63 a3)] [] (.y r) [] := by
 unfold names_judge_bare at h
 obtain ⟨r4, h5, h⟩ := bo h
 obtain ⟨h6, h⟩|⟨h6, h⟩ := ite_out h
 ·obtain ⟨h7, h⟩|⟨h7, h⟩ := ite_out h
  ·obtain ⟨h8, h⟩|⟨h8, h⟩ := ite_out h
   ·obtain ⟨h9, h⟩|⟨h9, h⟩ := ite_out h
    ·obtain ⟨h10, h⟩|⟨h10, h⟩ := ite_out h
     ·obtain ⟨h11, h⟩|⟨h11, h⟩ := ite_out h
      ·obtain ⟨r12, h13, h⟩ := bo h
       obtain rfl := oi h; exact rf Tryz.func39 none [.b r4, .t, .t, .t, .t, .t, .t, .callv (.j r12)] (pc (k_names_place_Device h5)<|pc h6<|pc h7<|pc h8<|pc h9<|pc h10<|pc h11<|pc (k_names_judge_domain h13)<|pn)
      ·obtain ⟨r14, h15, h⟩ := bo h
       obtain ⟨h16, h⟩|⟨h16, h⟩ := ite_out h
       ·obtain ⟨x17, h18, h⟩ := bo h
        obtain ⟨h19, h⟩|⟨h19, h⟩ := ite_out h
        ·obtain ⟨r20, h21, h⟩ := bo h
         obtain rfl := oi h; exact rf Tryz.func39 none [.b r4, .t, .t, .t, .t, .t, .f, .b r14, .t, .row (c103 x17), .t, .callv (.j r20)] (pc (k_names_place_Device h5)<|pc h6<|pc h7<|pc h8<|pc h9<|pc h10<|pc h11<|pc (k_names_place_Irb h15)<|pc h16<|pc (ob103 h18)<|pc h19<|pc (k_names_judge_domain h21)<|pn)
        ·obtain rfl := oi h; exact rf Tryz.func39 none [.b r4, .t, .t, .t, .t, .t, .f, .b r14, .t, .row (c103 x17), .f] (pc (k_names_place_Device h5)<|pc h6<|pc h7<|pc h8<|pc h9<|pc h10<|pc h11<|pc (k_names_place_Irb h15)<|pc h16<|pc (ob103 h18)<|pc h19<|pn)
       ·obtain rfl := oi h; exact rf Tryz.func39 none [.b r4, .t, .t, .t, .t, .t, .f, .b r14, .f] (pc (k_names_place_Device h5)<|pc h6<|pc h7<|pc h8<|pc h9<|pc h10<|pc h11<|pc (k_names_place_Irb h15)<|pc h16<|pn)
     ·obtain rfl := oi h; exact rf Tryz.func39 none [.b r4, .t, .t, .t, .t, .f] (pc (k_names_place_Device h5)<|pc h6<|pc h7<|pc h8<|pc h9<|pc h10<|pn)
    ·obtain rfl := oi h; exact rf Tryz.func39 none [.b r4, .t, .t, .t, .f] (pc (k_names_place_Device h5)<|pc h6<|pc h7<|pc h8<|pc h9<|pn)
   ·obtain rfl := oi h; exact rf Tryz.func39 none [.b r4, .t, .t, .f] (pc (k_names_place_Device h5)<|pc h6<|pc h7<|pc h8<|pn)
  ·obtain rfl := oi h; exact rf Tryz.func39 none [.b r4, .t, .f] (pc (k_names_place_Device h5)<|pc h6<|pc h7<|pn)
 ·obtain rfl := oi h; exact rf Tryz.func39 none [.b r4, .f] (pc (k_names_place_Device h5)<|pc h6<|pn)

theorem k_names_all_Domain_judge_bare_L1 {a1 : List Api_Domain} {a2 : Names_judge} : LoopOK Tryz.prog UU 0 20 (subC (codeOf Tryz.f38) [1, 0, 1, 0, 0]) (ρ := Unit ⊕ Unit) (names_all_Domain_judge_bare_L1 a1 a2)
  (fun v3 : Int => ([(1, .fn (.func 39) [.agg (c83 a2)] []), (4, .y false), (7, .sl 63 a1), (8, .j (a1.length : Int)), (9, .j v3)] : Fr DD)) (fun v3 : Int => ([] : Heap DD)) (fun r => match r with | Sum.inl _ => .ret | Sum.inr _ => .exit 0) (fun r => match r with | Sum.inl _ => [(4, .y false)] | Sum.inr _ => [(4, .y false)]) (fun r => match r with | Sum.inl _ => [] | Sum.inr _ => []) := by
 refine loop_sound3 (fun s q h => ?_) (fun r => ?_)
 ·replace h : names_all_Domain_judge_bare_L1 a1 a2 s = some q := h; revert h; revert s; intro v3 h
  unfold names_all_Domain_judge_bare_L1 at h
  obtain ⟨h4, h⟩|⟨h4, h⟩ := ite_out h
  ·obtain ⟨x5, h6, h⟩ := bo h
   obtain ⟨r7, h8, h⟩ := bo h
   obtain ⟨h9, h⟩|⟨h9, h⟩ := ite_out h
   ·obtain rfl := oi h; exact rl [4] [] [.t, .row (c63 x5), .b r7, .t] (pc h4<|pc (ob63 h6)<|pc (k_names_judge_bare h8)<|pc h9<|pn)
   ·obtain rfl := oi h; exact rl [1, 4, 7, 8, 9] [] [.t, .row (c63 x5), .b r7, .f] (pc h4<|pc (ob63 h6)<|pc (k_names_judge_bare h8)<|pc h9<|pn)
  ·obtain rfl := oi h; exact rl [4] [] [.f] (pc h4<|pn)
 ·rcases r with _ | _ <;> exact Ex.noConfusion

theorem k_names_all_Domain_judge_bare {a1 : List Api_Domain} {a2 : Names_judge} {r : Bool} (h : names_all_Domain_judge_bare a1 a2 = some r) :
  CallsOK Tryz.prog UU 38 [.sl 63 a1, .fn (.func 39) [.agg (c83 a2)] []] [] (.y r) [] := by
 unfold names_all_Domain_judge_bare at h
 obtain ⟨r11, h10, h⟩ := bo h
 rcases r11 with _ | _
 ·obtain rfl := oi h; exact rf Tryz.func38 none [.sum [1, 4, 7, 8, 9] [] .ret [(4, .y false)] []] (pc (k_names_all_Domain_judge_bare_L1 _ _ h10)<|pn)
 ·obtain rfl := oi h; exact rf Tryz.func38 none [.sum [1, 4, 7, 8, 9] [] (.exit 0) [(4, .y false)] []] (pc (k_names_all_Domain_judge_bare_L1 _ _ h10)<|pn)

theorem k_names_place_Domain {a1 : List Api_Domain} {a2 : Int} {r : Bool} (h : names_place_Domain a1 a2 = some r) :
  CallsOK Tryz.prog UU 78 [.sl 63 a1, .j a2] [] (.y r) [] := by
 unfold names_place_Domain at h
 obtain ⟨h3, h⟩|⟨h3, h⟩ := ite_out h
 ·obtain rfl := oi h; exact rf Tryz.func78 none [.t] (pc h3<|pn)
 ·obtain rfl := oi h; exact rf Tryz.func78 none [.f] (pc h3<|pn)

theorem k_names_judge_vtep {a1 : Names_judge} {a2 : Api_Domain} {r : Bool} (h : names_judge_vtep a1 a2 = some r) :
  CallsOK Tryz.prog UU 103 [.agg (c83 a1), .agg (c63 a2)] [] (.y r) [] := by
 unfold names_judge_vtep at h
 obtain ⟨x3, h4, h⟩ := bo h
 obtain rfl := oi h; exact rf Tryz.func103 none [.row (c61 x3)] (pc (ob61 h4)<|pn)

theorem k_slices_Index_int_L1 {a1 : List Int} {a2 : Int} : LoopOK Tryz.prog UU 0 19 (subC (codeOf Tryz.f70) [1, 0, 1, 0, 0]) (ρ := Int ⊕ Unit) (slices_Index_int_L1 a1 a2)
  (fun v3 : Int => ([(0, .sl 3 a1), (1, .j a2), (4, .z), (7, .j (a1.length : Int)), (8, .j v3)] : Fr DD)) (fun v3 : Int => ([] : Heap DD)) (fun r => match r with | Sum.inl v9 => .ret | Sum.inr _ => .exit 0) (fun r => match r with | Sum.inl v9 => [(4, .j v9)] | Sum.inr _ => [(4, .z)]) (fun r => match r with | Sum.inl v9 => [] | Sum.inr _ => []) := by
 refine loop_sound3 (fun s q h => ?_) (fun r => ?_)
 ·replace h : slices_Index_int_L1 a1 a2 s = some q := h; revert h; revert s; intro v3 h
  unfold slices_Index_int_L1 at h
  obtain ⟨h4, h⟩|⟨h4, h⟩ := ite_out h
  ·obtain ⟨x5, h6, h⟩ := bo h
   obtain ⟨h7, h⟩|⟨h7, h⟩ := ite_out h
   ·obtain rfl := oi h; exact rl [4] [] [.t, .row (c3 x5), .t] (pc h4<|pc (ob3 h6)<|pc h7<|pn)
   ·obtain rfl := oi h; exact rl [0, 1, 4, 7, 8] [] [.t, .row (c3 x5), .f] (pc h4<|pc (ob3 h6)<|pc h7<|pn)
  ·obtain rfl := oi h; exact rl [4] [] [.f] (pc h4<|pn)
 ·rcases r with _ | _ <;> exact Ex.noConfusion

theorem k_slices_Index_int {a1 : List Int} {a2 : Int} {r : Int} (h : slices_Index_int a1 a2 = some r) :
  CallsOK Tryz.prog UU 70 [.sl 3 a1, .j a2] [] (.j r) [] := by
 unfold slices_Index_int at h
 obtain ⟨r11, h10, h⟩ := bo h
 rcases r11 with v9 | _
 ·obtain rfl := oi h; exact rf Tryz.func70 none [.sum [0, 1, 4, 7, 8] [] .ret [(4, .j v9)] []] (pc (k_slices_Index_int_L1 _ _ h10)<|pn)
 ·obtain rfl := oi h; exact rf Tryz.func70 none [.sum [0, 1, 4, 7, 8] [] (.exit 0) [(4, .z)] []] (pc (k_slices_Index_int_L1 _ _ h10)<|pn)

theorem k_slices_Contains_int {a1 : List Int} {a2 : Int} {r : Bool} (h : slices_Contains_int a1 a2 = some r) :
  CallsOK Tryz.prog UU 36 [.sl 3 a1, .j a2] [] (.y r) [] := by
 unfold slices_Contains_int at h
 obtain ⟨r3, h4, h⟩ := bo h
 obtain rfl := oi h; exact rf Tryz.func36 none [.callv (.j r3)] (pc (k_slices_Index_int h4)<|pn)

theorem k_names_judge_peer {a1 : Names_judge} {a2 : Int} {a3 : Api_Domain} {a4 : Int} {r : Bool} (h : names_judge_peer a1 a2 a3 a4 = some r) :
  CallsOK Tryz.prog UU 75 [.agg (c83 a1), .j a2, .agg (c63 a3), .j a4] [] (.y r) [] := by
 unfold names_judge_peer at h
 obtain ⟨r5, h6, h⟩ := bo h
 obtain ⟨h7, h⟩|⟨h7, h⟩ := ite_out h
 ·obtain rfl := oi h; exact rf Tryz.func75 none [.b r5, .t] (pc (k_names_place_Domain h6)<|pc h7<|pn)
 ·obtain ⟨h8, h⟩|⟨h8, h⟩ := ite_out h
  ·obtain rfl := oi h; exact rf Tryz.func75 none [.b r5, .f, .t] (pc (k_names_place_Domain h6)<|pc h7<|pc h8<|pn)
  ·obtain ⟨x9, h10, h⟩ := bo h
   obtain ⟨r11, h12, h⟩ := bo h
   obtain ⟨h13, h⟩|⟨h13, h⟩ := ite_out h
   ·obtain ⟨h14, h⟩|⟨h14, h⟩ := ite_out h
    ·obtain ⟨h15, h⟩|⟨h15, h⟩ := ite_out h
     ·obtain ⟨h16, h⟩|⟨h16, h⟩ := ite_out h
      ·obtain ⟨r17, h18, h⟩ := bo h
       obtain ⟨h19, h⟩|⟨h19, h⟩ := ite_out h
       ·obtain ⟨r20, h21, h⟩ := bo h
        obtain ⟨h22, h⟩|⟨h22, h⟩ := ite_out h
        ·obtain ⟨r23, h24, h⟩ := bo h
         obtain rfl := oi h; exact rf Tryz.func75 none [.b r5, .f, .f, .row (c63 x9), .b r11, .t, .t, .t, .t, .b r17, .t, .b r20, .t, .b r23] (pc (k_names_place_Domain h6)<|pc h7<|pc h8<|pc (ob63 h10)<|pc (k_names_place_Device h12)<|pc h13<|pc h14<|pc h15<|pc h16<|pc (k_names_judge_vtep h18)<|pc h19<|pc (k_names_judge_vtep h21)<|pc h22<|pc (k_slices_Contains_int h24)<|pn)
        ·obtain rfl := oi h; exact rf Tryz.func75 none [.b r5, .f, .f, .row (c63 x9), .b r11, .t, .t, .t, .t, .b r17, .t, .b r20, .f] (pc (k_names_place_Domain h6)<|pc h7<|pc h8<|pc (ob63 h10)<|pc (k_names_place_Device h12)<|pc h13<|pc h14<|pc h15<|pc h16<|pc (k_names_judge_vtep h18)<|pc h19<|pc (k_names_judge_vtep h21)<|pc h22<|pn)
       ·obtain rfl := oi h; exact rf Tryz.func75 none [.b r5, .f, .f, .row (c63 x9), .b r11, .t, .t, .t, .t, .b r17, .f] (pc (k_names_place_Domain h6)<|pc h7<|pc h8<|pc (ob63 h10)<|pc (k_names_place_Device h12)<|pc h13<|pc h14<|pc h15<|pc h16<|pc (k_names_judge_vtep h18)<|pc h19<|pn)
      ·obtain rfl := oi h; exact rf Tryz.func75 none [.b r5, .f, .f, .row (c63 x9), .b r11, .t, .t, .t, .f] (pc (k_names_place_Domain h6)<|pc h7<|pc h8<|pc (ob63 h10)<|pc (k_names_place_Device h12)<|pc h13<|pc h14<|pc h15<|pc h16<|pn)
     ·obtain rfl := oi h; exact rf Tryz.func75 none [.b r5, .f, .f, .row (c63 x9), .b r11, .t, .t, .f] (pc (k_names_place_Domain h6)<|pc h7<|pc h8<|pc (ob63 h10)<|pc (k_names_place_Device h12)<|pc h13<|pc h14<|pc h15<|pn)
    ·obtain rfl := oi h; exact rf Tryz.func75 none [.b r5, .f, .f, .row (c63 x9), .b r11, .t, .f] (pc (k_names_place_Domain h6)<|pc h7<|pc h8<|pc (ob63 h10)<|pc (k_names_place_Device h12)<|pc h13<|pc h14<|pn)
   ·obtain rfl := oi h; exact rf Tryz.func75 none [.b r5, .f, .f, .row (c63 x9), .b r11, .f] (pc (k_names_place_Domain h6)<|pc h7<|pc h8<|pc (ob63 h10)<|pc (k_names_place_Device h12)<|pc h13<|pn)

theorem k_names_judge_peers_1 {a1 : Int} {a2 : Int} {a3 : Names_judge} {a4 : Int} {a5 : Api_Domain} {r : Bool} (h : names_judge_peers_1 a1 a2 a3 a4 a5 = some r) :
  CallsOK Tryz.prog UU 74 [.j a1, .j a2, .rp (c83 a3) 0, .rp (c3 a4) 0, .rp (c63 a5) 0] [] (.y r) [] := by
 unfold names_judge_peers_1 at h
 obtain ⟨r6, h7, h⟩ := bo h
 obtain ⟨h8, h⟩|⟨h8, h⟩ := ite_out h
 ·obtain ⟨r9, h10, h⟩ := bo h
  obtain rfl := oi h; exact rf Tryz.func74 none [.b r6, .t, .callv (.j r9)] (pc (k_names_judge_peer h7)<|pc h8<|pc (k_slices_Index_int h10)<|pn)
 ·obtain rfl := oi h; exact rf Tryz.func74 none [.b r6, .f] (pc (k_names_judge_peer h7)<|pc h8<|pn)

theorem k_names_all_int_judge_peers_1_L1 {a1 : List Int} {a2 : Names_judge} {a3 : Int} {a4 : Api_Domain} : LoopOK Tryz.prog UU 0 20 (subC (codeOf Tryz.f73) [1, 0, 1, 0, 0]) (ρ := Unit ⊕ Unit) (names_all_int_judge_peers_1_L1 a1 a2 a3 a4)
  (fun v5 : Int => ([(1, .fn (.func 74) [] [.rp (c83 a2) 0, .rp (c3 a3) 0, .rp (c63 a4) 0]), (4, .y false), (7, .sl 3 a1), (8, .j (a1.length : Int)), (9, .j v5)] : Fr DD)) (fun v5 : Int => ([] : Heap DD)) (fun r => match r with | Sum.inl _ => .ret | Sum.inr _ => .exit 0) (fun r => match r with | Sum.inl _ => [(4, .y false)] | Sum.inr _ => [(4, .y false)]) (fun r => match r with | Sum.inl _ => [] | Sum.inr _ => []) := by
 refine loop_sound3 (fun s q h => ?_) (fun r => ?_)
 ·replace h : names_all_int_judge_peers_1_L1 a1 a2 a3 a4 s = some q := h; revert h; revert s; intro v5 h
  unfold names_all_int_judge_peers_1_L1 at h
  obtain ⟨h6, h⟩|⟨h6, h⟩ := ite_out h
  ·obtain ⟨x7, h8, h⟩ := bo h
   obtain ⟨r9, h10, h⟩ := bo h
   obtain ⟨h11, h⟩|⟨h11, h⟩ := ite_out h
   ·obtain rfl := oi h; exact rl [4] [] [.t, .row (c3 x7), .b r9, .t] (pc h6<|pc (ob3 h8)<|pc (k_names_judge_peers_1 h10)<|pc h11<|pn)
   ·obtain rfl := oi h; exact rl [1, 4, 7, 8, 9] [] [.t, .row (c3 x7), .b r9, .f] (pc h6<|pc (ob3 h8)<|pc (k_names_judge_peers_1 h10)<|pc h11<|pn)
  ·obtain rfl := oi h; exact rl [4] [] [.f] (pc h6<|pn)
 ·rcases r with _ | _ <;> exact Ex.noConfusion

theorem k_names_all_int_judge_peers_1 {a1 : List Int} {a2 : Names_judge} {a3 : Int} {a4 : Api_Domain} {r : Bool} (h : names_all_int_judge_peers_1 a1 a2 a3 a4 = some r) :
  CallsOK Tryz.prog UU 73 [.sl 3 a1, .fn (.func 74) [] [.rp (c83 a2) 0, .rp (c3 a3) 0, .rp (c63 a4) 0]] [] (.y r) [] := by
 unfold names_all_int_judge_peers_1 at h
 obtain ⟨r13, h12, h⟩ := bo h
 rcases r13 with _ | _
 ·obtain rfl := oi h; exact rf Tryz.func73 none [.sum [1, 4, 7, 8, 9] [] .ret [(4, .y false)] []] (pc (k_names_all_int_judge_peers_1_L1 _ _ h12)<|pn)
 ·obtain rfl := oi h; exact rf Tryz.func73 none [.sum [1, 4, 7, 8, 9] [] (.exit 0) [(4, .y false)] []] (pc (k_names_all_int_judge_peers_1_L1 _ _ h12)<|pn)

theorem k_names_judge_peers {a1 : Names_judge} {a2 : Int} {a3 : Api_Domain} {r : Bool} (h : names_judge_peers a1 a2 a3 = some r) :
  CallsOK Tryz.prog UU 40 [.agg (c83 a1), .j a2, .agg (c63 a3)] [] (.y r) [] := by
 unfold names_judge_peers at h
 obtain ⟨r4, h5, h⟩ := bo h
 obtain rfl := oi h; exact rf Tryz.func40 none [.b r4] (pc (k_names_all_int_judge_peers_1 h5)<|pn)

theorem k_names_all_Domain_judge_peers_L1 {a1 : List Api_Domain} {a2 : Names_judge} : LoopOK Tryz.prog UU 0 20 (subC (codeOf Tryz.f38) [1, 0, 1, 0, 0]) (ρ := Unit ⊕ Unit) (names_all_Domain_judge_peers_L1 a1 a2)
  (fun v3 : Int => ([(1, .fn (.func 40) [.agg (c83 a2)] []), (4, .y false), (7, .sl 63 a1), (8, .j (a1.length : Int)), (9, .j v3)] : Fr DD)) (fun v3 : Int => ([] : Heap DD)) (fun r => match r with | Sum.inl _ => .ret | Sum.inr _ => .exit 0) (fun r => match r with | Sum.inl _ => [(4, .y false)] | Sum.inr _ => [(4, .y false)]) (fun r => match r with | Sum.inl _ => [] | Sum.inr _ => []) := by
 refine loop_sound3 (fun s q h => ?_) (fun r => ?_)
 ·replace h : names_all_Domain_judge_peers_L1 a1 a2 s = some q := h; revert h; revert s; intro v3 h
  unfold names_all_Domain_judge_peers_L1 at h
  obtain ⟨h4, h⟩|⟨h4, h⟩ := ite_out h
  ·obtain ⟨x5, h6, h⟩ := bo h
   obtain ⟨r7, h8, h⟩ := bo h
   obtain ⟨h9, h⟩|⟨h9, h⟩ := ite_out h
   ·obtain rfl := oi h; exact rl [4] [] [.t, .row (c63 x5), .b r7, .t] (pc h4<|pc (ob63 h6)<|pc (k_names_judge_peers h8)<|pc h9<|pn)
   ·obtain rfl := oi h; exact rl [1, 4, 7, 8, 9] [] [.t, .row (c63 x5), .b r7, .f] (pc h4<|pc (ob63 h6)<|pc (k_names_judge_peers h8)<|pc h9<|pn)
  ·obtain rfl := oi h; exact rl [4] [] [.f] (pc h4<|pn)
 ·rcases r with _ | _ <;> exact Ex.noConfusion

theorem k_names_all_Domain_judge_peers {a1 : List Api_Domain} {a2 : Names_judge} {r : Bool} (h : names_all_Domain_judge_peers a1 a2 = some r) :
  CallsOK Tryz.prog UU 38 [.sl 63 a1, .fn (.func 40) [.agg (c83 a2)] []] [] (.y r) [] := by
 unfold names_all_Domain_judge_peers at h
 obtain ⟨r11, h10, h⟩ := bo h
 rcases r11 with _ | _
 ·obtain rfl := oi h; exact rf Tryz.func38 none [.sum [1, 4, 7, 8, 9] [] .ret [(4, .y false)] []] (pc (k_names_all_Domain_judge_peers_L1 _ _ h10)<|pn)
 ·obtain rfl := oi h; exact rf Tryz.func38 none [.sum [1, 4, 7, 8, 9] [] (.exit 0) [(4, .y false)] []] (pc (k_names_all_Domain_judge_peers_L1 _ _ h10)<|pn)

theorem k_num_Rising_L1 {a1 : List Int} {a2 : Int} {a3 : Int} : LoopOK Tryz.prog UU 0 46 (subC (codeOf Tryz.f79) [1, 0, 1, 0, 0]) (ρ := Unit ⊕ Unit) (num_Rising_L1 a1 a2 a3)
  (fun v4 : Int => ([(0, .sl 3 a1), (1, .j a2), (2, .j a3), (6, .y false), (9, .sl 3 a1), (10, .j (a1.length : Int)), (11, .j v4)] : Fr DD)) (fun v4 : Int => ([] : Heap DD)) (fun r => match r with | Sum.inl _ => .ret | Sum.inr _ => .exit 0) (fun r => match r with | Sum.inl _ => [(6, .y false)] | Sum.inr _ => [(0, .sl 3 a1), (6, .y false)]) (fun r => match r with | Sum.inl _ => [] | Sum.inr _ => []) := by
 refine loop_sound3 (fun s q h => ?_) (fun r => ?_)
 ·replace h : num_Rising_L1 a1 a2 a3 s = some q := h; revert h; revert s; intro v4 h
  unfold num_Rising_L1 at h
  obtain ⟨h5, h⟩|⟨h5, h⟩ := ite_out h
  ·obtain ⟨x6, h7, h⟩ := bo h
   obtain ⟨h8, h⟩|⟨h8, h⟩ := ite_out h
   ·obtain rfl := oi h; exact rl [6] [] [.t, .row (c3 x6), .t] (pc h5<|pc (ob3 h7)<|pc h8<|pn)
   ·obtain ⟨h9, h⟩|⟨h9, h⟩ := ite_out h
    ·obtain rfl := oi h; exact rl [6] [] [.t, .row (c3 x6), .f, .t] (pc h5<|pc (ob3 h7)<|pc h8<|pc h9<|pn)
    ·obtain ⟨h10, h⟩|⟨h10, h⟩ := ite_out h
     ·obtain ⟨x11, h12, h⟩ := bo h
      obtain ⟨h13, h⟩|⟨h13, h⟩ := ite_out h
      ·obtain rfl := oi h; exact rl [6] [] [.t, .row (c3 x6), .f, .f, .t, .row (c3 x11), .t] (pc h5<|pc (ob3 h7)<|pc h8<|pc h9<|pc h10<|pc (ob3 h12)<|pc h13<|pn)
      ·obtain rfl := oi h; exact rl [0, 1, 2, 6, 9, 10, 11] [] [.t, .row (c3 x6), .f, .f, .t, .row (c3 x11), .f] (pc h5<|pc (ob3 h7)<|pc h8<|pc h9<|pc h10<|pc (ob3 h12)<|pc h13<|pn)
     ·obtain rfl := oi h; exact rl [0, 1, 2, 6, 9, 10, 11] [] [.t, .row (c3 x6), .f, .f, .f] (pc h5<|pc (ob3 h7)<|pc h8<|pc h9<|pc h10<|pn)
  ·obtain rfl := oi h; exact rl [0, 6] [] [.f] (pc h5<|pn)
 ·rcases r with _ | _ <;> exact Ex.noConfusion

theorem k_num_Rising {a1 : List Int} {a2 : Int} {a3 : Int} {r : Bool} (h : num_Rising a1 a2 a3 = some r) :
  CallsOK Tryz.prog UU 79 [.sl 3 a1, .j a2, .j a3] [] (.y r) [] := by
 unfold num_Rising at h
 obtain ⟨r15, h14, h⟩ := bo h
 rcases r15 with _ | _
 ·obtain rfl := oi h; exact rf Tryz.func79 none [.sum [0, 1, 2, 6, 9, 10, 11] [] .ret [(6, .y false)] []] (pc (k_num_Rising_L1 _ _ h14)<|pn)
 ·obtain ⟨h16, h⟩|⟨h16, h⟩ := ite_out h
  ·obtain rfl := oi h; exact rf Tryz.func79 none [.sum [0, 1, 2, 6, 9, 10, 11] [] (.exit 0) [(0, .sl 3 a1), (6, .y false)] [], .t] (pc (k_num_Rising_L1 _ _ h14)<|pc h16<|pn)
  ·obtain rfl := oi h; exact rf Tryz.func79 none [.sum [0, 1, 2, 6, 9, 10, 11] [] (.exit 0) [(0, .sl 3 a1), (6, .y false)] [], .f] (pc (k_num_Rising_L1 _ _ h14)<|pc h16<|pn)

theorem k_names_rising {a1 : List Int} {a2 : Int} {r : Bool} (h : names_rising a1 a2 = some r) :
  CallsOK Tryz.prog UU 52 [.sl 3 a1, .j a2] [] (.y r) [] := by
 unfold names_rising at h
 obtain ⟨h3, h⟩|⟨h3, h⟩ := ite_out h
 ·obtain rfl := oi h; exact rf Tryz.func52 none [.t] (pc h3<|pn)
 ·obtain ⟨r4, h5, h⟩ := bo h
  obtain rfl := oi h; exact rf Tryz.func52 none [.f, .b r4] (pc h3<|pc (k_num_Rising h5)<|pn)

theorem k_names_place_Link {a1 : List Api_Link} {a2 : Int} {r : Bool} (h : names_place_Link a1 a2 = some r) :
  CallsOK Tryz.prog UU 76 [.sl 49 a1, .j a2] [] (.y r) [] := by
 unfold names_place_Link at h
 obtain ⟨h3, h⟩|⟨h3, h⟩ := ite_out h
 ·obtain rfl := oi h; exact rf Tryz.func76 none [.t] (pc h3<|pn)
 ·obtain rfl := oi h; exact rf Tryz.func76 none [.f] (pc h3<|pn)

theorem k_names_judge_port_J1 {a1 : Names_judge} {a2 : Int} {a3 : Api_Port} {r : Unit ⊕ Unit} (h : names_judge_port_J1 a1 a2 a3 = some r) :
  ExecOK Tryz.prog UU 0 111 (subC (codeOf Tryz.f42) [1, 0]) [(1, .j a2), (3, .o 0), (5, .o 1), (6, .y false)] [.box 83 (c83 a1) false, .box 52 (c52 a3) false] ((fun r => match r with | Sum.inl _ => .ret | Sum.inr _ => .nor) r) ((fun r => match r with | Sum.inl _ => [(6, .y false)] | Sum.inr _ => [(1, .j a2), (3, .o 0), (5, .o 1), (6, .y false)]) r) ((fun r => match r with | Sum.inl _ => [] | Sum.inr _ => [.box 83 (c83 a1) false, .box 52 (c52 a3) false]) r) := by
 unfold names_judge_port_J1 at h
 obtain ⟨r4, h5, h⟩ := bo h
 obtain ⟨h6, h⟩|⟨h6, h⟩ := ite_out h
 ·obtain rfl := oi h; exact rl [6] [] [.b r4, .t] (pc (k_names_place_Device h5)<|pc h6<|pn)
 ·obtain ⟨h7, h⟩|⟨h7, h⟩ := ite_out h
  ·obtain rfl := oi h; exact rl [6] [] [.b r4, .f, .t] (pc (k_names_place_Device h5)<|pc h6<|pc h7<|pn)
  ·obtain ⟨h8, h⟩|⟨h8, h⟩ := ite_out h
   ·obtain rfl := oi h; exact rl [6] [] [.b r4, .f, .f, .t] (pc (k_names_place_Device h5)<|pc h6<|pc h7<|pc h8<|pn)
   ·obtain ⟨r9, h10, h⟩ := bo h
    obtain ⟨h11, h⟩|⟨h11, h⟩ := ite_out h
    ·obtain rfl := oi h; exact rl [6] [] [.b r4, .f, .f, .f, .b r9, .t] (pc (k_names_place_Device h5)<|pc h6<|pc h7<|pc h8<|pc (k_names_rising h10)<|pc h11<|pn)
    ·obtain ⟨r12, h13, h⟩ := bo h
     obtain ⟨h14, h⟩|⟨h14, h⟩ := ite_out h
     ·obtain rfl := oi h; exact rl [6] [] [.b r4, .f, .f, .f, .b r9, .f, .b r12, .t] (pc (k_names_place_Device h5)<|pc h6<|pc h7<|pc h8<|pc (k_names_rising h10)<|pc h11<|pc (k_slices_Contains_int h13)<|pc h14<|pn)
     ·obtain ⟨h15, h⟩|⟨h15, h⟩ := ite_out h
      ·obtain ⟨h16, h⟩|⟨h16, h⟩ := ite_out h
       ·obtain rfl := oi h; exact rl [6] [] [.b r4, .f, .f, .f, .b r9, .f, .b r12, .f, .t, .t] (pc (k_names_place_Device h5)<|pc h6<|pc h7<|pc h8<|pc (k_names_rising h10)<|pc h11<|pc (k_slices_Contains_int h13)<|pc h14<|pc h15<|pc h16<|pn)
       ·obtain rfl := oi h; exact rl [1, 3, 5, 6] [0, 1] [.b r4, .f, .f, .f, .b r9, .f, .b r12, .f, .t, .f] (pc (k_names_place_Device h5)<|pc h6<|pc h7<|pc h8<|pc (k_names_rising h10)<|pc h11<|pc (k_slices_Contains_int h13)<|pc h14<|pc h15<|pc h16<|pn)
      ·obtain rfl := oi h; exact rl [1, 3, 5, 6] [0, 1] [.b r4, .f, .f, .f, .b r9, .f, .b r12, .f, .f] (pc (k_names_place_Device h5)<|pc h6<|pc h7<|pc h8<|pc (k_names_rising h10)<|pc h11<|pc (k_slices_Contains_int h13)<|pc h14<|pc h15<|pn)

theorem k_names_judge_port_L2 {a1 : Names_judge} {a2 : Int} {a3 : Api_Port} : LoopOK Tryz.prog UU 0 111 (subC (codeOf Tryz.f42) [1, 1, 0, 1, 0, 0]) (ρ := Unit ⊕ Unit) (names_judge_port_L2 a1 a2 a3)
  (fun v19 : Int => ([(1, .j a2), (3, .o 0), (5, .o 1), (6, .y false), (51, .sl 3 a3.tagged), (52, .j (a3.tagged.length : Int)), (53, .j v19)] : Fr DD)) (fun v19 : Int => ([.box 83 (c83 a1) false, .box 52 (c52 a3) false] : Heap DD)) (fun r => match r with | Sum.inl _ => .ret | Sum.inr _ => .exit 0) (fun r => match r with | Sum.inl _ => [(6, .y false)] | Sum.inr _ => [(1, .j a2), (3, .o 0), (5, .o 1), (6, .y false)]) (fun r => match r with | Sum.inl _ => [] | Sum.inr _ => [.box 83 (c83 a1) false, .box 52 (c52 a3) false]) := by
 refine loop_sound3 (fun s q h => ?_) (fun r => ?_)
 ·replace h : names_judge_port_L2 a1 a2 a3 s = some q := h; revert h; revert s; intro v19 h
  unfold names_judge_port_L2 at h
  obtain ⟨h20, h⟩|⟨h20, h⟩ := ite_out h
  ·obtain ⟨x21, h22, h⟩ := bo h
   obtain ⟨r23, h24, h⟩ := bo h
   obtain ⟨h25, h⟩|⟨h25, h⟩ := ite_out h
   ·obtain rfl := oi h; exact rl [6] [] [.t, .row (c3 x21), .callv (.j r23), .t] (pc h20<|pc (ob3 h22)<|pc (k_names_judge_domain h24)<|pc h25<|pn)
   ·obtain rfl := oi h; exact rl [1, 3, 5, 6, 51, 52, 53] [0, 1] [.t, .row (c3 x21), .callv (.j r23), .f] (pc h20<|pc (ob3 h22)<|pc (k_names_judge_domain h24)<|pc h25<|pn)
  ·obtain rfl := oi h; exact rl [1, 3, 5, 6] [0, 1] [.f] (pc h20<|pn)
 ·rcases r with _ | _ <;> exact Ex.noConfusion

theorem k_names_judge_port_J3 {a1 : Names_judge} {a2 : Int} {a3 : Api_Port} {r : Unit ⊕ Unit} (h : names_judge_port_J3 a1 a2 a3 = some r) :
  ExecOK Tryz.prog UU 0 111 (subC (codeOf Tryz.f42) [1, 1, 1, 0]) [(1, .j a2), (3, .o 0), (5, .o 1), (6, .y false)] [.box 83 (c83 a1) false, .box 52 (c52 a3) false] ((fun r => match r with | Sum.inl _ => .ret | Sum.inr _ => .nor) r) ((fun r => match r with | Sum.inl _ => [(6, .y false)] | Sum.inr _ => [(1, .j a2), (3, .o 0), (5, .o 1), (6, .y false)]) r) ((fun r => match r with | Sum.inl _ => [] | Sum.inr _ => [.box 83 (c83 a1) false, .box 52 (c52 a3) false]) r) := by
 unfold names_judge_port_J3 at h
 obtain ⟨h28, h⟩|⟨h28, h⟩ := ite_out h
 ·obtain ⟨r29, h30, h⟩ := bo h
  obtain ⟨h31, h⟩|⟨h31, h⟩ := ite_out h
  ·obtain rfl := oi h; exact rl [6] [] [.t, .callv (.j r29), .t] (pc h28<|pc (k_names_judge_domain h30)<|pc h31<|pn)
  ·obtain rfl := oi h; exact rl [1, 3, 5, 6] [0, 1] [.t, .callv (.j r29), .f] (pc h28<|pc (k_names_judge_domain h30)<|pc h31<|pn)
 ·obtain rfl := oi h; exact rl [1, 3, 5, 6] [0, 1] [.f] (pc h28<|pn)

theorem k_names_judge_port {a1 : Names_judge} {a2 : Int} {a3 : Api_Port} {r : Bool} (h : names_judge_port a1 a2 a3 = some r) :
  CallsOK Tryz.prog UU 42 [.agg (c83 a1), .j a2, .agg (c52 a3)] [] (.y r) [] := by
 unfold names_judge_port at h
 obtain ⟨r18, h17, h⟩ := bo h
 rcases r18 with _ | _
 ·obtain rfl := oi h; exact rf Tryz.func42 none [.skp, .cut [1, 3, 5, 6] [0, 1] .ret [(6, .y false)] []] (pc (k_names_judge_port_J1 h17)<|pn)
 ·obtain ⟨r27, h26, h⟩ := bo h
  rcases r27 with _ | _
  ·obtain rfl := oi h; exact rf Tryz.func42 none [.skp, .cut [1, 3, 5, 6] [0, 1] .nor [(1, .j a2), (3, .o 0), (5, .o 1), (6, .y false)] [.box 83 (c83 a1) false, .box 52 (c52 a3) false], .sum [1, 3, 5, 6, 51, 52, 53] [0, 1] .ret [(6, .y false)] []] (pc (k_names_judge_port_J1 h17)<|pc (k_names_judge_port_L2 _ _ h26)<|pn)
  ·obtain ⟨r33, h32, h⟩ := bo h
   rcases r33 with _ | _
   ·obtain rfl := oi h; exact rf Tryz.func42 none [.skp, .cut [1, 3, 5, 6] [0, 1] .nor [(1, .j a2), (3, .o 0), (5, .o 1), (6, .y false)] [.box 83 (c83 a1) false, .box 52 (c52 a3) false], .sum [1, 3, 5, 6, 51, 52, 53] [0, 1] (.exit 0) [(1, .j a2), (3, .o 0), (5, .o 1), (6, .y false)] [.box 83 (c83 a1) false, .box 52 (c52 a3) false], .cut [1, 3, 5, 6] [0, 1] .ret [(6, .y false)] []] (pc (k_names_judge_port_J1 h17)<|pc (k_names_judge_port_L2 _ _ h26)<|pc (k_names_judge_port_J3 h32)<|pn)
   ·obtain ⟨h34, h⟩|⟨h34, h⟩ := ite_out h
    ·obtain rfl := oi h; exact rf Tryz.func42 none [.skp, .cut [1, 3, 5, 6] [0, 1] .nor [(1, .j a2), (3, .o 0), (5, .o 1), (6, .y false)] [.box 83 (c83 a1) false, .box 52 (c52 a3) false], .sum [1, 3, 5, 6, 51, 52, 53] [0, 1] (.exit 0) [(1, .j a2), (3, .o 0), (5, .o 1), (6, .y false)] [.box 83 (c83 a1) false, .box 52 (c52 a3) false], .cut [1, 3, 5, 6] [0, 1] .nor [(1, .j a2), (3, .o 0), (5, .o 1), (6, .y false)] [.box 83 (c83 a1) false, .box 52 (c52 a3) false], .t] (pc (k_names_judge_port_J1 h17)<|pc (k_names_judge_port_L2 _ _ h26)<|pc (k_names_judge_port_J3 h32)<|pc h34<|pn)
    ·obtain ⟨r35, h36, h⟩ := bo h
     obtain ⟨h37, h⟩|⟨h37, h⟩ := ite_out h
     ·obtain ⟨x38, h39, h⟩ := bo h
      obtain ⟨h40, h⟩|⟨h40, h⟩ := ite_out h
      ·obtain rfl := oi h; exact rf Tryz.func42 none [.skp, .cut [1, 3, 5, 6] [0, 1] .nor [(1, .j a2), (3, .o 0), (5, .o 1), (6, .y false)] [.box 83 (c83 a1) false, .box 52 (c52 a3) false], .sum [1, 3, 5, 6, 51, 52, 53] [0, 1] (.exit 0) [(1, .j a2), (3, .o 0), (5, .o 1), (6, .y false)] [.box 83 (c83 a1) false, .box 52 (c52 a3) false], .cut [1, 3, 5, 6] [0, 1] .nor [(1, .j a2), (3, .o 0), (5, .o 1), (6, .y false)] [.box 83 (c83 a1) false, .box 52 (c52 a3) false], .f, .b r35, .t, .row (c49 x38), .t] (pc (k_names_judge_port_J1 h17)<|pc (k_names_judge_port_L2 _ _ h26)<|pc (k_names_judge_port_J3 h32)<|pc h34<|pc (k_names_place_Link h36)<|pc h37<|pc (ob49 h39)<|pc h40<|pn)
      ·obtain ⟨x41, h42, h⟩ := bo h
       obtain rfl := oi h; exact rf Tryz.func42 none [.skp, .cut [1, 3, 5, 6] [0, 1] .nor [(1, .j a2), (3, .o 0), (5, .o 1), (6, .y false)] [.box 83 (c83 a1) false, .box 52 (c52 a3) false], .sum [1, 3, 5, 6, 51, 52, 53] [0, 1] (.exit 0) [(1, .j a2), (3, .o 0), (5, .o 1), (6, .y false)] [.box 83 (c83 a1) false, .box 52 (c52 a3) false], .cut [1, 3, 5, 6] [0, 1] .nor [(1, .j a2), (3, .o 0), (5, .o 1), (6, .y false)] [.box 83 (c83 a1) false, .box 52 (c52 a3) false], .f, .b r35, .t, .row (c49 x38), .f, .row (c49 x41)] (pc (k_names_judge_port_J1 h17)<|pc (k_names_judge_port_L2 _ _ h26)<|pc (k_names_judge_port_J3 h32)<|pc h34<|pc (k_names_place_Link h36)<|pc h37<|pc (ob49 h39)<|pc h40<|pc (ob49 h42)<|pn)
     ·obtain rfl := oi h; exact rf Tryz.func42 none [.skp, .cut [1, 3, 5, 6] [0, 1] .nor [(1, .j a2), (3, .o 0), (5, .o 1), (6, .y false)] [.box 83 (c83 a1) false, .box 52 (c52 a3) false], .sum [1, 3, 5, 6, 51, 52, 53] [0, 1] (.exit 0) [(1, .j a2), (3, .o 0), (5, .o 1), (6, .y false)] [.box 83 (c83 a1) false, .box 52 (c52 a3) false], .cut [1, 3, 5, 6] [0, 1] .nor [(1, .j a2), (3, .o 0), (5, .o 1), (6, .y false)] [.box 83 (c83 a1) false, .box 52 (c52 a3) false], .f, .b r35, .f] (pc (k_names_judge_port_J1 h17)<|pc (k_names_judge_port_L2 _ _ h26)<|pc (k_names_judge_port_J3 h32)<|pc h34<|pc (k_names_place_Link h36)<|pc h37<|pn)

theorem k_names_all_Port_judge_port_L1 {a1 : List Api_Port} {a2 : Names_judge} : LoopOK Tryz.prog UU 0 20 (subC (codeOf Tryz.f41) [1, 0, 1, 0, 0]) (ρ := Unit ⊕ Unit) (names_all_Port_judge_port_L1 a1 a2)
  (fun v3 : Int => ([(1, .fn (.func 42) [.agg (c83 a2)] []), (4, .y false), (7, .sl 52 a1), (8, .j (a1.length : Int)), (9, .j v3)] : Fr DD)) (fun v3 : Int => ([] : Heap DD)) (fun r => match r with | Sum.inl _ => .ret | Sum.inr _ => .exit 0) (fun r => match r with | Sum.inl _ => [(4, .y false)] | Sum.inr _ => [(4, .y false)]) (fun r => match r with | Sum.inl _ => [] | Sum.inr _ => []) := by
 refine loop_sound3 (fun s q h => ?_) (fun r => ?_)
 ·replace h : names_all_Port_judge_port_L1 a1 a2 s = some q := h; revert h; revert s; intro v3 h
  unfold names_all_Port_judge_port_L1 at h
  obtain ⟨h4, h⟩|⟨h4, h⟩ := ite_out h
  ·obtain ⟨x5, h6, h⟩ := bo h
   obtain ⟨r7, h8, h⟩ := bo h
   obtain ⟨h9, h⟩|⟨h9, h⟩ := ite_out h
   ·obtain rfl := oi h; exact rl [4] [] [.t, .row (c52 x5), .b r7, .t] (pc h4<|pc (ob52 h6)<|pc (k_names_judge_port h8)<|pc h9<|pn)
   ·obtain rfl := oi h; exact rl [1, 4, 7, 8, 9] [] [.t, .row (c52 x5), .b r7, .f] (pc h4<|pc (ob52 h6)<|pc (k_names_judge_port h8)<|pc h9<|pn)
  ·obtain rfl := oi h; exact rl [4] [] [.f] (pc h4<|pn)
 ·rcases r with _ | _ <;> exact Ex.noConfusion

theorem k_names_all_Port_judge_port {a1 : List Api_Port} {a2 : Names_judge} {r : Bool} (h : names_all_Port_judge_port a1 a2 = some r) :
  CallsOK Tryz.prog UU 41 [.sl 52 a1, .fn (.func 42) [.agg (c83 a2)] []] [] (.y r) [] := by
 unfold names_all_Port_judge_port at h
 obtain ⟨r11, h10, h⟩ := bo h
 rcases r11 with _ | _
 ·obtain rfl := oi h; exact rf Tryz.func41 none [.sum [1, 4, 7, 8, 9] [] .ret [(4, .y false)] []] (pc (k_names_all_Port_judge_port_L1 _ _ h10)<|pn)
 ·obtain rfl := oi h; exact rf Tryz.func41 none [.sum [1, 4, 7, 8, 9] [] (.exit 0) [(4, .y false)] []] (pc (k_names_all_Port_judge_port_L1 _ _ h10)<|pn)

theorem k_names_place_Port {a1 : List Api_Port} {a2 : Int} {r : Bool} (h : names_place_Port a1 a2 = some r) :
  CallsOK Tryz.prog UU 77 [.sl 52 a1, .j a2] [] (.y r) [] := by
 unfold names_place_Port at h
 obtain ⟨h3, h⟩|⟨h3, h⟩ := ite_out h
 ·obtain rfl := oi h; exact rf Tryz.func77 none [.t] (pc h3<|pn)
 ·obtain rfl := oi h; exact rf Tryz.func77 none [.f] (pc h3<|pn)

theorem k_names_judge_link {a1 : Names_judge} {a2 : Int} {a3 : Api_Link} {r : Bool} (h : names_judge_link a1 a2 a3 = some r) :
  CallsOK Tryz.prog UU 44 [.agg (c83 a1), .j a2, .agg (c49 a3)] [] (.y r) [] := by
 unfold names_judge_link at h
 obtain ⟨r4, h5, h⟩ := bo h
 obtain ⟨h6, h⟩|⟨h6, h⟩ := ite_out h
 ·obtain rfl := oi h; exact rf Tryz.func44 none [.b r4, .t] (pc (k_names_place_Port h5)<|pc h6<|pn)
 ·obtain ⟨r7, h8, h⟩ := bo h
  obtain ⟨h9, h⟩|⟨h9, h⟩ := ite_out h
  ·obtain rfl := oi h; exact rf Tryz.func44 none [.b r4, .f, .b r7, .t] (pc (k_names_place_Port h5)<|pc h6<|pc (k_names_place_Port h8)<|pc h9<|pn)
  ·obtain ⟨x10, h11, h⟩ := bo h
   obtain ⟨x12, h13, h⟩ := bo h
   obtain ⟨h14, h⟩|⟨h14, h⟩ := ite_out h
   ·obtain ⟨h15, h⟩|⟨h15, h⟩ := ite_out h
    ·obtain rfl := oi h; exact rf Tryz.func44 none [.b r4, .f, .b r7, .f, .row (c52 x10), .row (c52 x12), .t, .t] (pc (k_names_place_Port h5)<|pc h6<|pc (k_names_place_Port h8)<|pc h9<|pc (ob52 h11)<|pc (ob52 h13)<|pc h14<|pc h15<|pn)
    ·obtain rfl := oi h; exact rf Tryz.func44 none [.b r4, .f, .b r7, .f, .row (c52 x10), .row (c52 x12), .t, .f] (pc (k_names_place_Port h5)<|pc h6<|pc (k_names_place_Port h8)<|pc h9<|pc (ob52 h11)<|pc (ob52 h13)<|pc h14<|pc h15<|pn)
   ·obtain rfl := oi h; exact rf Tryz.func44 none [.b r4, .f, .b r7, .f, .row (c52 x10), .row (c52 x12), .f] (pc (k_names_place_Port h5)<|pc h6<|pc (k_names_place_Port h8)<|pc h9<|pc (ob52 h11)<|pc (ob52 h13)<|pc h14<|pn)

theorem k_names_all_Link_judge_link_L1 {a1 : List Api_Link} {a2 : Names_judge} : LoopOK Tryz.prog UU 0 20 (subC (codeOf Tryz.f43) [1, 0, 1, 0, 0]) (ρ := Unit ⊕ Unit) (names_all_Link_judge_link_L1 a1 a2)
  (fun v3 : Int => ([(1, .fn (.func 44) [.agg (c83 a2)] []), (4, .y false), (7, .sl 49 a1), (8, .j (a1.length : Int)), (9, .j v3)] : Fr DD)) (fun v3 : Int => ([] : Heap DD)) (fun r => match r with | Sum.inl _ => .ret | Sum.inr _ => .exit 0) (fun r => match r with | Sum.inl _ => [(4, .y false)] | Sum.inr _ => [(4, .y false)]) (fun r => match r with | Sum.inl _ => [] | Sum.inr _ => []) := by
 refine loop_sound3 (fun s q h => ?_) (fun r => ?_)
 ·replace h : names_all_Link_judge_link_L1 a1 a2 s = some q := h; revert h; revert s; intro v3 h
  unfold names_all_Link_judge_link_L1 at h
  obtain ⟨h4, h⟩|⟨h4, h⟩ := ite_out h
  ·obtain ⟨x5, h6, h⟩ := bo h
   obtain ⟨r7, h8, h⟩ := bo h
   obtain ⟨h9, h⟩|⟨h9, h⟩ := ite_out h
   ·obtain rfl := oi h; exact rl [4] [] [.t, .row (c49 x5), .b r7, .t] (pc h4<|pc (ob49 h6)<|pc (k_names_judge_link h8)<|pc h9<|pn)
   ·obtain rfl := oi h; exact rl [1, 4, 7, 8, 9] [] [.t, .row (c49 x5), .b r7, .f] (pc h4<|pc (ob49 h6)<|pc (k_names_judge_link h8)<|pc h9<|pn)
  ·obtain rfl := oi h; exact rl [4] [] [.f] (pc h4<|pn)
 ·rcases r with _ | _ <;> exact Ex.noConfusion

theorem k_names_all_Link_judge_link {a1 : List Api_Link} {a2 : Names_judge} {r : Bool} (h : names_all_Link_judge_link a1 a2 = some r) :
  CallsOK Tryz.prog UU 43 [.sl 49 a1, .fn (.func 44) [.agg (c83 a2)] []] [] (.y r) [] := by
 unfold names_all_Link_judge_link at h
 obtain ⟨r11, h10, h⟩ := bo h
 rcases r11 with _ | _
 ·obtain rfl := oi h; exact rf Tryz.func43 none [.sum [1, 4, 7, 8, 9] [] .ret [(4, .y false)] []] (pc (k_names_all_Link_judge_link_L1 _ _ h10)<|pn)
 ·obtain rfl := oi h; exact rf Tryz.func43 none [.sum [1, 4, 7, 8, 9] [] (.exit 0) [(4, .y false)] []] (pc (k_names_all_Link_judge_link_L1 _ _ h10)<|pn)

theorem k_names_Member {a1 : Api_Port} {a2 : Int} {r : Bool} (h : names_Member a1 a2 = some r) :
  CallsOK Tryz.prog UU 35 [.agg (c52 a1), .j a2] [] (.y r) [] := by
 unfold names_Member at h
 obtain ⟨h3, h⟩|⟨h3, h⟩ := ite_out h
 ·obtain ⟨h4, h⟩|⟨h4, h⟩ := ite_out h
  ·obtain rfl := oi h; exact rf Tryz.func35 none [.t, .t] (pc h3<|pc h4<|pn)
  ·obtain ⟨r5, h6, h⟩ := bo h
   obtain rfl := oi h; exact rf Tryz.func35 none [.t, .f, .b r5] (pc h3<|pc h4<|pc (k_slices_Contains_int h6)<|pn)
 ·obtain rfl := oi h; exact rf Tryz.func35 none [.f] (pc h3<|pn)

theorem k_names_judge_static {a1 : Names_judge} {a2 : Int} {a3 : Api_Static} {r : Bool} (h : names_judge_static a1 a2 a3 = some r) :
  CallsOK Tryz.prog UU 46 [.agg (c83 a1), .j a2, .agg (c92 a3)] [] (.y r) [] := by
 unfold names_judge_static at h
 obtain ⟨r4, h5, h⟩ := bo h
 obtain ⟨h6, h⟩|⟨h6, h⟩ := ite_out h
 ·obtain rfl := oi h; exact rf Tryz.func46 none [.b r4, .t] (pc (k_names_place_Domain h5)<|pc h6<|pn)
 ·obtain ⟨r7, h8, h⟩ := bo h
  obtain ⟨h9, h⟩|⟨h9, h⟩ := ite_out h
  ·obtain rfl := oi h; exact rf Tryz.func46 none [.b r4, .f, .b r7, .t] (pc (k_names_place_Domain h5)<|pc h6<|pc (k_names_place_Port h8)<|pc h9<|pn)
  ·obtain ⟨x10, h11, h⟩ := bo h
   obtain ⟨x12, h13, h⟩ := bo h
   obtain ⟨h14, h⟩|⟨h14, h⟩ := ite_out h
   ·obtain ⟨r15, h16, h⟩ := bo h
    obtain rfl := oi h; exact rf Tryz.func46 none [.b r4, .f, .b r7, .f, .row (c52 x10), .row (c63 x12), .t, .b r15] (pc (k_names_place_Domain h5)<|pc h6<|pc (k_names_place_Port h8)<|pc h9<|pc (ob52 h11)<|pc (ob63 h13)<|pc h14<|pc (k_names_Member h16)<|pn)
   ·obtain rfl := oi h; exact rf Tryz.func46 none [.b r4, .f, .b r7, .f, .row (c52 x10), .row (c63 x12), .f] (pc (k_names_place_Domain h5)<|pc h6<|pc (k_names_place_Port h8)<|pc h9<|pc (ob52 h11)<|pc (ob63 h13)<|pc h14<|pn)

theorem k_names_all_Static_judge_static_L1 {a1 : List Api_Static} {a2 : Names_judge} : LoopOK Tryz.prog UU 0 20 (subC (codeOf Tryz.f45) [1, 0, 1, 0, 0]) (ρ := Unit ⊕ Unit) (names_all_Static_judge_static_L1 a1 a2)
  (fun v3 : Int => ([(1, .fn (.func 46) [.agg (c83 a2)] []), (4, .y false), (7, .sl 92 a1), (8, .j (a1.length : Int)), (9, .j v3)] : Fr DD)) (fun v3 : Int => ([] : Heap DD)) (fun r => match r with | Sum.inl _ => .ret | Sum.inr _ => .exit 0) (fun r => match r with | Sum.inl _ => [(4, .y false)] | Sum.inr _ => [(4, .y false)]) (fun r => match r with | Sum.inl _ => [] | Sum.inr _ => []) := by
 refine loop_sound3 (fun s q h => ?_) (fun r => ?_)
 ·replace h : names_all_Static_judge_static_L1 a1 a2 s = some q := h; revert h; revert s; intro v3 h
  unfold names_all_Static_judge_static_L1 at h
  obtain ⟨h4, h⟩|⟨h4, h⟩ := ite_out h
  ·obtain ⟨x5, h6, h⟩ := bo h
   obtain ⟨r7, h8, h⟩ := bo h
   obtain ⟨h9, h⟩|⟨h9, h⟩ := ite_out h
   ·obtain rfl := oi h; exact rl [4] [] [.t, .row (c92 x5), .b r7, .t] (pc h4<|pc (ob92 h6)<|pc (k_names_judge_static h8)<|pc h9<|pn)
   ·obtain rfl := oi h; exact rl [1, 4, 7, 8, 9] [] [.t, .row (c92 x5), .b r7, .f] (pc h4<|pc (ob92 h6)<|pc (k_names_judge_static h8)<|pc h9<|pn)
  ·obtain rfl := oi h; exact rl [4] [] [.f] (pc h4<|pn)
 ·rcases r with _ | _ <;> exact Ex.noConfusion

theorem k_names_all_Static_judge_static {a1 : List Api_Static} {a2 : Names_judge} {r : Bool} (h : names_all_Static_judge_static a1 a2 = some r) :
  CallsOK Tryz.prog UU 45 [.sl 92 a1, .fn (.func 46) [.agg (c83 a2)] []] [] (.y r) [] := by
 unfold names_all_Static_judge_static at h
 obtain ⟨r11, h10, h⟩ := bo h
 rcases r11 with _ | _
 ·obtain rfl := oi h; exact rf Tryz.func45 none [.sum [1, 4, 7, 8, 9] [] .ret [(4, .y false)] []] (pc (k_names_all_Static_judge_static_L1 _ _ h10)<|pn)
 ·obtain rfl := oi h; exact rf Tryz.func45 none [.sum [1, 4, 7, 8, 9] [] (.exit 0) [(4, .y false)] []] (pc (k_names_all_Static_judge_static_L1 _ _ h10)<|pn)

theorem k_names_Right_1 {a1 : Int} {a2 : Api_Flood} {a3 : Api_Net} {r : Bool} (h : names_Right_1 a1 a2 a3 = some r) :
  CallsOK Tryz.prog UU 48 [.j a1, .agg (c76 a2), .rp (c31 a3) 0] [] (.y r) [] := by
 unfold names_Right_1 at h
 obtain ⟨r4, h5, h⟩ := bo h
 obtain ⟨h6, h⟩|⟨h6, h⟩ := ite_out h
 ·obtain rfl := oi h; exact rf Tryz.func48 none [.b r4, .t] (pc (k_names_place_Device h5)<|pc h6<|pn)
 ·obtain rfl := oi h; exact rf Tryz.func48 none [.b r4, .f] (pc (k_names_place_Device h5)<|pc h6<|pn)

theorem k_names_all_Flood_Right_1_L1 {a1 : List Api_Flood} {a2 : Api_Net} : LoopOK Tryz.prog UU 0 20 (subC (codeOf Tryz.f47) [1, 0, 1, 0, 0]) (ρ := Unit ⊕ Unit) (names_all_Flood_Right_1_L1 a1 a2)
  (fun v3 : Int => ([(1, .fn (.func 48) [] [.rp (c31 a2) 0]), (4, .y false), (7, .sl 76 a1), (8, .j (a1.length : Int)), (9, .j v3)] : Fr DD)) (fun v3 : Int => ([] : Heap DD)) (fun r => match r with | Sum.inl _ => .ret | Sum.inr _ => .exit 0) (fun r => match r with | Sum.inl _ => [(4, .y false)] | Sum.inr _ => [(4, .y false)]) (fun r => match r with | Sum.inl _ => [] | Sum.inr _ => []) := by
 refine loop_sound3 (fun s q h => ?_) (fun r => ?_)
 ·replace h : names_all_Flood_Right_1_L1 a1 a2 s = some q := h; revert h; revert s; intro v3 h
  unfold names_all_Flood_Right_1_L1 at h
  obtain ⟨h4, h⟩|⟨h4, h⟩ := ite_out h
  ·obtain ⟨x5, h6, h⟩ := bo h
   obtain ⟨r7, h8, h⟩ := bo h
   obtain ⟨h9, h⟩|⟨h9, h⟩ := ite_out h
   ·obtain rfl := oi h; exact rl [4] [] [.t, .row (c76 x5), .b r7, .t] (pc h4<|pc (ob76 h6)<|pc (k_names_Right_1 h8)<|pc h9<|pn)
   ·obtain rfl := oi h; exact rl [1, 4, 7, 8, 9] [] [.t, .row (c76 x5), .b r7, .f] (pc h4<|pc (ob76 h6)<|pc (k_names_Right_1 h8)<|pc h9<|pn)
  ·obtain rfl := oi h; exact rl [4] [] [.f] (pc h4<|pn)
 ·rcases r with _ | _ <;> exact Ex.noConfusion

theorem k_names_all_Flood_Right_1 {a1 : List Api_Flood} {a2 : Api_Net} {r : Bool} (h : names_all_Flood_Right_1 a1 a2 = some r) :
  CallsOK Tryz.prog UU 47 [.sl 76 a1, .fn (.func 48) [] [.rp (c31 a2) 0]] [] (.y r) [] := by
 unfold names_all_Flood_Right_1 at h
 obtain ⟨r11, h10, h⟩ := bo h
 rcases r11 with _ | _
 ·obtain rfl := oi h; exact rf Tryz.func47 none [.sum [1, 4, 7, 8, 9] [] .ret [(4, .y false)] []] (pc (k_names_all_Flood_Right_1_L1 _ _ h10)<|pn)
 ·obtain rfl := oi h; exact rf Tryz.func47 none [.sum [1, 4, 7, 8, 9] [] (.exit 0) [(4, .y false)] []] (pc (k_names_all_Flood_Right_1_L1 _ _ h10)<|pn)

theorem k_names_Right_2 {a1 : Int} {a2 : Api_Vrf} {a3 : Api_Net} {r : Bool} (h : names_Right_2 a1 a2 a3 = some r) :
  CallsOK Tryz.prog UU 51 [.j a1, .agg (c78 a2), .rp (c31 a3) 0] [] (.y r) [] := by
 unfold names_Right_2 at h
 obtain ⟨r4, h5, h⟩ := bo h
 obtain ⟨h6, h⟩|⟨h6, h⟩ := ite_out h
 ·obtain ⟨r7, h8, h⟩ := bo h
  obtain ⟨h9, h⟩|⟨h9, h⟩ := ite_out h
  ·obtain ⟨r10, h11, h⟩ := bo h
   obtain rfl := oi h; exact rf Tryz.func51 none [.b r4, .t, .b r7, .t, .b r10] (pc (k_names_place_Device h5)<|pc h6<|pc (k_names_rising h8)<|pc h9<|pc (k_names_rising h11)<|pn)
  ·obtain rfl := oi h; exact rf Tryz.func51 none [.b r4, .t, .b r7, .f] (pc (k_names_place_Device h5)<|pc h6<|pc (k_names_rising h8)<|pc h9<|pn)
 ·obtain rfl := oi h; exact rf Tryz.func51 none [.b r4, .f] (pc (k_names_place_Device h5)<|pc h6<|pn)

theorem k_names_all_Vrf_Right_2_L1 {a1 : List Api_Vrf} {a2 : Api_Net} : LoopOK Tryz.prog UU 0 20 (subC (codeOf Tryz.f50) [1, 0, 1, 0, 0]) (ρ := Unit ⊕ Unit) (names_all_Vrf_Right_2_L1 a1 a2)
  (fun v3 : Int => ([(1, .fn (.func 51) [] [.rp (c31 a2) 0]), (4, .y false), (7, .sl 78 a1), (8, .j (a1.length : Int)), (9, .j v3)] : Fr DD)) (fun v3 : Int => ([] : Heap DD)) (fun r => match r with | Sum.inl _ => .ret | Sum.inr _ => .exit 0) (fun r => match r with | Sum.inl _ => [(4, .y false)] | Sum.inr _ => [(4, .y false)]) (fun r => match r with | Sum.inl _ => [] | Sum.inr _ => []) := by
 refine loop_sound3 (fun s q h => ?_) (fun r => ?_)
 ·replace h : names_all_Vrf_Right_2_L1 a1 a2 s = some q := h; revert h; revert s; intro v3 h
  unfold names_all_Vrf_Right_2_L1 at h
  obtain ⟨h4, h⟩|⟨h4, h⟩ := ite_out h
  ·obtain ⟨x5, h6, h⟩ := bo h
   obtain ⟨r7, h8, h⟩ := bo h
   obtain ⟨h9, h⟩|⟨h9, h⟩ := ite_out h
   ·obtain rfl := oi h; exact rl [4] [] [.t, .row (c78 x5), .b r7, .t] (pc h4<|pc (ob78 h6)<|pc (k_names_Right_2 h8)<|pc h9<|pn)
   ·obtain rfl := oi h; exact rl [1, 4, 7, 8, 9] [] [.t, .row (c78 x5), .b r7, .f] (pc h4<|pc (ob78 h6)<|pc (k_names_Right_2 h8)<|pc h9<|pn)
  ·obtain rfl := oi h; exact rl [4] [] [.f] (pc h4<|pn)
 ·rcases r with _ | _ <;> exact Ex.noConfusion

theorem k_names_all_Vrf_Right_2 {a1 : List Api_Vrf} {a2 : Api_Net} {r : Bool} (h : names_all_Vrf_Right_2 a1 a2 = some r) :
  CallsOK Tryz.prog UU 50 [.sl 78 a1, .fn (.func 51) [] [.rp (c31 a2) 0]] [] (.y r) [] := by
 unfold names_all_Vrf_Right_2 at h
 obtain ⟨r11, h10, h⟩ := bo h
 rcases r11 with _ | _
 ·obtain rfl := oi h; exact rf Tryz.func50 none [.sum [1, 4, 7, 8, 9] [] .ret [(4, .y false)] []] (pc (k_names_all_Vrf_Right_2_L1 _ _ h10)<|pn)
 ·obtain rfl := oi h; exact rf Tryz.func50 none [.sum [1, 4, 7, 8, 9] [] (.exit 0) [(4, .y false)] []] (pc (k_names_all_Vrf_Right_2_L1 _ _ h10)<|pn)

theorem k_names_place_Vrf {a1 : List Api_Vrf} {a2 : Int} {r : Bool} (h : names_place_Vrf a1 a2 = some r) :
  CallsOK Tryz.prog UU 80 [.sl 78 a1, .j a2] [] (.y r) [] := by
 unfold names_place_Vrf at h
 obtain ⟨h3, h⟩|⟨h3, h⟩ := ite_out h
 ·obtain rfl := oi h; exact rf Tryz.func80 none [.t] (pc h3<|pn)
 ·obtain rfl := oi h; exact rf Tryz.func80 none [.f] (pc h3<|pn)

theorem k_names_judge_irb {a1 : Names_judge} {a2 : Int} {a3 : Api_Irb} {r : Bool} (h : names_judge_irb a1 a2 a3 = some r) :
  CallsOK Tryz.prog UU 54 [.agg (c83 a1), .j a2, .agg (c103 a3)] [] (.y r) [] := by
 unfold names_judge_irb at h
 obtain ⟨r4, h5, h⟩ := bo h
 obtain ⟨h6, h⟩|⟨h6, h⟩ := ite_out h
 ·obtain ⟨r7, h8, h⟩ := bo h
  obtain ⟨h9, h⟩|⟨h9, h⟩ := ite_out h
  ·obtain ⟨x10, h11, h⟩ := bo h
   obtain ⟨x12, h13, h⟩ := bo h
   obtain ⟨h14, h⟩|⟨h14, h⟩ := ite_out h
   ·obtain ⟨x15, h16, h⟩ := bo h
    obtain ⟨h17, h⟩|⟨h17, h⟩ := ite_out h
    ·obtain ⟨h18, h⟩|⟨h18, h⟩ := ite_out h
     ·obtain rfl := oi h; exact rf Tryz.func54 none [.b r4, .t, .b r7, .t, .row (c63 x10), .row (c78 x12), .t, .row (c63 x15), .t, .t] (pc (k_names_place_Domain h5)<|pc h6<|pc (k_names_place_Vrf h8)<|pc h9<|pc (ob63 h11)<|pc (ob78 h13)<|pc h14<|pc (ob63 h16)<|pc h17<|pc h18<|pn)
     ·obtain rfl := oi h; exact rf Tryz.func54 none [.b r4, .t, .b r7, .t, .row (c63 x10), .row (c78 x12), .t, .row (c63 x15), .t, .f] (pc (k_names_place_Domain h5)<|pc h6<|pc (k_names_place_Vrf h8)<|pc h9<|pc (ob63 h11)<|pc (ob78 h13)<|pc h14<|pc (ob63 h16)<|pc h17<|pc h18<|pn)
    ·obtain rfl := oi h; exact rf Tryz.func54 none [.b r4, .t, .b r7, .t, .row (c63 x10), .row (c78 x12), .t, .row (c63 x15), .f] (pc (k_names_place_Domain h5)<|pc h6<|pc (k_names_place_Vrf h8)<|pc h9<|pc (ob63 h11)<|pc (ob78 h13)<|pc h14<|pc (ob63 h16)<|pc h17<|pn)
   ·obtain rfl := oi h; exact rf Tryz.func54 none [.b r4, .t, .b r7, .t, .row (c63 x10), .row (c78 x12), .f] (pc (k_names_place_Domain h5)<|pc h6<|pc (k_names_place_Vrf h8)<|pc h9<|pc (ob63 h11)<|pc (ob78 h13)<|pc h14<|pn)
  ·obtain rfl := oi h; exact rf Tryz.func54 none [.b r4, .t, .b r7, .f] (pc (k_names_place_Domain h5)<|pc h6<|pc (k_names_place_Vrf h8)<|pc h9<|pn)
 ·obtain rfl := oi h; exact rf Tryz.func54 none [.b r4, .f] (pc (k_names_place_Domain h5)<|pc h6<|pn)

theorem k_names_all_Irb_judge_irb_L1 {a1 : List Api_Irb} {a2 : Names_judge} : LoopOK Tryz.prog UU 0 20 (subC (codeOf Tryz.f53) [1, 0, 1, 0, 0]) (ρ := Unit ⊕ Unit) (names_all_Irb_judge_irb_L1 a1 a2)
  (fun v3 : Int => ([(1, .fn (.func 54) [.agg (c83 a2)] []), (4, .y false), (7, .sl 103 a1), (8, .j (a1.length : Int)), (9, .j v3)] : Fr DD)) (fun v3 : Int => ([] : Heap DD)) (fun r => match r with | Sum.inl _ => .ret | Sum.inr _ => .exit 0) (fun r => match r with | Sum.inl _ => [(4, .y false)] | Sum.inr _ => [(4, .y false)]) (fun r => match r with | Sum.inl _ => [] | Sum.inr _ => []) := by
 refine loop_sound3 (fun s q h => ?_) (fun r => ?_)
 ·replace h : names_all_Irb_judge_irb_L1 a1 a2 s = some q := h; revert h; revert s; intro v3 h
  unfold names_all_Irb_judge_irb_L1 at h
  obtain ⟨h4, h⟩|⟨h4, h⟩ := ite_out h
  ·obtain ⟨x5, h6, h⟩ := bo h
   obtain ⟨r7, h8, h⟩ := bo h
   obtain ⟨h9, h⟩|⟨h9, h⟩ := ite_out h
   ·obtain rfl := oi h; exact rl [4] [] [.t, .row (c103 x5), .b r7, .t] (pc h4<|pc (ob103 h6)<|pc (k_names_judge_irb h8)<|pc h9<|pn)
   ·obtain rfl := oi h; exact rl [1, 4, 7, 8, 9] [] [.t, .row (c103 x5), .b r7, .f] (pc h4<|pc (ob103 h6)<|pc (k_names_judge_irb h8)<|pc h9<|pn)
  ·obtain rfl := oi h; exact rl [4] [] [.f] (pc h4<|pn)
 ·rcases r with _ | _ <;> exact Ex.noConfusion

theorem k_names_all_Irb_judge_irb {a1 : List Api_Irb} {a2 : Names_judge} {r : Bool} (h : names_all_Irb_judge_irb a1 a2 = some r) :
  CallsOK Tryz.prog UU 53 [.sl 103 a1, .fn (.func 54) [.agg (c83 a2)] []] [] (.y r) [] := by
 unfold names_all_Irb_judge_irb at h
 obtain ⟨r11, h10, h⟩ := bo h
 rcases r11 with _ | _
 ·obtain rfl := oi h; exact rf Tryz.func53 none [.sum [1, 4, 7, 8, 9] [] .ret [(4, .y false)] []] (pc (k_names_all_Irb_judge_irb_L1 _ _ h10)<|pn)
 ·obtain rfl := oi h; exact rf Tryz.func53 none [.sum [1, 4, 7, 8, 9] [] (.exit 0) [(4, .y false)] []] (pc (k_names_all_Irb_judge_irb_L1 _ _ h10)<|pn)

theorem k_names_Right {a1 : Api_Net} {r : Bool} (h : names_Right a1 = some r) :
  CallsOK Tryz.prog UU 16 [.agg (c31 a1)] [] (.y r) [] := by
 unfold names_Right at h
 obtain ⟨r2, h3, h⟩ := bo h
 obtain ⟨h4, h⟩|⟨h4, h⟩ := ite_out h
 ·obtain ⟨r5, h6, h⟩ := bo h
  obtain ⟨h7, h⟩|⟨h7, h⟩ := ite_out h
  ·obtain ⟨r8, h9, h⟩ := bo h
   obtain ⟨h10, h⟩|⟨h10, h⟩ := ite_out h
   ·obtain ⟨r11, h12, h⟩ := bo h
    obtain ⟨h13, h⟩|⟨h13, h⟩ := ite_out h
    ·obtain ⟨r14, h15, h⟩ := bo h
     obtain ⟨h16, h⟩|⟨h16, h⟩ := ite_out h
     ·obtain ⟨r17, h18, h⟩ := bo h
      obtain ⟨h19, h⟩|⟨h19, h⟩ := ite_out h
      ·obtain ⟨r20, h21, h⟩ := bo h
       obtain ⟨h22, h⟩|⟨h22, h⟩ := ite_out h
       ·obtain ⟨r23, h24, h⟩ := bo h
        obtain ⟨h25, h⟩|⟨h25, h⟩ := ite_out h
        ·obtain ⟨r26, h27, h⟩ := bo h
         obtain rfl := oi h; exact rf Tryz.func16 none [.b r2, .t, .b r5, .t, .b r8, .t, .b r11, .t, .b r14, .t, .b r17, .t, .b r20, .t, .b r23, .t, .b r26] (pc (k_names_judge_few h3)<|pc h4<|pc (k_names_all_Domain_judge_bare h6)<|pc h7<|pc (k_names_all_Domain_judge_peers h9)<|pc h10<|pc (k_names_all_Port_judge_port h12)<|pc h13<|pc (k_names_all_Link_judge_link h15)<|pc h16<|pc (k_names_all_Static_judge_static h18)<|pc h19<|pc (k_names_all_Flood_Right_1 h21)<|pc h22<|pc (k_names_all_Vrf_Right_2 h24)<|pc h25<|pc (k_names_all_Irb_judge_irb h27)<|pn)
        ·obtain rfl := oi h; exact rf Tryz.func16 none [.b r2, .t, .b r5, .t, .b r8, .t, .b r11, .t, .b r14, .t, .b r17, .t, .b r20, .t, .b r23, .f] (pc (k_names_judge_few h3)<|pc h4<|pc (k_names_all_Domain_judge_bare h6)<|pc h7<|pc (k_names_all_Domain_judge_peers h9)<|pc h10<|pc (k_names_all_Port_judge_port h12)<|pc h13<|pc (k_names_all_Link_judge_link h15)<|pc h16<|pc (k_names_all_Static_judge_static h18)<|pc h19<|pc (k_names_all_Flood_Right_1 h21)<|pc h22<|pc (k_names_all_Vrf_Right_2 h24)<|pc h25<|pn)
       ·obtain rfl := oi h; exact rf Tryz.func16 none [.b r2, .t, .b r5, .t, .b r8, .t, .b r11, .t, .b r14, .t, .b r17, .t, .b r20, .f] (pc (k_names_judge_few h3)<|pc h4<|pc (k_names_all_Domain_judge_bare h6)<|pc h7<|pc (k_names_all_Domain_judge_peers h9)<|pc h10<|pc (k_names_all_Port_judge_port h12)<|pc h13<|pc (k_names_all_Link_judge_link h15)<|pc h16<|pc (k_names_all_Static_judge_static h18)<|pc h19<|pc (k_names_all_Flood_Right_1 h21)<|pc h22<|pn)
      ·obtain rfl := oi h; exact rf Tryz.func16 none [.b r2, .t, .b r5, .t, .b r8, .t, .b r11, .t, .b r14, .t, .b r17, .f] (pc (k_names_judge_few h3)<|pc h4<|pc (k_names_all_Domain_judge_bare h6)<|pc h7<|pc (k_names_all_Domain_judge_peers h9)<|pc h10<|pc (k_names_all_Port_judge_port h12)<|pc h13<|pc (k_names_all_Link_judge_link h15)<|pc h16<|pc (k_names_all_Static_judge_static h18)<|pc h19<|pn)
     ·obtain rfl := oi h; exact rf Tryz.func16 none [.b r2, .t, .b r5, .t, .b r8, .t, .b r11, .t, .b r14, .f] (pc (k_names_judge_few h3)<|pc h4<|pc (k_names_all_Domain_judge_bare h6)<|pc h7<|pc (k_names_all_Domain_judge_peers h9)<|pc h10<|pc (k_names_all_Port_judge_port h12)<|pc h13<|pc (k_names_all_Link_judge_link h15)<|pc h16<|pn)
    ·obtain rfl := oi h; exact rf Tryz.func16 none [.b r2, .t, .b r5, .t, .b r8, .t, .b r11, .f] (pc (k_names_judge_few h3)<|pc h4<|pc (k_names_all_Domain_judge_bare h6)<|pc h7<|pc (k_names_all_Domain_judge_peers h9)<|pc h10<|pc (k_names_all_Port_judge_port h12)<|pc h13<|pn)
   ·obtain rfl := oi h; exact rf Tryz.func16 none [.b r2, .t, .b r5, .t, .b r8, .f] (pc (k_names_judge_few h3)<|pc h4<|pc (k_names_all_Domain_judge_bare h6)<|pc h7<|pc (k_names_all_Domain_judge_peers h9)<|pc h10<|pn)
  ·obtain rfl := oi h; exact rf Tryz.func16 none [.b r2, .t, .b r5, .f] (pc (k_names_judge_few h3)<|pc h4<|pc (k_names_all_Domain_judge_bare h6)<|pc h7<|pn)
 ·obtain rfl := oi h; exact rf Tryz.func16 none [.b r2, .f] (pc (k_names_judge_few h3)<|pc h4<|pn)

theorem k_audit_auditor_note_own {a1 : List Api_Device} {a2 : List Api_Port} {a3 : List Api_Link} {a4 : List Api_Domain} {a5 : List Api_Static} {a6 : List Api_Flood} {a7 : List Api_Vrf} {a8 : List Api_Irb} {a9 : List Audit_Note} {a10 : Int} {a11 : Int} {a12 : Int} {a13 : Int} {r : (Unit)} (h : audit_auditor_note_own a1 a2 a3 a4 a5 a6 a7 a8 a9 a10 a11 a12 a13 = some r) :
  CallsOK Tryz.prog UU 17 [.o 0, .j a10, .j a11, .j a12, .j a13] [.box 66 [.sl 61 a1, .sl 52 a2, .sl 49 a3, .sl 63 a4, .sl 92 a5, .sl 76 a6, .sl 78 a7, .sl 103 a8, .os 1 a9.length] false, .w 33 a9] ((fun r => match r with | _ => .tup []) r) ((fun r => match r with | _ => [.box 66 [.sl 61 a1, .sl 52 a2, .sl 49 a3, .sl 63 a4, .sl 92 a5, .sl 76 a6, .sl 78 a7, .sl 103 a8, .os 1 (List.length (a9 ++ [(⟨a10, a11, a12, a13⟩ : Audit_Note)]))] false, .w 33 (a9 ++ [(⟨a10, a11, a12, a13⟩ : Audit_Note)])]) r) := by
 unfold audit_auditor_note_own at h
 obtain ⟨h14, h⟩|⟨h14, h⟩ := ite_out h
 ·obtain rfl := oi h; exact rf Tryz.func17 (some [0, 1]) [.obj [] (.w 33 [(⟨a10, a11, a12, a13⟩ : Audit_Note)]), .obj [] (.w 33 (a9 ++ [(⟨a10, a11, a12, a13⟩ : Audit_Note)]))] (pc (bs_ob 33 [(⟨a10, a11, a12, a13⟩ : Audit_Note)])<|pc (app_ob 33 (n := a9.length) (l := a9) (xs := [(⟨a10, a11, a12, a13⟩ : Audit_Note)]) h14)<|pc (rn (List.length [(⟨a10, a11, a12, a13⟩ : Audit_Note)]))<|pn)
 ·cases h

theorem k_audit_vlans {a1 : Api_Port} {r : ((List Int))} (h : audit_vlans a1 = some r) :
  CallsOK Tryz.prog UU 55 [.agg (c52 a1)] [] ((fun r => match r with | l6 => .os 0 l6.length) r) ((fun r => match r with | l6 => [.w 3 l6]) r) := by
 unfold audit_vlans at h
 obtain ⟨h2, h⟩|⟨h2, h⟩ := ite_out h
 ·obtain ⟨h3, h⟩|⟨h3, h⟩ := ite_out h
  ·obtain ⟨h4, h⟩|⟨h4, h⟩ := ite_out h
   ·obtain rfl := oi h; exact rf Tryz.func55 (some [2]) [.t, .obj [] (.w 3 [a1.native]), .obj [] (.w 3 ([a1.native])), .obj [] (.w 3 ([a1.native] ++ a1.tagged))] (pc h2<|pc (bs_ob 3 [a1.native])<|pc (app_ob 3 (n := 0) (l := []) (xs := [a1.native]) h3)<|pc (rn (List.length [a1.native]))<|pc (app_ob 3 (n := (List.length [a1.native])) (l := [a1.native]) (xs := a1.tagged) h4)<|pn)
   ·cases h
  ·cases h
 ·obtain ⟨h5, h⟩|⟨h5, h⟩ := ite_out h
  ·obtain rfl := oi h; exact rf Tryz.func55 (some [2]) [.f, .obj [] (.w 3 (a1.tagged))] (pc h2<|pc (app_ob 3 (n := 0) (l := []) (xs := a1.tagged) h5)<|pn)
  ·cases h

theorem k_links_Other {a1 : Api_Net} {a2 : Int} {r : Int} (h : links_Other a1 a2 = some r) :
  CallsOK Tryz.prog UU 34 [.agg (c31 a1), .j a2] [] (.j r) [] := by
 unfold links_Other at h
 obtain ⟨h3, h⟩|⟨h3, h⟩ := ite_out h
 ·obtain rfl := oi h; exact rf Tryz.func34 none [.t] (pc h3<|pn)
 ·obtain ⟨h4, h⟩|⟨h4, h⟩ := ite_out h
  ·obtain rfl := oi h; exact rf Tryz.func34 none [.f, .t] (pc h3<|pc h4<|pn)
  ·obtain ⟨x5, h6, h⟩ := bo h
   obtain ⟨h7, h⟩|⟨h7, h⟩ := ite_out h
   ·obtain rfl := oi h; exact rf Tryz.func34 none [.f, .f, .row (c52 x5), .t] (pc h3<|pc h4<|pc (ob52 h6)<|pc h7<|pn)
   ·obtain ⟨r8, h9, h⟩ := bo h
    obtain ⟨h10, h⟩|⟨h10, h⟩ := ite_out h
    ·obtain rfl := oi h; exact rf Tryz.func34 none [.f, .f, .row (c52 x5), .f, .b r8, .t] (pc h3<|pc h4<|pc (ob52 h6)<|pc h7<|pc (k_names_Right h9)<|pc h10<|pn)
    ·obtain ⟨x11, h12, h⟩ := bo h
     obtain ⟨x13, h14, h⟩ := bo h
     obtain ⟨h15, h⟩|⟨h15, h⟩ := ite_out h
     ·obtain rfl := oi h; exact rf Tryz.func34 none [.f, .f, .row (c52 x5), .f, .b r8, .f, .row (c52 x11), .row (c49 x13), .t] (pc h3<|pc h4<|pc (ob52 h6)<|pc h7<|pc (k_names_Right h9)<|pc h10<|pc (ob52 h12)<|pc (ob49 h14)<|pc h15<|pn)
     ·obtain rfl := oi h; exact rf Tryz.func34 none [.f, .f, .row (c52 x5), .f, .b r8, .f, .row (c52 x11), .row (c49 x13), .f] (pc h3<|pc h4<|pc (ob52 h6)<|pc h7<|pc (k_names_Right h9)<|pc h10<|pc (ob52 h12)<|pc (ob49 h14)<|pc h15<|pn)

theorem k_links_Cross {a1 : Api_Net} {a2 : Int} {a3 : Int} {r : Int × Int × Bool} (h : links_Cross a1 a2 a3 = some r) :
  CallsOK Tryz.prog UU 14 [.agg (c31 a1), .j a2, .j a3] [] (.tup [.j r.1, .j r.2.1, .y r.2.2]) [] := by
 unfold links_Cross at h
 obtain ⟨r4, h5, h⟩ := bo h
 obtain ⟨h6, h⟩|⟨h6, h⟩ := ite_out h
 ·obtain rfl := oi h; exact rf Tryz.func14 none [.callv (.j r4), .t] (pc (k_links_Other h5)<|pc h6<|pn)
 ·obtain ⟨x7, h8, h⟩ := bo h
  obtain ⟨r9, h10, h⟩ := bo h
  obtain ⟨h11, h⟩|⟨h11, h⟩ := ite_out h
  ·obtain rfl := oi h; exact rf Tryz.func14 none [.callv (.j r4), .f, .row (c52 x7), .b r9, .t] (pc (k_links_Other h5)<|pc h6<|pc (ob52 h8)<|pc (k_names_Member h10)<|pc h11<|pn)
  ·obtain ⟨x12, h13, h⟩ := bo h
   obtain ⟨x14, h15, h⟩ := bo h
   obtain ⟨h16, h⟩|⟨h16, h⟩ := ite_out h
   ·obtain ⟨h17, h⟩|⟨h17, h⟩ := ite_out h
    ·obtain rfl := oi h; exact rf Tryz.func14 none [.callv (.j r4), .f, .row (c52 x7), .b r9, .f, .row (c52 x12), .row (c52 x14), .t, .t] (pc (k_links_Other h5)<|pc h6<|pc (ob52 h8)<|pc (k_names_Member h10)<|pc h11<|pc (ob52 h13)<|pc (ob52 h15)<|pc h16<|pc h17<|pn)
    ·obtain rfl := oi h; exact rf Tryz.func14 none [.callv (.j r4), .f, .row (c52 x7), .b r9, .f, .row (c52 x12), .row (c52 x14), .t, .f] (pc (k_links_Other h5)<|pc h6<|pc (ob52 h8)<|pc (k_names_Member h10)<|pc h11<|pc (ob52 h13)<|pc (ob52 h15)<|pc h16<|pc h17<|pn)
   ·obtain ⟨r18, h19, h⟩ := bo h
    obtain ⟨h20, h⟩|⟨h20, h⟩ := ite_out h
    ·obtain ⟨h21, h⟩|⟨h21, h⟩ := ite_out h
     ·obtain rfl := oi h; exact rf Tryz.func14 none [.callv (.j r4), .f, .row (c52 x7), .b r9, .f, .row (c52 x12), .row (c52 x14), .f, .b r18, .t, .t] (pc (k_links_Other h5)<|pc h6<|pc (ob52 h8)<|pc (k_names_Member h10)<|pc h11<|pc (ob52 h13)<|pc (ob52 h15)<|pc h16<|pc (k_slices_Contains_int h19)<|pc h20<|pc h21<|pn)
     ·obtain rfl := oi h; exact rf Tryz.func14 none [.callv (.j r4), .f, .row (c52 x7), .b r9, .f, .row (c52 x12), .row (c52 x14), .f, .b r18, .t, .f] (pc (k_links_Other h5)<|pc h6<|pc (ob52 h8)<|pc (k_names_Member h10)<|pc h11<|pc (ob52 h13)<|pc (ob52 h15)<|pc h16<|pc (k_slices_Contains_int h19)<|pc h20<|pc h21<|pn)
    ·obtain ⟨h22, h⟩|⟨h22, h⟩ := ite_out h
     ·obtain rfl := oi h; exact rf Tryz.func14 none [.callv (.j r4), .f, .row (c52 x7), .b r9, .f, .row (c52 x12), .row (c52 x14), .f, .b r18, .f, .t] (pc (k_links_Other h5)<|pc h6<|pc (ob52 h8)<|pc (k_names_Member h10)<|pc h11<|pc (ob52 h13)<|pc (ob52 h15)<|pc h16<|pc (k_slices_Contains_int h19)<|pc h20<|pc h22<|pn)
     ·obtain rfl := oi h; exact rf Tryz.func14 none [.callv (.j r4), .f, .row (c52 x7), .b r9, .f, .row (c52 x12), .row (c52 x14), .f, .b r18, .f, .f] (pc (k_links_Other h5)<|pc h6<|pc (ob52 h8)<|pc (k_names_Member h10)<|pc h11<|pc (ob52 h13)<|pc (ob52 h15)<|pc h16<|pc (k_slices_Contains_int h19)<|pc h20<|pc h22<|pn)

theorem k_audit_auditor_links_auditor_note_own_L1 {a1 : List Api_Device} {a2 : List Api_Port} {a3 : List Api_Link} {a4 : List Api_Domain} {a5 : List Api_Static} {a6 : List Api_Flood} {a7 : List Api_Vrf} {a8 : List Api_Irb} : LoopOK Tryz.prog UU 2 114 (subC (codeOf Tryz.f18) [0, 1, 0, 0]) (fun s : (List Audit_Note) × Int => match s with | (l10, v11) => audit_auditor_links_auditor_note_own_L1 a1 a2 a3 a4 a5 a6 a7 a8 l10 v11)
  (fun s : (List Audit_Note) × Int => (match s with | (l10, v11) => [(0, .o 0), (1, .fn (.func 17) [.o 0] []), (19, .sl 49 a3), (20, .j (a3.length : Int)), (21, .j v11)] : Fr DD)) (fun s : (List Audit_Note) × Int => (match s with | (l10, v11) => [.box 66 [.sl 61 a1, .sl 52 a2, .sl 49 a3, .sl 63 a4, .sl 92 a5, .sl 76 a6, .sl 78 a7, .sl 103 a8, .os 1 l10.length] false, .w 33 l10] : Heap DD)) (fun r => match r with | l26 => .exit 0) (fun r => match r with | l26 => [(0, .o 0), (1, .fn (.func 17) [.o 0] [])]) (fun r => match r with | l26 => [.box 66 [.sl 61 a1, .sl 52 a2, .sl 49 a3, .sl 63 a4, .sl 92 a5, .sl 76 a6, .sl 78 a7, .sl 103 a8, .os 1 l26.length] false, .w 33 l26]) := by
 refine loop_sound3 (fun s q h => ?_) (fun r => ?_)
 ·obtain ⟨l10, v11⟩ := s; replace h : audit_auditor_links_auditor_note_own_L1 a1 a2 a3 a4 a5 a6 a7 a8 l10 v11 = some q := h
  unfold audit_auditor_links_auditor_note_own_L1 at h
  obtain ⟨h12, h⟩|⟨h12, h⟩ := ite_out h
  ·obtain ⟨x13, h14, h⟩ := bo h
   obtain ⟨x15, h16, h⟩ := bo h
   obtain ⟨x17, h18, h⟩ := bo h
   obtain ⟨h19, h⟩|⟨h19, h⟩ := ite_out h
   ·obtain ⟨h20, h⟩|⟨h20, h⟩ := ite_out h
    ·obtain ⟨h21, h⟩|⟨h21, h⟩ := ite_out h
     ·obtain ⟨r22, h23, h⟩ := bo h
      obtain rfl := oi h; exact rl [0, 1, 19, 20, 21] [0, 1] [.t, .row (c49 x13), .row (c52 x15), .row (c52 x17), .t, .t, .t, .callm [0, 1] (.tup []) [.box 66 [.sl 61 a1, .sl 52 a2, .sl 49 a3, .sl 63 a4, .sl 92 a5, .sl 76 a6, .sl 78 a7, .sl 103 a8, .os 1 (List.length (l10 ++ [(⟨1, x13.row, v11, x15.native⟩ : Audit_Note)]))] false, .w 33 (l10 ++ [(⟨1, x13.row, v11, x15.native⟩ : Audit_Note)])]] (pc h12<|pc (ob49 h14)<|pc (ob52 h16)<|pc (ob52 h18)<|pc h19<|pc h20<|pc h21<|pc (k_audit_auditor_note_own h23)<|pn)
     ·obtain rfl := oi h; exact rl [0, 1, 19, 20, 21] [0, 1] [.t, .row (c49 x13), .row (c52 x15), .row (c52 x17), .t, .t, .f] (pc h12<|pc (ob49 h14)<|pc (ob52 h16)<|pc (ob52 h18)<|pc h19<|pc h20<|pc h21<|pn)
    ·obtain rfl := oi h; exact rl [0, 1, 19, 20, 21] [0, 1] [.t, .row (c49 x13), .row (c52 x15), .row (c52 x17), .t, .f] (pc h12<|pc (ob49 h14)<|pc (ob52 h16)<|pc (ob52 h18)<|pc h19<|pc h20<|pn)
   ·obtain rfl := oi h; exact rl [0, 1, 19, 20, 21] [0, 1] [.t, .row (c49 x13), .row (c52 x15), .row (c52 x17), .f] (pc h12<|pc (ob49 h14)<|pc (ob52 h16)<|pc (ob52 h18)<|pc h19<|pn)
  ·obtain rfl := oi h; exact rl [0, 1] [0, 1] [.f] (pc h12<|pn)
 ·exact Ex.noConfusion

theorem k_audit_auditor_links_auditor_note_own_L3 {a1 : List Api_Device} {a2 : List Api_Port} {a3 : List Api_Link} {a4 : List Api_Domain} {a5 : List Api_Static} {a6 : List Api_Flood} {a7 : List Api_Vrf} {a8 : List Api_Irb} {v30 : Int} {x32 : Api_Port} {l37 : List Int} : LoopOK Tryz.prog UU 2 114 (subC (codeOf Tryz.f18) [1, 1, 0, 0, 1, 1, 0, 0, 1, 1, 1, 0, 0]) (fun s : (List Audit_Note) × Int => match s with | (l38, v39) => audit_auditor_links_auditor_note_own_L3 a1 a2 a3 a4 a5 a6 a7 a8 v30 x32 l37 l38 v39)
  (fun s : (List Audit_Note) × Int => (match s with | (l38, v39) => [(0, .o 0), (1, .fn (.func 17) [.o 0] []), (8, .j v30), (9, .o 2), (68, .sl 52 a2), (69, .j (a2.length : Int)), (70, .j v30), (79, .os 3 l37.length), (80, .j (l37.length : Int)), (81, .j v39)] : Fr DD)) (fun s : (List Audit_Note) × Int => (match s with | (l38, v39) => [.box 66 [.sl 61 a1, .sl 52 a2, .sl 49 a3, .sl 63 a4, .sl 92 a5, .sl 76 a6, .sl 78 a7, .sl 103 a8, .os 1 l38.length] false, .w 33 l38, .box 52 (c52 x32) false, .w 3 l37] : Heap DD)) (fun r => match r with | l56 => .exit 4) (fun r => match r with | l56 => [(0, .o 0), (1, .fn (.func 17) [.o 0] []), (68, .sl 52 a2), (69, .j (a2.length : Int)), (70, .j v30)]) (fun r => match r with | l56 => [.box 66 [.sl 61 a1, .sl 52 a2, .sl 49 a3, .sl 63 a4, .sl 92 a5, .sl 76 a6, .sl 78 a7, .sl 103 a8, .os 1 l56.length] false, .w 33 l56]) := by
 refine loop_sound3 (fun s q h => ?_) (fun r => ?_)
 ·obtain ⟨l38, v39⟩ := s; replace h : audit_auditor_links_auditor_note_own_L3 a1 a2 a3 a4 a5 a6 a7 a8 v30 x32 l37 l38 v39 = some q := h
  unfold audit_auditor_links_auditor_note_own_L3 at h
  obtain ⟨h40, h⟩|⟨h40, h⟩ := ite_out h
  ·obtain ⟨h41, h⟩|⟨h41, h⟩ := ite_out h
   ·obtain ⟨x42, h43, h⟩ := bo h
    obtain ⟨r44, h45, h⟩ := bo h
    obtain ⟨h46, h⟩|⟨h46, h⟩ := ite_out h
    ·obtain ⟨x47, h48, h⟩ := bo h
     obtain ⟨r49, h50, h⟩ := bo h
     obtain rfl := oi h; exact rl [0, 1, 8, 9, 68, 69, 70, 79, 80, 81] [0, 1, 2, 3] [.t, .row (c3 x42), .callv (.tup [.j r44.1, .j r44.2.1, .y r44.2.2]), .t, .row (c49 x47), .callm [0, 1] (.tup []) [.box 66 [.sl 61 a1, .sl 52 a2, .sl 49 a3, .sl 63 a4, .sl 92 a5, .sl 76 a6, .sl 78 a7, .sl 103 a8, .os 1 (List.length (l38 ++ [(⟨2, x47.row, v30, x42⟩ : Audit_Note)]))] false, .w 33 (l38 ++ [(⟨2, x47.row, v30, x42⟩ : Audit_Note)])]] (pc h40<|pc (an l37.length (lin_ob h41))<|pc (an l37.length (obn3 h43))<|pc (k_links_Cross h45)<|pc h46<|pc (ob49 h48)<|pc (k_audit_auditor_note_own h50)<|pn)
    ·obtain rfl := oi h; exact rl [0, 1, 8, 9, 68, 69, 70, 79, 80, 81] [0, 1, 2, 3] [.t, .row (c3 x42), .callv (.tup [.j r44.1, .j r44.2.1, .y r44.2.2]), .f] (pc h40<|pc (an l37.length (lin_ob h41))<|pc (an l37.length (obn3 h43))<|pc (k_links_Cross h45)<|pc h46<|pn)
   ·cases h
  ·obtain rfl := oi h; exact rl [0, 1, 68, 69, 70] [0, 1] [.f] (pc h40<|pn)
 ·exact Ex.noConfusion

theorem k_audit_auditor_links_auditor_note_own_L2 {a1 : List Api_Device} {a2 : List Api_Port} {a3 : List Api_Link} {a4 : List Api_Domain} {a5 : List Api_Static} {a6 : List Api_Flood} {a7 : List Api_Vrf} {a8 : List Api_Irb} : LoopOK Tryz.prog UU 2 114 (subC (codeOf Tryz.f18) [1, 1, 0, 0]) (fun s : (List Audit_Note) × Int => match s with | (l29, v30) => audit_auditor_links_auditor_note_own_L2 a1 a2 a3 a4 a5 a6 a7 a8 l29 v30)
  (fun s : (List Audit_Note) × Int => (match s with | (l29, v30) => [(0, .o 0), (1, .fn (.func 17) [.o 0] []), (68, .sl 52 a2), (69, .j (a2.length : Int)), (70, .j v30)] : Fr DD)) (fun s : (List Audit_Note) × Int => (match s with | (l29, v30) => [.box 66 [.sl 61 a1, .sl 52 a2, .sl 49 a3, .sl 63 a4, .sl 92 a5, .sl 76 a6, .sl 78 a7, .sl 103 a8, .os 1 l29.length] false, .w 33 l29] : Heap DD)) (fun r => match r with | l59 => .exit 2) (fun r => match r with | l59 => []) (fun r => match r with | l59 => [.box 66 [.sl 61 a1, .sl 52 a2, .sl 49 a3, .sl 63 a4, .sl 92 a5, .sl 76 a6, .sl 78 a7, .sl 103 a8, .os 1 l59.length] false, .w 33 l59]) := by
 refine loop_sound3 (fun s q h => ?_) (fun r => ?_)
 ·obtain ⟨l29, v30⟩ := s; replace h : audit_auditor_links_auditor_note_own_L2 a1 a2 a3 a4 a5 a6 a7 a8 l29 v30 = some q := h
  unfold audit_auditor_links_auditor_note_own_L2 at h
  obtain ⟨h31, h⟩|⟨h31, h⟩ := ite_out h
  ·obtain ⟨x32, h33, h⟩ := bo h
   obtain ⟨h34, h⟩|⟨h34, h⟩ := ite_out h
   ·obtain rfl := oi h; exact rl [0, 1, 68, 69, 70] [0, 1] [.t, .row (c52 x32), .t] (pc h31<|pc (ob52 h33)<|pc h34<|pn)
   ·obtain ⟨l37, h36, h⟩ := bo h
    obtain ⟨l56, h57, h⟩ := bo h
    obtain rfl := oi h; exact rl [0, 1, 68, 69, 70] [0, 1] [.t, .row (c52 x32), .f, .callo (.os 0 l37.length) [.w 3 l37], .sum [0, 1, 8, 9, 68, 69, 70, 79, 80, 81] [0, 1, 3, 4] (.exit 4) [(0, .o 0), (1, .fn (.func 17) [.o 0] []), (68, .sl 52 a2), (69, .j (a2.length : Int)), (70, .j v30)] [.box 66 [.sl 61 a1, .sl 52 a2, .sl 49 a3, .sl 63 a4, .sl 92 a5, .sl 76 a6, .sl 78 a7, .sl 103 a8, .os 1 l56.length] false, .w 33 l56]] (pc h31<|pc (ob52 h33)<|pc h34<|pc (k_audit_vlans h36)<|pc (im3 l37)<|pc (rn l37.length)<|pc (k_audit_auditor_links_auditor_note_own_L3 _ _ h57)<|pn)
  ·obtain rfl := oi h; exact rl [] [0, 1] [.f] (pc h31<|pn)
 ·exact Ex.noConfusion

theorem k_audit_auditor_links_auditor_note_own {a1 : List Api_Device} {a2 : List Api_Port} {a3 : List Api_Link} {a4 : List Api_Domain} {a5 : List Api_Static} {a6 : List Api_Flood} {a7 : List Api_Vrf} {a8 : List Api_Irb} {a9 : List Audit_Note} {r : ((List Audit_Note))} (h : audit_auditor_links_auditor_note_own a1 a2 a3 a4 a5 a6 a7 a8 a9 = some r) :
  CallsOK Tryz.prog UU 18 [.o 0, .fn (.func 17) [.o 0] []] [.box 66 [.sl 61 a1, .sl 52 a2, .sl 49 a3, .sl 63 a4, .sl 92 a5, .sl 76 a6, .sl 78 a7, .sl 103 a8, .os 1 a9.length] false, .w 33 a9] ((fun r => match r with | l62 => .tup []) r) ((fun r => match r with | l62 => [.box 66 [.sl 61 a1, .sl 52 a2, .sl 49 a3, .sl 63 a4, .sl 92 a5, .sl 76 a6, .sl 78 a7, .sl 103 a8, .os 1 l62.length] false, .w 33 l62]) r) := by
 unfold audit_auditor_links_auditor_note_own at h
 obtain ⟨l26, h27, h⟩ := bo h
 obtain ⟨l59, h60, h⟩ := bo h
 obtain rfl := oi h; exact rf Tryz.func18 (some [0, 1]) [.sum [0, 1, 19, 20, 21] [0, 1] (.exit 0) [(0, .o 0), (1, .fn (.func 17) [.o 0] [])] [.box 66 [.sl 61 a1, .sl 52 a2, .sl 49 a3, .sl 63 a4, .sl 92 a5, .sl 76 a6, .sl 78 a7, .sl 103 a8, .os 1 l26.length] false, .w 33 l26], .sum [0, 1, 68, 69, 70] [0, 1] (.exit 2) [] [.box 66 [.sl 61 a1, .sl 52 a2, .sl 49 a3, .sl 63 a4, .sl 92 a5, .sl 76 a6, .sl 78 a7, .sl 103 a8, .os 1 l59.length] false, .w 33 l59]] (pc (k_audit_auditor_links_auditor_note_own_L1 _ _ h27)<|pc (k_audit_auditor_links_auditor_note_own_L2 _ _ h60)<|pn)

theorem k_reach_place {a1 : Api_Net} {a2 : Int} {r : Bool} (h : reach_place a1 a2 = some r) :
  CallsOK Tryz.prog UU 104 [.agg (c31 a1), .j a2] [] (.y r) [] := by
 unfold reach_place at h
 obtain ⟨h3, h⟩|⟨h3, h⟩ := ite_out h
 ·obtain ⟨h4, h⟩|⟨h4, h⟩ := ite_out h
  ·obtain ⟨r5, h6, h⟩ := bo h
   obtain rfl := oi h; exact rf Tryz.func104 none [.t, .t, .b r5] (pc h3<|pc h4<|pc (k_names_Right h6)<|pn)
  ·obtain rfl := oi h; exact rf Tryz.func104 none [.t, .f] (pc h3<|pc h4<|pn)
 ·obtain rfl := oi h; exact rf Tryz.func104 none [.f] (pc h3<|pn)

theorem k_math_bits_Mul64 {a1 : Int} {a2 : Int} {r : Int × Int} (h : math_bits_Mul64 a1 a2 = some r) :
  CallsOK Tryz.prog UU 145 [.v (.int .u64 a1), .v (.int .u64 a2)] [] (.tup [.v (.int .u64 r.1), .v (.int .u64 r.2)]) [] := by
 unfold math_bits_Mul64 at h
 obtain rfl := oi h; exact rf Tryz.func145 none [] (pd (show (0 : Int) ≤ 32 from by decide)<|pd (show (0 : Int) ≤ 32 from by decide)<|pc (show (0 : Int) ≤ 32 from by decide)<|pn)

theorem k_math_bits_Mul {a1 : Int} {a2 : Int} {r : Int × Int} (h : math_bits_Mul a1 a2 = some r) :
  CallsOK Tryz.prog UU 139 [.v (.int .u64 a1), .v (.int .u64 a2)] [] (.tup [.v (.int .u64 r.1), .v (.int .u64 r.2)]) [] := by
 unfold math_bits_Mul at h
 obtain ⟨r3, h4, h⟩ := bo h
 obtain rfl := oi h; exact rf Tryz.func139 none [.callv (.tup [.v (.int .u64 r3.1), .v (.int .u64 r3.2)])] (pc (k_math_bits_Mul64 h4)<|pn)

theorem k_slices_Repeat_int_L1 {r4 : Int × Int} : LoopOK Tryz.prog UU 0 48 (subC (codeOf Tryz.f122) [1, 1, 1, 1, 1, 1, 0, 0, 0]) (fun s : (List Int) × Int => match s with | (l9, v10) => slices_Repeat_int_L1 r4 l9 v10)
  (fun s : (List Int) × Int => (match s with | (l9, v10) => [(4, .os 0 0), (7, .os 1 (Int.toNat (wr_i64 r4.2))), (8, .j v10)] : Fr DD)) (fun s : (List Int) × Int => (match s with | (l9, v10) => [.n 3, .arr 3 l9 (Int.toNat (wr_i64 r4.2)) false] : Heap DD)) (fun r => match r with | l16 => .exit 0) (fun r => match r with | l16 => [(4, .os 0 0), (7, .os 1 (Int.toNat (wr_i64 r4.2)))]) (fun r => match r with | l16 => [.n 3, .arr 3 l16 (Int.toNat (wr_i64 r4.2)) false]) := by
 refine loop_sound3 (fun s q h => ?_) (fun r => ?_)
 ·obtain ⟨l9, v10⟩ := s; replace h : slices_Repeat_int_L1 r4 l9 v10 = some q := h
  unfold slices_Repeat_int_L1 at h
  obtain ⟨h11, h⟩|⟨h11, h⟩ := ite_out h
  ·obtain ⟨h12, h⟩|⟨h12, h⟩ := ite_out h
   ·obtain ⟨h13, h⟩|⟨h13, h⟩ := ite_out h
    ·obtain rfl := oi h; exact rl [4, 7, 8] [0, 1] [.t, .sum [7] [] .nor [] [.n 3, .arr 3 (List.take v10.toNat l9 ++ (List.take (min (List.length (List.drop (Int.toNat 0) (List.take v10.toNat l9))) ((Int.toNat (l9.length : Int)) - v10.toNat)) (List.drop (Int.toNat 0) (List.take v10.toNat l9)) ++ List.drop (v10.toNat + (min (List.length (List.drop (Int.toNat 0) (List.take v10.toNat l9))) ((Int.toNat (l9.length : Int)) - v10.toNat))) l9)) (Int.toNat (wr_i64 r4.2)) false], .obj [] (.arr 3 (List.take v10.toNat l9 ++ (List.take (min (List.length (List.drop (Int.toNat 0) (List.take v10.toNat l9))) ((Int.toNat (l9.length : Int)) - v10.toNat)) (List.drop (Int.toNat 0) (List.take v10.toNat l9)) ++ List.drop (v10.toNat + (min (List.length (List.drop (Int.toNat 0) (List.take v10.toNat l9))) ((Int.toNat (l9.length : Int)) - v10.toNat))) l9)) (Int.toNat (wr_i64 r4.2)) false)] (pc (rn (Int.toNat (wr_i64 r4.2)))<|pc h11<|pc (rr (.j v10))<|pc (rn (Int.toNat (wr_i64 r4.2)))<|pc (sl_ob h12)<|pc (rn (Int.toNat (wr_i64 r4.2)))<|pc (sl_ob h13)<|pc (rh [.n 3, .arr 3 (List.take v10.toNat l9 ++ (List.take (min (List.length (List.drop (Int.toNat 0) (List.take v10.toNat l9))) ((Int.toNat (l9.length : Int)) - v10.toNat)) (List.drop (Int.toNat 0) (List.take v10.toNat l9)) ++ List.drop (v10.toNat + (min (List.length (List.drop (Int.toNat 0) (List.take v10.toNat l9))) ((Int.toNat (l9.length : Int)) - v10.toNat))) l9)) (Int.toNat (wr_i64 r4.2)) false])<|pc (cp_ob (e := 3) (n := (Int.toNat (wr_i64 r4.2))) (l := l9) (l2 := List.drop (Int.toNat 0) (List.take v10.toNat l9)) (a := v10.toNat) (b := (Int.toNat (l9.length : Int))))<|pc (rn (Int.toNat (wr_i64 r4.2)))<|pn)
    ·cases h
   ·cases h
  ·obtain rfl := oi h; exact rl [4, 7] [0, 1] [.f] (pc (rn (Int.toNat (wr_i64 r4.2)))<|pc h11<|pn)
 ·exact Ex.noConfusion

theorem k_slices_Repeat_int {a1 : List Int} {a2 : Int} {r : ((List Int) × Nat)} (h : slices_Repeat_int a1 a2 = some r) :
  CallsOK Tryz.prog UU 122 [.sl 3 a1, .j a2] [] ((fun r => match r with | (l19, n20) => .os 0 n20) r) ((fun r => match r with | (l19, n20) => [.arr 3 l19 n20 false]) r) := by
 unfold slices_Repeat_int at h
 obtain ⟨h3, h⟩|⟨h3, h⟩ := ite_out h
 ·cases h
 ·obtain ⟨r4, h5, h⟩ := bo h
  obtain ⟨h6, h⟩|⟨h6, h⟩ := ite_out h
  ·cases h
  ·obtain ⟨h7, h⟩|⟨h7, h⟩ := ite_out h
   ·cases h
   ·obtain ⟨h8, h⟩|⟨h8, h⟩ := ite_out h
    ·obtain ⟨l16, h17, h⟩ := bo h
     obtain rfl := oi h; exact rf Tryz.func122 (some [1]) [.f, .callv (.tup [.v (.int .u64 r4.1), .v (.int .u64 r4.2)]), .f, .f, .obj [] (.arr 3 (List.replicate (Int.toNat (wr_i64 r4.2)) (0 : Int)) (Int.toNat (wr_i64 r4.2)) false), .obj [] (.arr 3 (List.take 0 (List.replicate (Int.toNat (wr_i64 r4.2)) (0 : Int)) ++ (List.take (min a1.length ((List.length (List.replicate (Int.toNat (wr_i64 r4.2)) (0 : Int))) - 0)) a1 ++ List.drop (0 + (min a1.length ((List.length (List.replicate (Int.toNat (wr_i64 r4.2)) (0 : Int))) - 0))) (List.replicate (Int.toNat (wr_i64 r4.2)) (0 : Int)))) (Int.toNat (wr_i64 r4.2)) false), .sum [4, 7, 8] [0, 1] (.exit 0) [(4, .os 0 0), (7, .os 1 (Int.toNat (wr_i64 r4.2)))] [.n 3, .arr 3 l16 (Int.toNat (wr_i64 r4.2)) false]] (pc h3<|pc (k_math_bits_Mul h5)<|pc h6<|pc h7<|pc (mk_ob 3 (0 : Int) h8)<|pc (rn (Int.toNat (wr_i64 r4.2)))<|pc (cp_ob (e := 3) (n := (Int.toNat (wr_i64 r4.2))) (l := List.replicate (Int.toNat (wr_i64 r4.2)) (0 : Int)) (l2 := a1) (a := 0) (b := (List.length (List.replicate (Int.toNat (wr_i64 r4.2)) (0 : Int)))))<|pc (k_slices_Repeat_int_L1 _ _ h17)<|pn)
    ·cases h

theorem k_names_Members_L1 {a1 : Api_Net} {a2 : Int} : LoopOK Tryz.prog UU 0 51 (subC (codeOf Tryz.f107) [1, 1, 1, 0, 1, 0, 0]) (fun s : (List Int) × Int => match s with | (l9, v10) => names_Members_L1 a1 a2 l9 v10)
  (fun s : (List Int) × Int => (match s with | (l9, v10) => [(1, .j a2), (2, .o 0), (4, .os 1 0), (5, .os 2 l9.length), (19, .sl 52 a1.ports), (20, .j (a1.ports.length : Int)), (21, .j v10)] : Fr DD)) (fun s : (List Int) × Int => (match s with | (l9, v10) => [.box 31 (c31 a1) false, .n 3, .w 3 l9] : Heap DD)) (fun r => match r with | l25 => .exit 0) (fun r => match r with | l25 => [(4, .os 0 0), (5, .os 1 l25.length)]) (fun r => match r with | l25 => [.n 3, .w 3 l25]) := by
 refine loop_sound3 (fun s q h => ?_) (fun r => ?_)
 ·obtain ⟨l9, v10⟩ := s; replace h : names_Members_L1 a1 a2 l9 v10 = some q := h
  unfold names_Members_L1 at h
  obtain ⟨h11, h⟩|⟨h11, h⟩ := ite_out h
  ·obtain ⟨x12, h13, h⟩ := bo h
   obtain ⟨x14, h15, h⟩ := bo h
   obtain ⟨h16, h⟩|⟨h16, h⟩ := ite_out h
   ·obtain ⟨x17, h18, h⟩ := bo h
    obtain ⟨r19, h20, h⟩ := bo h
    obtain ⟨h21, h⟩|⟨h21, h⟩ := ite_out h
    ·obtain ⟨h22, h⟩|⟨h22, h⟩ := ite_out h
     ·obtain rfl := oi h; exact rl [1, 2, 4, 5, 19, 20, 21] [0, 1, 2] [.t, .row (c52 x12), .row (c63 x14), .t, .row (c63 x17), .b r19, .t, .obj [] (.w 3 [v10]), .obj [] (.w 3 (l9 ++ [v10]))] (pc h11<|pc (ob52 h13)<|pc (ob63 h15)<|pc h16<|pc (ob63 h18)<|pc (k_names_Member h20)<|pc h21<|pc (bs_ob 3 [v10])<|pc (app_ob 3 (n := l9.length) (l := l9) (xs := [v10]) h22)<|pc (rn (List.length [v10]))<|pn)
     ·cases h
    ·obtain rfl := oi h; exact rl [1, 2, 4, 5, 19, 20, 21] [0, 1, 2] [.t, .row (c52 x12), .row (c63 x14), .t, .row (c63 x17), .b r19, .f] (pc h11<|pc (ob52 h13)<|pc (ob63 h15)<|pc h16<|pc (ob63 h18)<|pc (k_names_Member h20)<|pc h21<|pn)
   ·obtain rfl := oi h; exact rl [1, 2, 4, 5, 19, 20, 21] [0, 1, 2] [.t, .row (c52 x12), .row (c63 x14), .f] (pc h11<|pc (ob52 h13)<|pc (ob63 h15)<|pc h16<|pn)
  ·obtain rfl := oi h; exact rl [4, 5] [1, 2] [.f] (pc h11<|pn)
 ·exact Ex.noConfusion

theorem k_names_Members {a1 : Api_Net} {a2 : Int} {r : ((List Int))} (h : names_Members a1 a2 = some r) :
  CallsOK Tryz.prog UU 107 [.agg (c31 a1), .j a2] [] ((fun r => match r with | l28 => .os 0 l28.length) r) ((fun r => match r with | l28 => [.w 3 l28]) r) := by
 unfold names_Members at h
 obtain ⟨r3, h4, h⟩ := bo h
 obtain ⟨h5, h⟩|⟨h5, h⟩ := ite_out h
 ·obtain rfl := oi h; exact rf Tryz.func107 (some [2]) [.b r3, .t] (pc (k_names_Right h4)<|pc h5<|pn)
 ·obtain ⟨r6, h7, h⟩ := bo h
  obtain ⟨h8, h⟩|⟨h8, h⟩ := ite_out h
  ·obtain rfl := oi h; exact rf Tryz.func107 (some [2]) [.b r3, .f, .b r6, .t] (pc (k_names_Right h4)<|pc h5<|pc (k_names_place_Domain h7)<|pc h8<|pn)
  ·obtain ⟨l25, h26, h⟩ := bo h
   obtain rfl := oi h; exact rf Tryz.func107 (some [1]) [.b r3, .f, .b r6, .f, .sum [1, 2, 4, 5, 19, 20, 21] [0, 1, 2] (.exit 0) [(4, .os 0 0), (5, .os 1 l25.length)] [.n 3, .w 3 l25]] (pc (k_names_Right h4)<|pc h5<|pc (k_names_place_Domain h7)<|pc h8<|pc (k_names_Members_L1 _ _ h26)<|pn)

theorem k_names_Domain_1 {a1 : Api_Domain} {a2 : Int} {a3 : Int} {r : Bool} (h : names_Domain_1 a1 a2 a3 = some r) :
  CallsOK Tryz.prog UU 152 [.agg (c63 a1), .rp (c3 a2) 0, .rp (c3 a3) 0] [] (.y r) [] := by
 unfold names_Domain_1 at h
 obtain ⟨h4, h⟩|⟨h4, h⟩ := ite_out h
 ·obtain rfl := oi h; exact rf Tryz.func152 none [.t] (pc h4<|pn)
 ·obtain rfl := oi h; exact rf Tryz.func152 none [.f] (pc h4<|pn)

end Go.Eng
