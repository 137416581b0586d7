/- Part of the proof of MatrixApart: printed mirrors of the functions, or their contracts. No conditions. -/
import Derived.Test.YtcclngfmkodgjaaGreatMAK
set_option linter.unusedVariables false
set_option maxRecDepth 100000
namespace Go.Eng
open Go Go.Proofs
theorem k_names_judge_few {a1 : Names_judge} {r : Bool} (h : names_judge_few a1 = some r) :
  CallsOK Tryz.prog UU 124 [.agg (c190 a1)] [] (.y r) [] := by
 unfold names_judge_few at h
 obtain ⟨h2, h⟩|⟨h2, h⟩ := ite_out h
 ·obtain ⟨h3, h⟩|⟨h3, h⟩ := ite_out h
  ·obtain ⟨h4, h⟩|⟨h4, h⟩ := ite_out h
   ·obtain ⟨h5, h⟩|⟨h5, h⟩ := ite_out h
    ·obtain ⟨h6, h⟩|⟨h6, h⟩ := ite_out h
     ·obtain ⟨h7, h⟩|⟨h7, h⟩ := ite_out h
      ·obtain ⟨h8, h⟩|⟨h8, h⟩ := ite_out h
       ·obtain rfl := oi h; exact rf Tryz.func124 none [.t, .t, .t, .t, .t, .t, .t] (pc h2<|pc h3<|pc h4<|pc h5<|pc h6<|pc h7<|pc h8<|pn)
       ·obtain rfl := oi h; exact rf Tryz.func124 none [.t, .t, .t, .t, .t, .t, .f] (pc h2<|pc h3<|pc h4<|pc h5<|pc h6<|pc h7<|pc h8<|pn)
      ·obtain rfl := oi h; exact rf Tryz.func124 none [.t, .t, .t, .t, .t, .f] (pc h2<|pc h3<|pc h4<|pc h5<|pc h6<|pc h7<|pn)
     ·obtain rfl := oi h; exact rf Tryz.func124 none [.t, .t, .t, .t, .f] (pc h2<|pc h3<|pc h4<|pc h5<|pc h6<|pn)
    ·obtain rfl := oi h; exact rf Tryz.func124 none [.t, .t, .t, .f] (pc h2<|pc h3<|pc h4<|pc h5<|pn)
   ·obtain rfl := oi h; exact rf Tryz.func124 none [.t, .t, .f] (pc h2<|pc h3<|pc h4<|pn)
  ·obtain rfl := oi h; exact rf Tryz.func124 none [.t, .f] (pc h2<|pc h3<|pn)
 ·obtain rfl := oi h; exact rf Tryz.func124 none [.f] (pc h2<|pn)

theorem k_names_place_Device {a1 : List Api_Device} {a2 : Int} {r : Bool} (h : names_place_Device a1 a2 = some r) :
  CallsOK Tryz.prog UU 136 [.sl 56 a1, .j a2] [] (.y r) [] := by
 unfold names_place_Device at h
 obtain ⟨h3, h⟩|⟨h3, h⟩ := ite_out h
 ·obtain rfl := oi h; exact rf Tryz.func136 none [.t] (pc h3<|pn)
 ·obtain rfl := oi h; exact rf Tryz.func136 none [.f] (pc h3<|pn)

theorem k_names_judge_domain_1 {a1 : Api_Domain} {a2 : Int} {a3 : Int} {r : Bool} (h : names_judge_domain_1 a1 a2 a3 = some r) :
  CallsOK Tryz.prog UU 233 [.agg (c90 a1), .rp (c3 a2) 0, .rp (c3 a3) 0] [] (.y r) [] := by
 unfold names_judge_domain_1 at h
 obtain ⟨h4, h⟩|⟨h4, h⟩ := ite_out h
 ·obtain rfl := oi h; exact rf Tryz.func233 none [.t] (pc h4<|pn)
 ·obtain rfl := oi h; exact rf Tryz.func233 none [.f] (pc h4<|pn)

theorem k_slices_IndexFunc_Domain_judge_domain_1_L1 {a1 : List Api_Domain} {a2 : Int} {a3 : Int} : LoopOK Tryz.prog UU 0 19 (subC (codeOf Tryz.f144) [1, 0, 1, 0, 0]) (ρ := Int ⊕ Unit) (slices_IndexFunc_Domain_judge_domain_1_L1 a1 a2 a3)
  (fun v4 : Int => ([(0, .sl 90 a1), (1, .fn (.func 233) [] [.rp (c3 a2) 0, .rp (c3 a3) 0]), (4, .z), (7, .j (a1.length : Int)), (8, .j v4)] : Fr DD)) (fun v4 : Int => ([] : Heap DD)) (fun r => match r with | Sum.inl v12 => .ret | Sum.inr _ => .exit 0) (fun r => match r with | Sum.inl v12 => [(4, .j v12)] | Sum.inr _ => [(4, .z)]) (fun r => match r with | Sum.inl v12 => [] | Sum.inr _ => []) := by
 refine loop_sound3 (fun s q h => ?_) (fun r => ?_)
 ·replace h : slices_IndexFunc_Domain_judge_domain_1_L1 a1 a2 a3 s = some q := h; revert h; revert s; intro v4 h
  unfold slices_IndexFunc_Domain_judge_domain_1_L1 at h
  obtain ⟨h5, h⟩|⟨h5, h⟩ := ite_out h
  ·obtain ⟨x6, h7, h⟩ := bo h
   obtain ⟨r8, h9, h⟩ := bo h
   obtain ⟨h10, h⟩|⟨h10, h⟩ := ite_out h
   ·obtain rfl := oi h; exact rl [4] [] [.t, .row (c90 x6), .b r8, .t] (pc h5<|pc (ob90 h7)<|pc (k_names_judge_domain_1 h9)<|pc h10<|pn)
   ·obtain rfl := oi h; exact rl [0, 1, 4, 7, 8] [] [.t, .row (c90 x6), .b r8, .f] (pc h5<|pc (ob90 h7)<|pc (k_names_judge_domain_1 h9)<|pc h10<|pn)
  ·obtain rfl := oi h; exact rl [4] [] [.f] (pc h5<|pn)
 ·rcases r with _ | _ <;> exact Ex.noConfusion

theorem k_slices_IndexFunc_Domain_judge_domain_1 {a1 : List Api_Domain} {a2 : Int} {a3 : Int} {r : Int} (h : slices_IndexFunc_Domain_judge_domain_1 a1 a2 a3 = some r) :
  CallsOK Tryz.prog UU 144 [.sl 90 a1, .fn (.func 233) [] [.rp (c3 a2) 0, .rp (c3 a3) 0]] [] (.j r) [] := by
 unfold slices_IndexFunc_Domain_judge_domain_1 at h
 obtain ⟨r14, h13, h⟩ := bo h
 rcases r14 with v12 | _
 ·obtain rfl := oi h; exact rf Tryz.func144 none [.sum [0, 1, 4, 7, 8] [] .ret [(4, .j v12)] []] (pc (k_slices_IndexFunc_Domain_judge_domain_1_L1 _ _ h13)<|pn)
 ·obtain rfl := oi h; exact rf Tryz.func144 none [.sum [0, 1, 4, 7, 8] [] (.exit 0) [(4, .z)] []] (pc (k_slices_IndexFunc_Domain_judge_domain_1_L1 _ _ h13)<|pn)

theorem k_names_judge_domain {a1 : Names_judge} {a2 : Int} {a3 : Int} {r : Int} (h : names_judge_domain a1 a2 a3 = some r) :
  CallsOK Tryz.prog UU 194 [.agg (c190 a1), .j a2, .j a3] [] (.j r) [] := by
 unfold names_judge_domain at h
 obtain ⟨r4, h5, h⟩ := bo h
 obtain rfl := oi h; exact rf Tryz.func194 none [.callv (.j r4)] (pc (k_slices_IndexFunc_Domain_judge_domain_1 h5)<|pn)

theorem k_names_place_Irb {a1 : List Api_Irb} {a2 : Int} {r : Bool} (h : names_place_Irb a1 a2 = some r) :
  CallsOK Tryz.prog UU 193 [.sl 105 a1, .j a2] [] (.y r) [] := by
 unfold names_place_Irb at h
 obtain ⟨h3, h⟩|⟨h3, h⟩ := ite_out h
 ·obtain rfl := oi h; exact rf Tryz.func193 none [.t] (pc h3<|pn)
 ·obtain rfl := oi h; exact rf Tryz.func193 none [.f] (pc h3<|pn)

theorem k_names_judge_bare {a1 : Names_judge} {a2 : Int} {a3 : Api_Domain} {r : Bool} (h : names_judge_bare a1 a2 a3 = some r) :
  CallsOK Tryz.prog UU 126 [.agg (c190 a1), .j a2, .agg (c90 a3)] [] (.y r) [] := by
 unfold names_judge_bare at h
 obtain ⟨r4, h5, h⟩ := bo h
 obtain ⟨h6, h⟩|⟨h6, h⟩ := ite_out h
 ·obtain ⟨h7, h⟩|⟨h7, h⟩ := ite_out h
  ·obtain ⟨h8, h⟩|⟨h8, h⟩ := ite_out h
   ·obtain ⟨h9, h⟩|⟨h9, h⟩ := ite_out h
    ·obtain ⟨h10, h⟩|⟨h10, h⟩ := ite_out h
     ·obtain ⟨h11, h⟩|⟨h11, h⟩ := ite_out h
      ·obtain ⟨r12, h13, h⟩ := bo h
       obtain rfl := oi h; exact rf Tryz.func126 none [.b r4, .t, .t, .t, .t, .t, .t, .callv (.j r12)] (pc (k_names_place_Device h5)<|pc h6<|pc h7<|pc h8<|pc h9<|pc h10<|pc h11<|pc (k_names_judge_domain h13)<|pn)
      ·obtain ⟨r14, h15, h⟩ := bo h
       obtain ⟨h16, h⟩|⟨h16, h⟩ := ite_out h
       ·obtain ⟨x17, h18, h⟩ := bo h
        obtain ⟨h19, h⟩|⟨h19, h⟩ := ite_out h
        ·obtain ⟨r20, h21, h⟩ := bo h
         obtain rfl := oi h; exact rf Tryz.func126 none [.b r4, .t, .t, .t, .t, .t, .f, .b r14, .t, .row (c105 x17), .t, .callv (.j r20)] (pc (k_names_place_Device h5)<|pc h6<|pc h7<|pc h8<|pc h9<|pc h10<|pc h11<|pc (k_names_place_Irb h15)<|pc h16<|pc (ob105 h18)<|pc h19<|pc (k_names_judge_domain h21)<|pn)
        ·obtain rfl := oi h; exact rf Tryz.func126 none [.b r4, .t, .t, .t, .t, .t, .f, .b r14, .t, .row (c105 x17), .f] (pc (k_names_place_Device h5)<|pc h6<|pc h7<|pc h8<|pc h9<|pc h10<|pc h11<|pc (k_names_place_Irb h15)<|pc h16<|pc (ob105 h18)<|pc h19<|pn)
       ·obtain rfl := oi h; exact rf Tryz.func126 none [.b r4, .t, .t, .t, .t, .t, .f, .b r14, .f] (pc (k_names_place_Device h5)<|pc h6<|pc h7<|pc h8<|pc h9<|pc h10<|pc h11<|pc (k_names_place_Irb h15)<|pc h16<|pn)
     ·obtain rfl := oi h; exact rf Tryz.func126 none [.b r4, .t, .t, .t, .t, .f] (pc (k_names_place_Device h5)<|pc h6<|pc h7<|pc h8<|pc h9<|pc h10<|pn)
    ·obtain rfl := oi h; exact rf Tryz.func126 none [.b r4, .t, .t, .t, .f] (pc (k_names_place_Device h5)<|pc h6<|pc h7<|pc h8<|pc h9<|pn)
   ·obtain rfl := oi h; exact rf Tryz.func126 none [.b r4, .t, .t, .f] (pc (k_names_place_Device h5)<|pc h6<|pc h7<|pc h8<|pn)
  ·obtain rfl := oi h; exact rf Tryz.func126 none [.b r4, .t, .f] (pc (k_names_place_Device h5)<|pc h6<|pc h7<|pn)
 ·obtain rfl := oi h; exact rf Tryz.func126 none [.b r4, .f] (pc (k_names_place_Device h5)<|pc h6<|pn)

theorem k_names_all_Domain_judge_bare_L1 {a1 : List Api_Domain} {a2 : Names_judge} : LoopOK Tryz.prog UU 0 20 (subC (codeOf Tryz.f125) [1, 0, 1, 0, 0]) (ρ := Unit ⊕ Unit) (names_all_Domain_judge_bare_L1 a1 a2)
  (fun v3 : Int => ([(1, .fn (.func 126) [.agg (c190 a2)] []), (4, .y false), (7, .sl 90 a1), (8, .j (a1.length : Int)), (9, .j v3)] : Fr DD)) (fun v3 : Int => ([] : Heap DD)) (fun r => match r with | Sum.inl _ => .ret | Sum.inr _ => .exit 0) (fun r => match r with | Sum.inl _ => [(4, .y false)] | Sum.inr _ => [(4, .y false)]) (fun r => match r with | Sum.inl _ => [] | Sum.inr _ => []) := by
 refine loop_sound3 (fun s q h => ?_) (fun r => ?_)
 ·replace h : names_all_Domain_judge_bare_L1 a1 a2 s = some q := h; revert h; revert s; intro v3 h
  unfold names_all_Domain_judge_bare_L1 at h
  obtain ⟨h4, h⟩|⟨h4, h⟩ := ite_out h
  ·obtain ⟨x5, h6, h⟩ := bo h
   obtain ⟨r7, h8, h⟩ := bo h
   obtain ⟨h9, h⟩|⟨h9, h⟩ := ite_out h
   ·obtain rfl := oi h; exact rl [4] [] [.t, .row (c90 x5), .b r7, .t] (pc h4<|pc (ob90 h6)<|pc (k_names_judge_bare h8)<|pc h9<|pn)
   ·obtain rfl := oi h; exact rl [1, 4, 7, 8, 9] [] [.t, .row (c90 x5), .b r7, .f] (pc h4<|pc (ob90 h6)<|pc (k_names_judge_bare h8)<|pc h9<|pn)
  ·obtain rfl := oi h; exact rl [4] [] [.f] (pc h4<|pn)
 ·rcases r with _ | _ <;> exact Ex.noConfusion

theorem k_names_all_Domain_judge_bare {a1 : List Api_Domain} {a2 : Names_judge} {r : Bool} (h : names_all_Domain_judge_bare a1 a2 = some r) :
  CallsOK Tryz.prog UU 125 [.sl 90 a1, .fn (.func 126) [.agg (c190 a2)] []] [] (.y r) [] := by
 unfold names_all_Domain_judge_bare at h
 obtain ⟨r11, h10, h⟩ := bo h
 rcases r11 with _ | _
 ·obtain rfl := oi h; exact rf Tryz.func125 none [.sum [1, 4, 7, 8, 9] [] .ret [(4, .y false)] []] (pc (k_names_all_Domain_judge_bare_L1 _ _ h10)<|pn)
 ·obtain rfl := oi h; exact rf Tryz.func125 none [.sum [1, 4, 7, 8, 9] [] (.exit 0) [(4, .y false)] []] (pc (k_names_all_Domain_judge_bare_L1 _ _ h10)<|pn)

theorem k_names_place_Domain {a1 : List Api_Domain} {a2 : Int} {r : Bool} (h : names_place_Domain a1 a2 = some r) :
  CallsOK Tryz.prog UU 173 [.sl 90 a1, .j a2] [] (.y r) [] := by
 unfold names_place_Domain at h
 obtain ⟨h3, h⟩|⟨h3, h⟩ := ite_out h
 ·obtain rfl := oi h; exact rf Tryz.func173 none [.t] (pc h3<|pn)
 ·obtain rfl := oi h; exact rf Tryz.func173 none [.f] (pc h3<|pn)

theorem k_names_judge_vtep {a1 : Names_judge} {a2 : Api_Domain} {r : Bool} (h : names_judge_vtep a1 a2 = some r) :
  CallsOK Tryz.prog UU 234 [.agg (c190 a1), .agg (c90 a2)] [] (.y r) [] := by
 unfold names_judge_vtep at h
 obtain ⟨x3, h4, h⟩ := bo h
 obtain rfl := oi h; exact rf Tryz.func234 none [.row (c56 x3)] (pc (ob56 h4)<|pn)

theorem k_slices_Index_int_L1 {a1 : List Int} {a2 : Int} : LoopOK Tryz.prog UU 0 19 (subC (codeOf Tryz.f76) [1, 0, 1, 0, 0]) (ρ := Int ⊕ Unit) (slices_Index_int_L1 a1 a2)
  (fun v3 : Int => ([(0, .sl 3 a1), (1, .j a2), (4, .z), (7, .j (a1.length : Int)), (8, .j v3)] : Fr DD)) (fun v3 : Int => ([] : Heap DD)) (fun r => match r with | Sum.inl v9 => .ret | Sum.inr _ => .exit 0) (fun r => match r with | Sum.inl v9 => [(4, .j v9)] | Sum.inr _ => [(4, .z)]) (fun r => match r with | Sum.inl v9 => [] | Sum.inr _ => []) := by
 refine loop_sound3 (fun s q h => ?_) (fun r => ?_)
 ·replace h : slices_Index_int_L1 a1 a2 s = some q := h; revert h; revert s; intro v3 h
  unfold slices_Index_int_L1 at h
  obtain ⟨h4, h⟩|⟨h4, h⟩ := ite_out h
  ·obtain ⟨x5, h6, h⟩ := bo h
   obtain ⟨h7, h⟩|⟨h7, h⟩ := ite_out h
   ·obtain rfl := oi h; exact rl [4] [] [.t, .row (c3 x5), .t] (pc h4<|pc (ob3 h6)<|pc h7<|pn)
   ·obtain rfl := oi h; exact rl [0, 1, 4, 7, 8] [] [.t, .row (c3 x5), .f] (pc h4<|pc (ob3 h6)<|pc h7<|pn)
  ·obtain rfl := oi h; exact rl [4] [] [.f] (pc h4<|pn)
 ·rcases r with _ | _ <;> exact Ex.noConfusion

theorem k_slices_Index_int {a1 : List Int} {a2 : Int} {r : Int} (h : slices_Index_int a1 a2 = some r) :
  CallsOK Tryz.prog UU 76 [.sl 3 a1, .j a2] [] (.j r) [] := by
 unfold slices_Index_int at h
 obtain ⟨r11, h10, h⟩ := bo h
 rcases r11 with v9 | _
 ·obtain rfl := oi h; exact rf Tryz.func76 none [.sum [0, 1, 4, 7, 8] [] .ret [(4, .j v9)] []] (pc (k_slices_Index_int_L1 _ _ h10)<|pn)
 ·obtain rfl := oi h; exact rf Tryz.func76 none [.sum [0, 1, 4, 7, 8] [] (.exit 0) [(4, .z)] []] (pc (k_slices_Index_int_L1 _ _ h10)<|pn)

theorem k_slices_Contains_int {a1 : List Int} {a2 : Int} {r : Bool} (h : slices_Contains_int a1 a2 = some r) :
  CallsOK Tryz.prog UU 97 [.sl 3 a1, .j a2] [] (.y r) [] := by
 unfold slices_Contains_int at h
 obtain ⟨r3, h4, h⟩ := bo h
 obtain rfl := oi h; exact rf Tryz.func97 none [.callv (.j r3)] (pc (k_slices_Index_int h4)<|pn)

theorem k_names_judge_peer {a1 : Names_judge} {a2 : Int} {a3 : Api_Domain} {a4 : Int} {r : Bool} (h : names_judge_peer a1 a2 a3 a4 = some r) :
  CallsOK Tryz.prog UU 197 [.agg (c190 a1), .j a2, .agg (c90 a3), .j a4] [] (.y r) [] := by
 unfold names_judge_peer at h
 obtain ⟨r5, h6, h⟩ := bo h
 obtain ⟨h7, h⟩|⟨h7, h⟩ := ite_out h
 ·obtain rfl := oi h; exact rf Tryz.func197 none [.b r5, .t] (pc (k_names_place_Domain h6)<|pc h7<|pn)
 ·obtain ⟨h8, h⟩|⟨h8, h⟩ := ite_out h
  ·obtain rfl := oi h; exact rf Tryz.func197 none [.b r5, .f, .t] (pc (k_names_place_Domain h6)<|pc h7<|pc h8<|pn)
  ·obtain ⟨x9, h10, h⟩ := bo h
   obtain ⟨r11, h12, h⟩ := bo h
   obtain ⟨h13, h⟩|⟨h13, h⟩ := ite_out h
   ·obtain ⟨h14, h⟩|⟨h14, h⟩ := ite_out h
    ·obtain ⟨h15, h⟩|⟨h15, h⟩ := ite_out h
     ·obtain ⟨h16, h⟩|⟨h16, h⟩ := ite_out h
      ·obtain ⟨r17, h18, h⟩ := bo h
       obtain ⟨h19, h⟩|⟨h19, h⟩ := ite_out h
       ·obtain ⟨r20, h21, h⟩ := bo h
        obtain ⟨h22, h⟩|⟨h22, h⟩ := ite_out h
        ·obtain ⟨r23, h24, h⟩ := bo h
         obtain rfl := oi h; exact rf Tryz.func197 none [.b r5, .f, .f, .row (c90 x9), .b r11, .t, .t, .t, .t, .b r17, .t, .b r20, .t, .b r23] (pc (k_names_place_Domain h6)<|pc h7<|pc h8<|pc (ob90 h10)<|pc (k_names_place_Device h12)<|pc h13<|pc h14<|pc h15<|pc h16<|pc (k_names_judge_vtep h18)<|pc h19<|pc (k_names_judge_vtep h21)<|pc h22<|pc (k_slices_Contains_int h24)<|pn)
        ·obtain rfl := oi h; exact rf Tryz.func197 none [.b r5, .f, .f, .row (c90 x9), .b r11, .t, .t, .t, .t, .b r17, .t, .b r20, .f] (pc (k_names_place_Domain h6)<|pc h7<|pc h8<|pc (ob90 h10)<|pc (k_names_place_Device h12)<|pc h13<|pc h14<|pc h15<|pc h16<|pc (k_names_judge_vtep h18)<|pc h19<|pc (k_names_judge_vtep h21)<|pc h22<|pn)
       ·obtain rfl := oi h; exact rf Tryz.func197 none [.b r5, .f, .f, .row (c90 x9), .b r11, .t, .t, .t, .t, .b r17, .f] (pc (k_names_place_Domain h6)<|pc h7<|pc h8<|pc (ob90 h10)<|pc (k_names_place_Device h12)<|pc h13<|pc h14<|pc h15<|pc h16<|pc (k_names_judge_vtep h18)<|pc h19<|pn)
      ·obtain rfl := oi h; exact rf Tryz.func197 none [.b r5, .f, .f, .row (c90 x9), .b r11, .t, .t, .t, .f] (pc (k_names_place_Domain h6)<|pc h7<|pc h8<|pc (ob90 h10)<|pc (k_names_place_Device h12)<|pc h13<|pc h14<|pc h15<|pc h16<|pn)
     ·obtain rfl := oi h; exact rf Tryz.func197 none [.b r5, .f, .f, .row (c90 x9), .b r11, .t, .t, .f] (pc (k_names_place_Domain h6)<|pc h7<|pc h8<|pc (ob90 h10)<|pc (k_names_place_Device h12)<|pc h13<|pc h14<|pc h15<|pn)
    ·obtain rfl := oi h; exact rf Tryz.func197 none [.b r5, .f, .f, .row (c90 x9), .b r11, .t, .f] (pc (k_names_place_Domain h6)<|pc h7<|pc h8<|pc (ob90 h10)<|pc (k_names_place_Device h12)<|pc h13<|pc h14<|pn)
   ·obtain rfl := oi h; exact rf Tryz.func197 none [.b r5, .f, .f, .row (c90 x9), .b r11, .f] (pc (k_names_place_Domain h6)<|pc h7<|pc h8<|pc (ob90 h10)<|pc (k_names_place_Device h12)<|pc h13<|pn)

theorem k_names_judge_peers_1 {a1 : Int} {a2 : Int} {a3 : Names_judge} {a4 : Int} {a5 : Api_Domain} {r : Bool} (h : names_judge_peers_1 a1 a2 a3 a4 a5 = some r) :
  CallsOK Tryz.prog UU 196 [.j a1, .j a2, .rp (c190 a3) 0, .rp (c3 a4) 0, .rp (c90 a5) 0] [] (.y r) [] := by
 unfold names_judge_peers_1 at h
 obtain ⟨r6, h7, h⟩ := bo h
 obtain ⟨h8, h⟩|⟨h8, h⟩ := ite_out h
 ·obtain ⟨r9, h10, h⟩ := bo h
  obtain rfl := oi h; exact rf Tryz.func196 none [.b r6, .t, .callv (.j r9)] (pc (k_names_judge_peer h7)<|pc h8<|pc (k_slices_Index_int h10)<|pn)
 ·obtain rfl := oi h; exact rf Tryz.func196 none [.b r6, .f] (pc (k_names_judge_peer h7)<|pc h8<|pn)

theorem k_names_all_int_judge_peers_1_L1 {a1 : List Int} {a2 : Names_judge} {a3 : Int} {a4 : Api_Domain} : LoopOK Tryz.prog UU 0 20 (subC (codeOf Tryz.f195) [1, 0, 1, 0, 0]) (ρ := Unit ⊕ Unit) (names_all_int_judge_peers_1_L1 a1 a2 a3 a4)
  (fun v5 : Int => ([(1, .fn (.func 196) [] [.rp (c190 a2) 0, .rp (c3 a3) 0, .rp (c90 a4) 0]), (4, .y false), (7, .sl 3 a1), (8, .j (a1.length : Int)), (9, .j v5)] : Fr DD)) (fun v5 : Int => ([] : Heap DD)) (fun r => match r with | Sum.inl _ => .ret | Sum.inr _ => .exit 0) (fun r => match r with | Sum.inl _ => [(4, .y false)] | Sum.inr _ => [(4, .y false)]) (fun r => match r with | Sum.inl _ => [] | Sum.inr _ => []) := by
 refine loop_sound3 (fun s q h => ?_) (fun r => ?_)
 ·replace h : names_all_int_judge_peers_1_L1 a1 a2 a3 a4 s = some q := h; revert h; revert s; intro v5 h
  unfold names_all_int_judge_peers_1_L1 at h
  obtain ⟨h6, h⟩|⟨h6, h⟩ := ite_out h
  ·obtain ⟨x7, h8, h⟩ := bo h
   obtain ⟨r9, h10, h⟩ := bo h
   obtain ⟨h11, h⟩|⟨h11, h⟩ := ite_out h
   ·obtain rfl := oi h; exact rl [4] [] [.t, .row (c3 x7), .b r9, .t] (pc h6<|pc (ob3 h8)<|pc (k_names_judge_peers_1 h10)<|pc h11<|pn)
   ·obtain rfl := oi h; exact rl [1, 4, 7, 8, 9] [] [.t, .row (c3 x7), .b r9, .f] (pc h6<|pc (ob3 h8)<|pc (k_names_judge_peers_1 h10)<|pc h11<|pn)
  ·obtain rfl := oi h; exact rl [4] [] [.f] (pc h6<|pn)
 ·rcases r with _ | _ <;> exact Ex.noConfusion

theorem k_names_all_int_judge_peers_1 {a1 : List Int} {a2 : Names_judge} {a3 : Int} {a4 : Api_Domain} {r : Bool} (h : names_all_int_judge_peers_1 a1 a2 a3 a4 = some r) :
  CallsOK Tryz.prog UU 195 [.sl 3 a1, .fn (.func 196) [] [.rp (c190 a2) 0, .rp (c3 a3) 0, .rp (c90 a4) 0]] [] (.y r) [] := by
 unfold names_all_int_judge_peers_1 at h
 obtain ⟨r13, h12, h⟩ := bo h
 rcases r13 with _ | _
 ·obtain rfl := oi h; exact rf Tryz.func195 none [.sum [1, 4, 7, 8, 9] [] .ret [(4, .y false)] []] (pc (k_names_all_int_judge_peers_1_L1 _ _ h12)<|pn)
 ·obtain rfl := oi h; exact rf Tryz.func195 none [.sum [1, 4, 7, 8, 9] [] (.exit 0) [(4, .y false)] []] (pc (k_names_all_int_judge_peers_1_L1 _ _ h12)<|pn)

theorem k_names_judge_peers {a1 : Names_judge} {a2 : Int} {a3 : Api_Domain} {r : Bool} (h : names_judge_peers a1 a2 a3 = some r) :
  CallsOK Tryz.prog UU 127 [.agg (c190 a1), .j a2, .agg (c90 a3)] [] (.y r) [] := by
 unfold names_judge_peers at h
 obtain ⟨r4, h5, h⟩ := bo h
 obtain rfl := oi h; exact rf Tryz.func127 none [.b r4] (pc (k_names_all_int_judge_peers_1 h5)<|pn)

theorem k_names_all_Domain_judge_peers_L1 {a1 : List Api_Domain} {a2 : Names_judge} : LoopOK Tryz.prog UU 0 20 (subC (codeOf Tryz.f125) [1, 0, 1, 0, 0]) (ρ := Unit ⊕ Unit) (names_all_Domain_judge_peers_L1 a1 a2)
  (fun v3 : Int => ([(1, .fn (.func 127) [.agg (c190 a2)] []), (4, .y false), (7, .sl 90 a1), (8, .j (a1.length : Int)), (9, .j v3)] : Fr DD)) (fun v3 : Int => ([] : Heap DD)) (fun r => match r with | Sum.inl _ => .ret | Sum.inr _ => .exit 0) (fun r => match r with | Sum.inl _ => [(4, .y false)] | Sum.inr _ => [(4, .y false)]) (fun r => match r with | Sum.inl _ => [] | Sum.inr _ => []) := by
 refine loop_sound3 (fun s q h => ?_) (fun r => ?_)
 ·replace h : names_all_Domain_judge_peers_L1 a1 a2 s = some q := h; revert h; revert s; intro v3 h
  unfold names_all_Domain_judge_peers_L1 at h
  obtain ⟨h4, h⟩|⟨h4, h⟩ := ite_out h
  ·obtain ⟨x5, h6, h⟩ := bo h
   obtain ⟨r7, h8, h⟩ := bo h
   obtain ⟨h9, h⟩|⟨h9, h⟩ := ite_out h
   ·obtain rfl := oi h; exact rl [4] [] [.t, .row (c90 x5), .b r7, .t] (pc h4<|pc (ob90 h6)<|pc (k_names_judge_peers h8)<|pc h9<|pn)
   ·obtain rfl := oi h; exact rl [1, 4, 7, 8, 9] [] [.t, .row (c90 x5), .b r7, .f] (pc h4<|pc (ob90 h6)<|pc (k_names_judge_peers h8)<|pc h9<|pn)
  ·obtain rfl := oi h; exact rl [4] [] [.f] (pc h4<|pn)
 ·rcases r with _ | _ <;> exact Ex.noConfusion

theorem k_names_all_Domain_judge_peers {a1 : List Api_Domain} {a2 : Names_judge} {r : Bool} (h : names_all_Domain_judge_peers a1 a2 = some r) :
  CallsOK Tryz.prog UU 125 [.sl 90 a1, .fn (.func 127) [.agg (c190 a2)] []] [] (.y r) [] := by
 unfold names_all_Domain_judge_peers at h
 obtain ⟨r11, h10, h⟩ := bo h
 rcases r11 with _ | _
 ·obtain rfl := oi h; exact rf Tryz.func125 none [.sum [1, 4, 7, 8, 9] [] .ret [(4, .y false)] []] (pc (k_names_all_Domain_judge_peers_L1 _ _ h10)<|pn)
 ·obtain rfl := oi h; exact rf Tryz.func125 none [.sum [1, 4, 7, 8, 9] [] (.exit 0) [(4, .y false)] []] (pc (k_names_all_Domain_judge_peers_L1 _ _ h10)<|pn)

theorem k_num_Rising_L1 {a1 : List Int} {a2 : Int} {a3 : Int} : LoopOK Tryz.prog UU 0 46 (subC (codeOf Tryz.f200) [1, 0, 1, 0, 0]) (ρ := Unit ⊕ Unit) (num_Rising_L1 a1 a2 a3)
  (fun v4 : Int => ([(0, .sl 3 a1), (1, .j a2), (2, .j a3), (6, .y false), (9, .sl 3 a1), (10, .j (a1.length : Int)), (11, .j v4)] : Fr DD)) (fun v4 : Int => ([] : Heap DD)) (fun r => match r with | Sum.inl _ => .ret | Sum.inr _ => .exit 0) (fun r => match r with | Sum.inl _ => [(6, .y false)] | Sum.inr _ => [(0, .sl 3 a1), (6, .y false)]) (fun r => match r with | Sum.inl _ => [] | Sum.inr _ => []) := by
 refine loop_sound3 (fun s q h => ?_) (fun r => ?_)
 ·replace h : num_Rising_L1 a1 a2 a3 s = some q := h; revert h; revert s; intro v4 h
  unfold num_Rising_L1 at h
  obtain ⟨h5, h⟩|⟨h5, h⟩ := ite_out h
  ·obtain ⟨x6, h7, h⟩ := bo h
   obtain ⟨h8, h⟩|⟨h8, h⟩ := ite_out h
   ·obtain rfl := oi h; exact rl [6] [] [.t, .row (c3 x6), .t] (pc h5<|pc (ob3 h7)<|pc h8<|pn)
   ·obtain ⟨h9, h⟩|⟨h9, h⟩ := ite_out h
    ·obtain rfl := oi h; exact rl [6] [] [.t, .row (c3 x6), .f, .t] (pc h5<|pc (ob3 h7)<|pc h8<|pc h9<|pn)
    ·obtain ⟨h10, h⟩|⟨h10, h⟩ := ite_out h
     ·obtain ⟨x11, h12, h⟩ := bo h
      obtain ⟨h13, h⟩|⟨h13, h⟩ := ite_out h
      ·obtain rfl := oi h; exact rl [6] [] [.t, .row (c3 x6), .f, .f, .t, .row (c3 x11), .t] (pc h5<|pc (ob3 h7)<|pc h8<|pc h9<|pc h10<|pc (ob3 h12)<|pc h13<|pn)
      ·obtain rfl := oi h; exact rl [0, 1, 2, 6, 9, 10, 11] [] [.t, .row (c3 x6), .f, .f, .t, .row (c3 x11), .f] (pc h5<|pc (ob3 h7)<|pc h8<|pc h9<|pc h10<|pc (ob3 h12)<|pc h13<|pn)
     ·obtain rfl := oi h; exact rl [0, 1, 2, 6, 9, 10, 11] [] [.t, .row (c3 x6), .f, .f, .f] (pc h5<|pc (ob3 h7)<|pc h8<|pc h9<|pc h10<|pn)
  ·obtain rfl := oi h; exact rl [0, 6] [] [.f] (pc h5<|pn)
 ·rcases r with _ | _ <;> exact Ex.noConfusion

theorem k_num_Rising {a1 : List Int} {a2 : Int} {a3 : Int} {r : Bool} (h : num_Rising a1 a2 a3 = some r) :
  CallsOK Tryz.prog UU 200 [.sl 3 a1, .j a2, .j a3] [] (.y r) [] := by
 unfold num_Rising at h
 obtain ⟨r15, h14, h⟩ := bo h
 rcases r15 with _ | _
 ·obtain rfl := oi h; exact rf Tryz.func200 none [.sum [0, 1, 2, 6, 9, 10, 11] [] .ret [(6, .y false)] []] (pc (k_num_Rising_L1 _ _ h14)<|pn)
 ·obtain ⟨h16, h⟩|⟨h16, h⟩ := ite_out h
  ·obtain rfl := oi h; exact rf Tryz.func200 none [.sum [0, 1, 2, 6, 9, 10, 11] [] (.exit 0) [(0, .sl 3 a1), (6, .y false)] [], .t] (pc (k_num_Rising_L1 _ _ h14)<|pc h16<|pn)
  ·obtain rfl := oi h; exact rf Tryz.func200 none [.sum [0, 1, 2, 6, 9, 10, 11] [] (.exit 0) [(0, .sl 3 a1), (6, .y false)] [], .f] (pc (k_num_Rising_L1 _ _ h14)<|pc h16<|pn)

theorem k_names_rising {a1 : List Int} {a2 : Int} {r : Bool} (h : names_rising a1 a2 = some r) :
  CallsOK Tryz.prog UU 139 [.sl 3 a1, .j a2] [] (.y r) [] := by
 unfold names_rising at h
 obtain ⟨h3, h⟩|⟨h3, h⟩ := ite_out h
 ·obtain rfl := oi h; exact rf Tryz.func139 none [.t] (pc h3<|pn)
 ·obtain ⟨r4, h5, h⟩ := bo h
  obtain rfl := oi h; exact rf Tryz.func139 none [.f, .b r4] (pc h3<|pc (k_num_Rising h5)<|pn)

theorem k_names_place_Link {a1 : List Api_Link} {a2 : Int} {r : Bool} (h : names_place_Link a1 a2 = some r) :
  CallsOK Tryz.prog UU 198 [.sl 174 a1, .j a2] [] (.y r) [] := by
 unfold names_place_Link at h
 obtain ⟨h3, h⟩|⟨h3, h⟩ := ite_out h
 ·obtain rfl := oi h; exact rf Tryz.func198 none [.t] (pc h3<|pn)
 ·obtain rfl := oi h; exact rf Tryz.func198 none [.f] (pc h3<|pn)

theorem k_names_judge_port_J1 {a1 : Names_judge} {a2 : Int} {a3 : Api_Port} {r : Unit ⊕ Unit} (h : names_judge_port_J1 a1 a2 a3 = some r) :
  ExecOK Tryz.prog UU 0 111 (subC (codeOf Tryz.f129) [1, 0]) [(1, .j a2), (3, .o 0), (5, .o 1), (6, .y false)] [.box 190 (c190 a1) false, .box 110 (c110 a3) false] ((fun r => match r with | Sum.inl _ => .ret | Sum.inr _ => .nor) r) ((fun r => match r with | Sum.inl _ => [(6, .y false)] | Sum.inr _ => [(1, .j a2), (3, .o 0), (5, .o 1), (6, .y false)]) r) ((fun r => match r with | Sum.inl _ => [] | Sum.inr _ => [.box 190 (c190 a1) false, .box 110 (c110 a3) false]) r) := by
 unfold names_judge_port_J1 at h
 obtain ⟨r4, h5, h⟩ := bo h
 obtain ⟨h6, h⟩|⟨h6, h⟩ := ite_out h
 ·obtain rfl := oi h; exact rl [6] [] [.b r4, .t] (pc (k_names_place_Device h5)<|pc h6<|pn)
 ·obtain ⟨h7, h⟩|⟨h7, h⟩ := ite_out h
  ·obtain rfl := oi h; exact rl [6] [] [.b r4, .f, .t] (pc (k_names_place_Device h5)<|pc h6<|pc h7<|pn)
  ·obtain ⟨h8, h⟩|⟨h8, h⟩ := ite_out h
   ·obtain rfl := oi h; exact rl [6] [] [.b r4, .f, .f, .t] (pc (k_names_place_Device h5)<|pc h6<|pc h7<|pc h8<|pn)
   ·obtain ⟨r9, h10, h⟩ := bo h
    obtain ⟨h11, h⟩|⟨h11, h⟩ := ite_out h
    ·obtain rfl := oi h; exact rl [6] [] [.b r4, .f, .f, .f, .b r9, .t] (pc (k_names_place_Device h5)<|pc h6<|pc h7<|pc h8<|pc (k_names_rising h10)<|pc h11<|pn)
    ·obtain ⟨r12, h13, h⟩ := bo h
     obtain ⟨h14, h⟩|⟨h14, h⟩ := ite_out h
     ·obtain rfl := oi h; exact rl [6] [] [.b r4, .f, .f, .f, .b r9, .f, .b r12, .t] (pc (k_names_place_Device h5)<|pc h6<|pc h7<|pc h8<|pc (k_names_rising h10)<|pc h11<|pc (k_slices_Contains_int h13)<|pc h14<|pn)
     ·obtain ⟨h15, h⟩|⟨h15, h⟩ := ite_out h
      ·obtain ⟨h16, h⟩|⟨h16, h⟩ := ite_out h
       ·obtain rfl := oi h; exact rl [6] [] [.b r4, .f, .f, .f, .b r9, .f, .b r12, .f, .t, .t] (pc (k_names_place_Device h5)<|pc h6<|pc h7<|pc h8<|pc (k_names_rising h10)<|pc h11<|pc (k_slices_Contains_int h13)<|pc h14<|pc h15<|pc h16<|pn)
       ·obtain rfl := oi h; exact rl [1, 3, 5, 6] [0, 1] [.b r4, .f, .f, .f, .b r9, .f, .b r12, .f, .t, .f] (pc (k_names_place_Device h5)<|pc h6<|pc h7<|pc h8<|pc (k_names_rising h10)<|pc h11<|pc (k_slices_Contains_int h13)<|pc h14<|pc h15<|pc h16<|pn)
      ·obtain rfl := oi h; exact rl [1, 3, 5, 6] [0, 1] [.b r4, .f, .f, .f, .b r9, .f, .b r12, .f, .f] (pc (k_names_place_Device h5)<|pc h6<|pc h7<|pc h8<|pc (k_names_rising h10)<|pc h11<|pc (k_slices_Contains_int h13)<|pc h14<|pc h15<|pn)

theorem k_names_judge_port_L2 {a1 : Names_judge} {a2 : Int} {a3 : Api_Port} : LoopOK Tryz.prog UU 0 111 (subC (codeOf Tryz.f129) [1, 1, 0, 1, 0, 0]) (ρ := Unit ⊕ Unit) (names_judge_port_L2 a1 a2 a3)
  (fun v19 : Int => ([(1, .j a2), (3, .o 0), (5, .o 1), (6, .y false), (51, .sl 3 a3.tagged), (52, .j (a3.tagged.length : Int)), (53, .j v19)] : Fr DD)) (fun v19 : Int => ([.box 190 (c190 a1) false, .box 110 (c110 a3) false] : Heap DD)) (fun r => match r with | Sum.inl _ => .ret | Sum.inr _ => .exit 0) (fun r => match r with | Sum.inl _ => [(6, .y false)] | Sum.inr _ => [(1, .j a2), (3, .o 0), (5, .o 1), (6, .y false)]) (fun r => match r with | Sum.inl _ => [] | Sum.inr _ => [.box 190 (c190 a1) false, .box 110 (c110 a3) false]) := by
 refine loop_sound3 (fun s q h => ?_) (fun r => ?_)
 ·replace h : names_judge_port_L2 a1 a2 a3 s = some q := h; revert h; revert s; intro v19 h
  unfold names_judge_port_L2 at h
  obtain ⟨h20, h⟩|⟨h20, h⟩ := ite_out h
  ·obtain ⟨x21, h22, h⟩ := bo h
   obtain ⟨r23, h24, h⟩ := bo h
   obtain ⟨h25, h⟩|⟨h25, h⟩ := ite_out h
   ·obtain rfl := oi h; exact rl [6] [] [.t, .row (c3 x21), .callv (.j r23), .t] (pc h20<|pc (ob3 h22)<|pc (k_names_judge_domain h24)<|pc h25<|pn)
   ·obtain rfl := oi h; exact rl [1, 3, 5, 6, 51, 52, 53] [0, 1] [.t, .row (c3 x21), .callv (.j r23), .f] (pc h20<|pc (ob3 h22)<|pc (k_names_judge_domain h24)<|pc h25<|pn)
  ·obtain rfl := oi h; exact rl [1, 3, 5, 6] [0, 1] [.f] (pc h20<|pn)
 ·rcases r with _ | _ <;> exact Ex.noConfusion

theorem k_names_judge_port_J3 {a1 : Names_judge} {a2 : Int} {a3 : Api_Port} {r : Unit ⊕ Unit} (h : names_judge_port_J3 a1 a2 a3 = some r) :
  ExecOK Tryz.prog UU 0 111 (subC (codeOf Tryz.f129) [1, 1, 1, 0]) [(1, .j a2), (3, .o 0), (5, .o 1), (6, .y false)] [.box 190 (c190 a1) false, .box 110 (c110 a3) false] ((fun r => match r with | Sum.inl _ => .ret | Sum.inr _ => .nor) r) ((fun r => match r with | Sum.inl _ => [(6, .y false)] | Sum.inr _ => [(1, .j a2), (3, .o 0), (5, .o 1), (6, .y false)]) r) ((fun r => match r with | Sum.inl _ => [] | Sum.inr _ => [.box 190 (c190 a1) false, .box 110 (c110 a3) false]) r) := by
 unfold names_judge_port_J3 at h
 obtain ⟨h28, h⟩|⟨h28, h⟩ := ite_out h
 ·obtain ⟨r29, h30, h⟩ := bo h
  obtain ⟨h31, h⟩|⟨h31, h⟩ := ite_out h
  ·obtain rfl := oi h; exact rl [6] [] [.t, .callv (.j r29), .t] (pc h28<|pc (k_names_judge_domain h30)<|pc h31<|pn)
  ·obtain rfl := oi h; exact rl [1, 3, 5, 6] [0, 1] [.t, .callv (.j r29), .f] (pc h28<|pc (k_names_judge_domain h30)<|pc h31<|pn)
 ·obtain rfl := oi h; exact rl [1, 3, 5, 6] [0, 1] [.f] (pc h28<|pn)

theorem k_names_judge_port {a1 : Names_judge} {a2 : Int} {a3 : Api_Port} {r : Bool} (h : names_judge_port a1 a2 a3 = some r) :
  CallsOK Tryz.prog UU 129 [.agg (c190 a1), .j a2, .agg (c110 a3)] [] (.y r) [] := by
 unfold names_judge_port at h
 obtain ⟨r18, h17, h⟩ := bo h
 rcases r18 with _ | _
 ·obtain rfl := oi h; exact rf Tryz.func129 none [.skp, .cut [1, 3, 5, 6] [0, 1] .ret [(6, .y false)] []] (pc (k_names_judge_port_J1 h17)<|pn)
 ·obtain ⟨r27, h26, h⟩ := bo h
  rcases r27 with _ | _
  ·obtain rfl := oi h; exact rf Tryz.func129 none [.skp, .cut [1, 3, 5, 6] [0, 1] .nor [(1, .j a2), (3, .o 0), (5, .o 1), (6, .y false)] [.box 190 (c190 a1) false, .box 110 (c110 a3) false], .sum [1, 3, 5, 6, 51, 52, 53] [0, 1] .ret [(6, .y false)] []] (pc (k_names_judge_port_J1 h17)<|pc (k_names_judge_port_L2 _ _ h26)<|pn)
  ·obtain ⟨r33, h32, h⟩ := bo h
   rcases r33 with _ | _
   ·obtain rfl := oi h; exact rf Tryz.func129 none [.skp, .cut [1, 3, 5, 6] [0, 1] .nor [(1, .j a2), (3, .o 0), (5, .o 1), (6, .y false)] [.box 190 (c190 a1) false, .box 110 (c110 a3) false], .sum [1, 3, 5, 6, 51, 52, 53] [0, 1] (.exit 0) [(1, .j a2), (3, .o 0), (5, .o 1), (6, .y false)] [.box 190 (c190 a1) false, .box 110 (c110 a3) false], .cut [1, 3, 5, 6] [0, 1] .ret [(6, .y false)] []] (pc (k_names_judge_port_J1 h17)<|pc (k_names_judge_port_L2 _ _ h26)<|pc (k_names_judge_port_J3 h32)<|pn)
   ·obtain ⟨h34, h⟩|⟨h34, h⟩ := ite_out h
    ·obtain rfl := oi h; exact rf Tryz.func129 none [.skp, .cut [1, 3, 5, 6] [0, 1] .nor [(1, .j a2), (3, .o 0), (5, .o 1), (6, .y false)] [.box 190 (c190 a1) false, .box 110 (c110 a3) false], .sum [1, 3, 5, 6, 51, 52, 53] [0, 1] (.exit 0) [(1, .j a2), (3, .o 0), (5, .o 1), (6, .y false)] [.box 190 (c190 a1) false, .box 110 (c110 a3) false], .cut [1, 3, 5, 6] [0, 1] .nor [(1, .j a2), (3, .o 0), (5, .o 1), (6, .y false)] [.box 190 (c190 a1) false, .box 110 (c110 a3) false], .t] (pc (k_names_judge_port_J1 h17)<|pc (k_names_judge_port_L2 _ _ h26)<|pc (k_names_judge_port_J3 h32)<|pc h34<|pn)
    ·obtain ⟨r35, h36, h⟩ := bo h
     obtain ⟨h37, h⟩|⟨h37, h⟩ := ite_out h
     ·obtain ⟨x38, h39, h⟩ := bo h
      obtain ⟨h40, h⟩|⟨h40, h⟩ := ite_out h
      ·obtain rfl := oi h; exact rf Tryz.func129 none [.skp, .cut [1, 3, 5, 6] [0, 1] .nor [(1, .j a2), (3, .o 0), (5, .o 1), (6, .y false)] [.box 190 (c190 a1) false, .box 110 (c110 a3) false], .sum [1, 3, 5, 6, 51, 52, 53] [0, 1] (.exit 0) [(1, .j a2), (3, .o 0), (5, .o 1), (6, .y false)] [.box 190 (c190 a1) false, .box 110 (c110 a3) false], .cut [1, 3, 5, 6] [0, 1] .nor [(1, .j a2), (3, .o 0), (5, .o 1), (6, .y false)] [.box 190 (c190 a1) false, .box 110 (c110 a3) false], .f, .b r35, .t, .row (c174 x38), .t] (pc (k_names_judge_port_J1 h17)<|pc (k_names_judge_port_L2 _ _ h26)<|pc (k_names_judge_port_J3 h32)<|pc h34<|pc (k_names_place_Link h36)<|pc h37<|pc (ob174 h39)<|pc h40<|pn)
      ·obtain ⟨x41, h42, h⟩ := bo h
       obtain rfl := oi h; exact rf Tryz.func129 none [.skp, .cut [1, 3, 5, 6] [0, 1] .nor [(1, .j a2), (3, .o 0), (5, .o 1), (6, .y false)] [.box 190 (c190 a1) false, .box 110 (c110 a3) false], .sum [1, 3, 5, 6, 51, 52, 53] [0, 1] (.exit 0) [(1, .j a2), (3, .o 0), (5, .o 1), (6, .y false)] [.box 190 (c190 a1) false, .box 110 (c110 a3) false], .cut [1, 3, 5, 6] [0, 1] .nor [(1, .j a2), (3, .o 0), (5, .o 1), (6, .y false)] [.box 190 (c190 a1) false, .box 110 (c110 a3) false], .f, .b r35, .t, .row (c174 x38), .f, .row (c174 x41)] (pc (k_names_judge_port_J1 h17)<|pc (k_names_judge_port_L2 _ _ h26)<|pc (k_names_judge_port_J3 h32)<|pc h34<|pc (k_names_place_Link h36)<|pc h37<|pc (ob174 h39)<|pc h40<|pc (ob174 h42)<|pn)
     ·obtain rfl := oi h; exact rf Tryz.func129 none [.skp, .cut [1, 3, 5, 6] [0, 1] .nor [(1, .j a2), (3, .o 0), (5, .o 1), (6, .y false)] [.box 190 (c190 a1) false, .box 110 (c110 a3) false], .sum [1, 3, 5, 6, 51, 52, 53] [0, 1] (.exit 0) [(1, .j a2), (3, .o 0), (5, .o 1), (6, .y false)] [.box 190 (c190 a1) false, .box 110 (c110 a3) false], .cut [1, 3, 5, 6] [0, 1] .nor [(1, .j a2), (3, .o 0), (5, .o 1), (6, .y false)] [.box 190 (c190 a1) false, .box 110 (c110 a3) false], .f, .b r35, .f] (pc (k_names_judge_port_J1 h17)<|pc (k_names_judge_port_L2 _ _ h26)<|pc (k_names_judge_port_J3 h32)<|pc h34<|pc (k_names_place_Link h36)<|pc h37<|pn)

theorem k_names_all_Port_judge_port_L1 {a1 : List Api_Port} {a2 : Names_judge} : LoopOK Tryz.prog UU 0 20 (subC (codeOf Tryz.f128) [1, 0, 1, 0, 0]) (ρ := Unit ⊕ Unit) (names_all_Port_judge_port_L1 a1 a2)
  (fun v3 : Int => ([(1, .fn (.func 129) [.agg (c190 a2)] []), (4, .y false), (7, .sl 110 a1), (8, .j (a1.length : Int)), (9, .j v3)] : Fr DD)) (fun v3 : Int => ([] : Heap DD)) (fun r => match r with | Sum.inl _ => .ret | Sum.inr _ => .exit 0) (fun r => match r with | Sum.inl _ => [(4, .y false)] | Sum.inr _ => [(4, .y false)]) (fun r => match r with | Sum.inl _ => [] | Sum.inr _ => []) := by
 refine loop_sound3 (fun s q h => ?_) (fun r => ?_)
 ·replace h : names_all_Port_judge_port_L1 a1 a2 s = some q := h; revert h; revert s; intro v3 h
  unfold names_all_Port_judge_port_L1 at h
  obtain ⟨h4, h⟩|⟨h4, h⟩ := ite_out h
  ·obtain ⟨x5, h6, h⟩ := bo h
   obtain ⟨r7, h8, h⟩ := bo h
   obtain ⟨h9, h⟩|⟨h9, h⟩ := ite_out h
   ·obtain rfl := oi h; exact rl [4] [] [.t, .row (c110 x5), .b r7, .t] (pc h4<|pc (ob110 h6)<|pc (k_names_judge_port h8)<|pc h9<|pn)
   ·obtain rfl := oi h; exact rl [1, 4, 7, 8, 9] [] [.t, .row (c110 x5), .b r7, .f] (pc h4<|pc (ob110 h6)<|pc (k_names_judge_port h8)<|pc h9<|pn)
  ·obtain rfl := oi h; exact rl [4] [] [.f] (pc h4<|pn)
 ·rcases r with _ | _ <;> exact Ex.noConfusion

theorem k_names_all_Port_judge_port {a1 : List Api_Port} {a2 : Names_judge} {r : Bool} (h : names_all_Port_judge_port a1 a2 = some r) :
  CallsOK Tryz.prog UU 128 [.sl 110 a1, .fn (.func 129) [.agg (c190 a2)] []] [] (.y r) [] := by
 unfold names_all_Port_judge_port at h
 obtain ⟨r11, h10, h⟩ := bo h
 rcases r11 with _ | _
 ·obtain rfl := oi h; exact rf Tryz.func128 none [.sum [1, 4, 7, 8, 9] [] .ret [(4, .y false)] []] (pc (k_names_all_Port_judge_port_L1 _ _ h10)<|pn)
 ·obtain rfl := oi h; exact rf Tryz.func128 none [.sum [1, 4, 7, 8, 9] [] (.exit 0) [(4, .y false)] []] (pc (k_names_all_Port_judge_port_L1 _ _ h10)<|pn)

theorem k_names_place_Port {a1 : List Api_Port} {a2 : Int} {r : Bool} (h : names_place_Port a1 a2 = some r) :
  CallsOK Tryz.prog UU 199 [.sl 110 a1, .j a2] [] (.y r) [] := by
 unfold names_place_Port at h
 obtain ⟨h3, h⟩|⟨h3, h⟩ := ite_out h
 ·obtain rfl := oi h; exact rf Tryz.func199 none [.t] (pc h3<|pn)
 ·obtain rfl := oi h; exact rf Tryz.func199 none [.f] (pc h3<|pn)

theorem k_names_judge_link {a1 : Names_judge} {a2 : Int} {a3 : Api_Link} {r : Bool} (h : names_judge_link a1 a2 a3 = some r) :
  CallsOK Tryz.prog UU 131 [.agg (c190 a1), .j a2, .agg (c174 a3)] [] (.y r) [] := by
 unfold names_judge_link at h
 obtain ⟨r4, h5, h⟩ := bo h
 obtain ⟨h6, h⟩|⟨h6, h⟩ := ite_out h
 ·obtain rfl := oi h; exact rf Tryz.func131 none [.b r4, .t] (pc (k_names_place_Port h5)<|pc h6<|pn)
 ·obtain ⟨r7, h8, h⟩ := bo h
  obtain ⟨h9, h⟩|⟨h9, h⟩ := ite_out h
  ·obtain rfl := oi h; exact rf Tryz.func131 none [.b r4, .f, .b r7, .t] (pc (k_names_place_Port h5)<|pc h6<|pc (k_names_place_Port h8)<|pc h9<|pn)
  ·obtain ⟨x10, h11, h⟩ := bo h
   obtain ⟨x12, h13, h⟩ := bo h
   obtain ⟨h14, h⟩|⟨h14, h⟩ := ite_out h
   ·obtain ⟨h15, h⟩|⟨h15, h⟩ := ite_out h
    ·obtain rfl := oi h; exact rf Tryz.func131 none [.b r4, .f, .b r7, .f, .row (c110 x10), .row (c110 x12), .t, .t] (pc (k_names_place_Port h5)<|pc h6<|pc (k_names_place_Port h8)<|pc h9<|pc (ob110 h11)<|pc (ob110 h13)<|pc h14<|pc h15<|pn)
    ·obtain rfl := oi h; exact rf Tryz.func131 none [.b r4, .f, .b r7, .f, .row (c110 x10), .row (c110 x12), .t, .f] (pc (k_names_place_Port h5)<|pc h6<|pc (k_names_place_Port h8)<|pc h9<|pc (ob110 h11)<|pc (ob110 h13)<|pc h14<|pc h15<|pn)
   ·obtain rfl := oi h; exact rf Tryz.func131 none [.b r4, .f, .b r7, .f, .row (c110 x10), .row (c110 x12), .f] (pc (k_names_place_Port h5)<|pc h6<|pc (k_names_place_Port h8)<|pc h9<|pc (ob110 h11)<|pc (ob110 h13)<|pc h14<|pn)

theorem k_names_all_Link_judge_link_L1 {a1 : List Api_Link} {a2 : Names_judge} : LoopOK Tryz.prog UU 0 20 (subC (codeOf Tryz.f130) [1, 0, 1, 0, 0]) (ρ := Unit ⊕ Unit) (names_all_Link_judge_link_L1 a1 a2)
  (fun v3 : Int => ([(1, .fn (.func 131) [.agg (c190 a2)] []), (4, .y false), (7, .sl 174 a1), (8, .j (a1.length : Int)), (9, .j v3)] : Fr DD)) (fun v3 : Int => ([] : Heap DD)) (fun r => match r with | Sum.inl _ => .ret | Sum.inr _ => .exit 0) (fun r => match r with | Sum.inl _ => [(4, .y false)] | Sum.inr _ => [(4, .y false)]) (fun r => match r with | Sum.inl _ => [] | Sum.inr _ => []) := by
 refine loop_sound3 (fun s q h => ?_) (fun r => ?_)
 ·replace h : names_all_Link_judge_link_L1 a1 a2 s = some q := h; revert h; revert s; intro v3 h
  unfold names_all_Link_judge_link_L1 at h
  obtain ⟨h4, h⟩|⟨h4, h⟩ := ite_out h
  ·obtain ⟨x5, h6, h⟩ := bo h
   obtain ⟨r7, h8, h⟩ := bo h
   obtain ⟨h9, h⟩|⟨h9, h⟩ := ite_out h
   ·obtain rfl := oi h; exact rl [4] [] [.t, .row (c174 x5), .b r7, .t] (pc h4<|pc (ob174 h6)<|pc (k_names_judge_link h8)<|pc h9<|pn)
   ·obtain rfl := oi h; exact rl [1, 4, 7, 8, 9] [] [.t, .row (c174 x5), .b r7, .f] (pc h4<|pc (ob174 h6)<|pc (k_names_judge_link h8)<|pc h9<|pn)
  ·obtain rfl := oi h; exact rl [4] [] [.f] (pc h4<|pn)
 ·rcases r with _ | _ <;> exact Ex.noConfusion

theorem k_names_all_Link_judge_link {a1 : List Api_Link} {a2 : Names_judge} {r : Bool} (h : names_all_Link_judge_link a1 a2 = some r) :
  CallsOK Tryz.prog UU 130 [.sl 174 a1, .fn (.func 131) [.agg (c190 a2)] []] [] (.y r) [] := by
 unfold names_all_Link_judge_link at h
 obtain ⟨r11, h10, h⟩ := bo h
 rcases r11 with _ | _
 ·obtain rfl := oi h; exact rf Tryz.func130 none [.sum [1, 4, 7, 8, 9] [] .ret [(4, .y false)] []] (pc (k_names_all_Link_judge_link_L1 _ _ h10)<|pn)
 ·obtain rfl := oi h; exact rf Tryz.func130 none [.sum [1, 4, 7, 8, 9] [] (.exit 0) [(4, .y false)] []] (pc (k_names_all_Link_judge_link_L1 _ _ h10)<|pn)

theorem k_names_Member {a1 : Api_Port} {a2 : Int} {r : Bool} (h : names_Member a1 a2 = some r) :
  CallsOK Tryz.prog UU 174 [.agg (c110 a1), .j a2] [] (.y r) [] := by
 unfold names_Member at h
 obtain ⟨h3, h⟩|⟨h3, h⟩ := ite_out h
 ·obtain ⟨h4, h⟩|⟨h4, h⟩ := ite_out h
  ·obtain rfl := oi h; exact rf Tryz.func174 none [.t, .t] (pc h3<|pc h4<|pn)
  ·obtain ⟨r5, h6, h⟩ := bo h
   obtain rfl := oi h; exact rf Tryz.func174 none [.t, .f, .b r5] (pc h3<|pc h4<|pc (k_slices_Contains_int h6)<|pn)
 ·obtain rfl := oi h; exact rf Tryz.func174 none [.f] (pc h3<|pn)

theorem k_names_judge_static {a1 : Names_judge} {a2 : Int} {a3 : Api_Static} {r : Bool} (h : names_judge_static a1 a2 a3 = some r) :
  CallsOK Tryz.prog UU 133 [.agg (c190 a1), .j a2, .agg (c178 a3)] [] (.y r) [] := by
 unfold names_judge_static at h
 obtain ⟨r4, h5, h⟩ := bo h
 obtain ⟨h6, h⟩|⟨h6, h⟩ := ite_out h
 ·obtain rfl := oi h; exact rf Tryz.func133 none [.b r4, .t] (pc (k_names_place_Domain h5)<|pc h6<|pn)
 ·obtain ⟨r7, h8, h⟩ := bo h
  obtain ⟨h9, h⟩|⟨h9, h⟩ := ite_out h
  ·obtain rfl := oi h; exact rf Tryz.func133 none [.b r4, .f, .b r7, .t] (pc (k_names_place_Domain h5)<|pc h6<|pc (k_names_place_Port h8)<|pc h9<|pn)
  ·obtain ⟨x10, h11, h⟩ := bo h
   obtain ⟨x12, h13, h⟩ := bo h
   obtain ⟨h14, h⟩|⟨h14, h⟩ := ite_out h
   ·obtain ⟨r15, h16, h⟩ := bo h
    obtain rfl := oi h; exact rf Tryz.func133 none [.b r4, .f, .b r7, .f, .row (c110 x10), .row (c90 x12), .t, .b r15] (pc (k_names_place_Domain h5)<|pc h6<|pc (k_names_place_Port h8)<|pc h9<|pc (ob110 h11)<|pc (ob90 h13)<|pc h14<|pc (k_names_Member h16)<|pn)
   ·obtain rfl := oi h; exact rf Tryz.func133 none [.b r4, .f, .b r7, .f, .row (c110 x10), .row (c90 x12), .f] (pc (k_names_place_Domain h5)<|pc h6<|pc (k_names_place_Port h8)<|pc h9<|pc (ob110 h11)<|pc (ob90 h13)<|pc h14<|pn)

theorem k_names_all_Static_judge_static_L1 {a1 : List Api_Static} {a2 : Names_judge} : LoopOK Tryz.prog UU 0 20 (subC (codeOf Tryz.f132) [1, 0, 1, 0, 0]) (ρ := Unit ⊕ Unit) (names_all_Static_judge_static_L1 a1 a2)
  (fun v3 : Int => ([(1, .fn (.func 133) [.agg (c190 a2)] []), (4, .y false), (7, .sl 178 a1), (8, .j (a1.length : Int)), (9, .j v3)] : Fr DD)) (fun v3 : Int => ([] : Heap DD)) (fun r => match r with | Sum.inl _ => .ret | Sum.inr _ => .exit 0) (fun r => match r with | Sum.inl _ => [(4, .y false)] | Sum.inr _ => [(4, .y false)]) (fun r => match r with | Sum.inl _ => [] | Sum.inr _ => []) := by
 refine loop_sound3 (fun s q h => ?_) (fun r => ?_)
 ·replace h : names_all_Static_judge_static_L1 a1 a2 s = some q := h; revert h; revert s; intro v3 h
  unfold names_all_Static_judge_static_L1 at h
  obtain ⟨h4, h⟩|⟨h4, h⟩ := ite_out h
  ·obtain ⟨x5, h6, h⟩ := bo h
   obtain ⟨r7, h8, h⟩ := bo h
   obtain ⟨h9, h⟩|⟨h9, h⟩ := ite_out h
   ·obtain rfl := oi h; exact rl [4] [] [.t, .row (c178 x5), .b r7, .t] (pc h4<|pc (ob178 h6)<|pc (k_names_judge_static h8)<|pc h9<|pn)
   ·obtain rfl := oi h; exact rl [1, 4, 7, 8, 9] [] [.t, .row (c178 x5), .b r7, .f] (pc h4<|pc (ob178 h6)<|pc (k_names_judge_static h8)<|pc h9<|pn)
  ·obtain rfl := oi h; exact rl [4] [] [.f] (pc h4<|pn)
 ·rcases r with _ | _ <;> exact Ex.noConfusion

theorem k_names_all_Static_judge_static {a1 : List Api_Static} {a2 : Names_judge} {r : Bool} (h : names_all_Static_judge_static a1 a2 = some r) :
  CallsOK Tryz.prog UU 132 [.sl 178 a1, .fn (.func 133) [.agg (c190 a2)] []] [] (.y r) [] := by
 unfold names_all_Static_judge_static at h
 obtain ⟨r11, h10, h⟩ := bo h
 rcases r11 with _ | _
 ·obtain rfl := oi h; exact rf Tryz.func132 none [.sum [1, 4, 7, 8, 9] [] .ret [(4, .y false)] []] (pc (k_names_all_Static_judge_static_L1 _ _ h10)<|pn)
 ·obtain rfl := oi h; exact rf Tryz.func132 none [.sum [1, 4, 7, 8, 9] [] (.exit 0) [(4, .y false)] []] (pc (k_names_all_Static_judge_static_L1 _ _ h10)<|pn)

theorem k_names_Right_1 {a1 : Int} {a2 : Api_Flood} {a3 : Api_Net} {r : Bool} (h : names_Right_1 a1 a2 a3 = some r) :
  CallsOK Tryz.prog UU 135 [.j a1, .agg (c113 a2), .rp (c31 a3) 0] [] (.y r) [] := by
 unfold names_Right_1 at h
 obtain ⟨r4, h5, h⟩ := bo h
 obtain ⟨h6, h⟩|⟨h6, h⟩ := ite_out h
 ·obtain rfl := oi h; exact rf Tryz.func135 none [.b r4, .t] (pc (k_names_place_Device h5)<|pc h6<|pn)
 ·obtain rfl := oi h; exact rf Tryz.func135 none [.b r4, .f] (pc (k_names_place_Device h5)<|pc h6<|pn)

theorem k_names_all_Flood_Right_1_L1 {a1 : List Api_Flood} {a2 : Api_Net} : LoopOK Tryz.prog UU 0 20 (subC (codeOf Tryz.f134) [1, 0, 1, 0, 0]) (ρ := Unit ⊕ Unit) (names_all_Flood_Right_1_L1 a1 a2)
  (fun v3 : Int => ([(1, .fn (.func 135) [] [.rp (c31 a2) 0]), (4, .y false), (7, .sl 113 a1), (8, .j (a1.length : Int)), (9, .j v3)] : Fr DD)) (fun v3 : Int => ([] : Heap DD)) (fun r => match r with | Sum.inl _ => .ret | Sum.inr _ => .exit 0) (fun r => match r with | Sum.inl _ => [(4, .y false)] | Sum.inr _ => [(4, .y false)]) (fun r => match r with | Sum.inl _ => [] | Sum.inr _ => []) := by
 refine loop_sound3 (fun s q h => ?_) (fun r => ?_)
 ·replace h : names_all_Flood_Right_1_L1 a1 a2 s = some q := h; revert h; revert s; intro v3 h
  unfold names_all_Flood_Right_1_L1 at h
  obtain ⟨h4, h⟩|⟨h4, h⟩ := ite_out h
  ·obtain ⟨x5, h6, h⟩ := bo h
   obtain ⟨r7, h8, h⟩ := bo h
   obtain ⟨h9, h⟩|⟨h9, h⟩ := ite_out h
   ·obtain rfl := oi h; exact rl [4] [] [.t, .row (c113 x5), .b r7, .t] (pc h4<|pc (ob113 h6)<|pc (k_names_Right_1 h8)<|pc h9<|pn)
   ·obtain rfl := oi h; exact rl [1, 4, 7, 8, 9] [] [.t, .row (c113 x5), .b r7, .f] (pc h4<|pc (ob113 h6)<|pc (k_names_Right_1 h8)<|pc h9<|pn)
  ·obtain rfl := oi h; exact rl [4] [] [.f] (pc h4<|pn)
 ·rcases r with _ | _ <;> exact Ex.noConfusion

theorem k_names_all_Flood_Right_1 {a1 : List Api_Flood} {a2 : Api_Net} {r : Bool} (h : names_all_Flood_Right_1 a1 a2 = some r) :
  CallsOK Tryz.prog UU 134 [.sl 113 a1, .fn (.func 135) [] [.rp (c31 a2) 0]] [] (.y r) [] := by
 unfold names_all_Flood_Right_1 at h
 obtain ⟨r11, h10, h⟩ := bo h
 rcases r11 with _ | _
 ·obtain rfl := oi h; exact rf Tryz.func134 none [.sum [1, 4, 7, 8, 9] [] .ret [(4, .y false)] []] (pc (k_names_all_Flood_Right_1_L1 _ _ h10)<|pn)
 ·obtain rfl := oi h; exact rf Tryz.func134 none [.sum [1, 4, 7, 8, 9] [] (.exit 0) [(4, .y false)] []] (pc (k_names_all_Flood_Right_1_L1 _ _ h10)<|pn)

theorem k_names_Right_2 {a1 : Int} {a2 : Api_Vrf} {a3 : Api_Net} {r : Bool} (h : names_Right_2 a1 a2 a3 = some r) :
  CallsOK Tryz.prog UU 138 [.j a1, .agg (c88 a2), .rp (c31 a3) 0] [] (.y r) [] := by
 unfold names_Right_2 at h
 obtain ⟨r4, h5, h⟩ := bo h
 obtain ⟨h6, h⟩|⟨h6, h⟩ := ite_out h
 ·obtain ⟨r7, h8, h⟩ := bo h
  obtain ⟨h9, h⟩|⟨h9, h⟩ := ite_out h
  ·obtain ⟨r10, h11, h⟩ := bo h
   obtain rfl := oi h; exact rf Tryz.func138 none [.b r4, .t, .b r7, .t, .b r10] (pc (k_names_place_Device h5)<|pc h6<|pc (k_names_rising h8)<|pc h9<|pc (k_names_rising h11)<|pn)
  ·obtain rfl := oi h; exact rf Tryz.func138 none [.b r4, .t, .b r7, .f] (pc (k_names_place_Device h5)<|pc h6<|pc (k_names_rising h8)<|pc h9<|pn)
 ·obtain rfl := oi h; exact rf Tryz.func138 none [.b r4, .f] (pc (k_names_place_Device h5)<|pc h6<|pn)

theorem k_names_all_Vrf_Right_2_L1 {a1 : List Api_Vrf} {a2 : Api_Net} : LoopOK Tryz.prog UU 0 20 (subC (codeOf Tryz.f137) [1, 0, 1, 0, 0]) (ρ := Unit ⊕ Unit) (names_all_Vrf_Right_2_L1 a1 a2)
  (fun v3 : Int => ([(1, .fn (.func 138) [] [.rp (c31 a2) 0]), (4, .y false), (7, .sl 88 a1), (8, .j (a1.length : Int)), (9, .j v3)] : Fr DD)) (fun v3 : Int => ([] : Heap DD)) (fun r => match r with | Sum.inl _ => .ret | Sum.inr _ => .exit 0) (fun r => match r with | Sum.inl _ => [(4, .y false)] | Sum.inr _ => [(4, .y false)]) (fun r => match r with | Sum.inl _ => [] | Sum.inr _ => []) := by
 refine loop_sound3 (fun s q h => ?_) (fun r => ?_)
 ·replace h : names_all_Vrf_Right_2_L1 a1 a2 s = some q := h; revert h; revert s; intro v3 h
  unfold names_all_Vrf_Right_2_L1 at h
  obtain ⟨h4, h⟩|⟨h4, h⟩ := ite_out h
  ·obtain ⟨x5, h6, h⟩ := bo h
   obtain ⟨r7, h8, h⟩ := bo h
   obtain ⟨h9, h⟩|⟨h9, h⟩ := ite_out h
   ·obtain rfl := oi h; exact rl [4] [] [.t, .row (c88 x5), .b r7, .t] (pc h4<|pc (ob88 h6)<|pc (k_names_Right_2 h8)<|pc h9<|pn)
   ·obtain rfl := oi h; exact rl [1, 4, 7, 8, 9] [] [.t, .row (c88 x5), .b r7, .f] (pc h4<|pc (ob88 h6)<|pc (k_names_Right_2 h8)<|pc h9<|pn)
  ·obtain rfl := oi h; exact rl [4] [] [.f] (pc h4<|pn)
 ·rcases r with _ | _ <;> exact Ex.noConfusion

theorem k_names_all_Vrf_Right_2 {a1 : List Api_Vrf} {a2 : Api_Net} {r : Bool} (h : names_all_Vrf_Right_2 a1 a2 = some r) :
  CallsOK Tryz.prog UU 137 [.sl 88 a1, .fn (.func 138) [] [.rp (c31 a2) 0]] [] (.y r) [] := by
 unfold names_all_Vrf_Right_2 at h
 obtain ⟨r11, h10, h⟩ := bo h
 rcases r11 with _ | _
 ·obtain rfl := oi h; exact rf Tryz.func137 none [.sum [1, 4, 7, 8, 9] [] .ret [(4, .y false)] []] (pc (k_names_all_Vrf_Right_2_L1 _ _ h10)<|pn)
 ·obtain rfl := oi h; exact rf Tryz.func137 none [.sum [1, 4, 7, 8, 9] [] (.exit 0) [(4, .y false)] []] (pc (k_names_all_Vrf_Right_2_L1 _ _ h10)<|pn)

theorem k_names_place_Vrf {a1 : List Api_Vrf} {a2 : Int} {r : Bool} (h : names_place_Vrf a1 a2 = some r) :
  CallsOK Tryz.prog UU 201 [.sl 88 a1, .j a2] [] (.y r) [] := by
 unfold names_place_Vrf at h
 obtain ⟨h3, h⟩|⟨h3, h⟩ := ite_out h
 ·obtain rfl := oi h; exact rf Tryz.func201 none [.t] (pc h3<|pn)
 ·obtain rfl := oi h; exact rf Tryz.func201 none [.f] (pc h3<|pn)

theorem k_names_judge_irb {a1 : Names_judge} {a2 : Int} {a3 : Api_Irb} {r : Bool} (h : names_judge_irb a1 a2 a3 = some r) :
  CallsOK Tryz.prog UU 141 [.agg (c190 a1), .j a2, .agg (c105 a3)] [] (.y r) [] := by
 unfold names_judge_irb at h
 obtain ⟨r4, h5, h⟩ := bo h
 obtain ⟨h6, h⟩|⟨h6, h⟩ := ite_out h
 ·obtain ⟨r7, h8, h⟩ := bo h
  obtain ⟨h9, h⟩|⟨h9, h⟩ := ite_out h
  ·obtain ⟨x10, h11, h⟩ := bo h
   obtain ⟨x12, h13, h⟩ := bo h
   obtain ⟨h14, h⟩|⟨h14, h⟩ := ite_out h
   ·obtain ⟨x15, h16, h⟩ := bo h
    obtain ⟨h17, h⟩|⟨h17, h⟩ := ite_out h
    ·obtain ⟨h18, h⟩|⟨h18, h⟩ := ite_out h
     ·obtain rfl := oi h; exact rf Tryz.func141 none [.b r4, .t, .b r7, .t, .row (c90 x10), .row (c88 x12), .t, .row (c90 x15), .t, .t] (pc (k_names_place_Domain h5)<|pc h6<|pc (k_names_place_Vrf h8)<|pc h9<|pc (ob90 h11)<|pc (ob88 h13)<|pc h14<|pc (ob90 h16)<|pc h17<|pc h18<|pn)
     ·obtain rfl := oi h; exact rf Tryz.func141 none [.b r4, .t, .b r7, .t, .row (c90 x10), .row (c88 x12), .t, .row (c90 x15), .t, .f] (pc (k_names_place_Domain h5)<|pc h6<|pc (k_names_place_Vrf h8)<|pc h9<|pc (ob90 h11)<|pc (ob88 h13)<|pc h14<|pc (ob90 h16)<|pc h17<|pc h18<|pn)
    ·obtain rfl := oi h; exact rf Tryz.func141 none [.b r4, .t, .b r7, .t, .row (c90 x10), .row (c88 x12), .t, .row (c90 x15), .f] (pc (k_names_place_Domain h5)<|pc h6<|pc (k_names_place_Vrf h8)<|pc h9<|pc (ob90 h11)<|pc (ob88 h13)<|pc h14<|pc (ob90 h16)<|pc h17<|pn)
   ·obtain rfl := oi h; exact rf Tryz.func141 none [.b r4, .t, .b r7, .t, .row (c90 x10), .row (c88 x12), .f] (pc (k_names_place_Domain h5)<|pc h6<|pc (k_names_place_Vrf h8)<|pc h9<|pc (ob90 h11)<|pc (ob88 h13)<|pc h14<|pn)
  ·obtain rfl := oi h; exact rf Tryz.func141 none [.b r4, .t, .b r7, .f] (pc (k_names_place_Domain h5)<|pc h6<|pc (k_names_place_Vrf h8)<|pc h9<|pn)
 ·obtain rfl := oi h; exact rf Tryz.func141 none [.b r4, .f] (pc (k_names_place_Domain h5)<|pc h6<|pn)

theorem k_names_all_Irb_judge_irb_L1 {a1 : List Api_Irb} {a2 : Names_judge} : LoopOK Tryz.prog UU 0 20 (subC (codeOf Tryz.f140) [1, 0, 1, 0, 0]) (ρ := Unit ⊕ Unit) (names_all_Irb_judge_irb_L1 a1 a2)
  (fun v3 : Int => ([(1, .fn (.func 141) [.agg (c190 a2)] []), (4, .y false), (7, .sl 105 a1), (8, .j (a1.length : Int)), (9, .j v3)] : Fr DD)) (fun v3 : Int => ([] : Heap DD)) (fun r => match r with | Sum.inl _ => .ret | Sum.inr _ => .exit 0) (fun r => match r with | Sum.inl _ => [(4, .y false)] | Sum.inr _ => [(4, .y false)]) (fun r => match r with | Sum.inl _ => [] | Sum.inr _ => []) := by
 refine loop_sound3 (fun s q h => ?_) (fun r => ?_)
 ·replace h : names_all_Irb_judge_irb_L1 a1 a2 s = some q := h; revert h; revert s; intro v3 h
  unfold names_all_Irb_judge_irb_L1 at h
  obtain ⟨h4, h⟩|⟨h4, h⟩ := ite_out h
  ·obtain ⟨x5, h6, h⟩ := bo h
   obtain ⟨r7, h8, h⟩ := bo h
   obtain ⟨h9, h⟩|⟨h9, h⟩ := ite_out h
   ·obtain rfl := oi h; exact rl [4] [] [.t, .row (c105 x5), .b r7, .t] (pc h4<|pc (ob105 h6)<|pc (k_names_judge_irb h8)<|pc h9<|pn)
   ·obtain rfl := oi h; exact rl [1, 4, 7, 8, 9] [] [.t, .row (c105 x5), .b r7, .f] (pc h4<|pc (ob105 h6)<|pc (k_names_judge_irb h8)<|pc h9<|pn)
  ·obtain rfl := oi h; exact rl [4] [] [.f] (pc h4<|pn)
 ·rcases r with _ | _ <;> exact Ex.noConfusion

theorem k_names_all_Irb_judge_irb {a1 : List Api_Irb} {a2 : Names_judge} {r : Bool} (h : names_all_Irb_judge_irb a1 a2 = some r) :
  CallsOK Tryz.prog UU 140 [.sl 105 a1, .fn (.func 141) [.agg (c190 a2)] []] [] (.y r) [] := by
 unfold names_all_Irb_judge_irb at h
 obtain ⟨r11, h10, h⟩ := bo h
 rcases r11 with _ | _
 ·obtain rfl := oi h; exact rf Tryz.func140 none [.sum [1, 4, 7, 8, 9] [] .ret [(4, .y false)] []] (pc (k_names_all_Irb_judge_irb_L1 _ _ h10)<|pn)
 ·obtain rfl := oi h; exact rf Tryz.func140 none [.sum [1, 4, 7, 8, 9] [] (.exit 0) [(4, .y false)] []] (pc (k_names_all_Irb_judge_irb_L1 _ _ h10)<|pn)

theorem k_names_Right {a1 : Api_Net} {r : Bool} (h : names_Right a1 = some r) :
  CallsOK Tryz.prog UU 59 [.agg (c31 a1)] [] (.y r) [] := by
 unfold names_Right at h
 obtain ⟨r2, h3, h⟩ := bo h
 obtain ⟨h4, h⟩|⟨h4, h⟩ := ite_out h
 ·obtain ⟨r5, h6, h⟩ := bo h
  obtain ⟨h7, h⟩|⟨h7, h⟩ := ite_out h
  ·obtain ⟨r8, h9, h⟩ := bo h
   obtain ⟨h10, h⟩|⟨h10, h⟩ := ite_out h
   ·obtain ⟨r11, h12, h⟩ := bo h
    obtain ⟨h13, h⟩|⟨h13, h⟩ := ite_out h
    ·obtain ⟨r14, h15, h⟩ := bo h
     obtain ⟨h16, h⟩|⟨h16, h⟩ := ite_out h
     ·obtain ⟨r17, h18, h⟩ := bo h
      obtain ⟨h19, h⟩|⟨h19, h⟩ := ite_out h
      ·obtain ⟨r20, h21, h⟩ := bo h
       obtain ⟨h22, h⟩|⟨h22, h⟩ := ite_out h
       ·obtain ⟨r23, h24, h⟩ := bo h
        obtain ⟨h25, h⟩|⟨h25, h⟩ := ite_out h
        ·obtain ⟨r26, h27, h⟩ := bo h
         obtain rfl := oi h; exact rf Tryz.func59 none [.b r2, .t, .b r5, .t, .b r8, .t, .b r11, .t, .b r14, .t, .b r17, .t, .b r20, .t, .b r23, .t, .b r26] (pc (k_names_judge_few h3)<|pc h4<|pc (k_names_all_Domain_judge_bare h6)<|pc h7<|pc (k_names_all_Domain_judge_peers h9)<|pc h10<|pc (k_names_all_Port_judge_port h12)<|pc h13<|pc (k_names_all_Link_judge_link h15)<|pc h16<|pc (k_names_all_Static_judge_static h18)<|pc h19<|pc (k_names_all_Flood_Right_1 h21)<|pc h22<|pc (k_names_all_Vrf_Right_2 h24)<|pc h25<|pc (k_names_all_Irb_judge_irb h27)<|pn)
        ·obtain rfl := oi h; exact rf Tryz.func59 none [.b r2, .t, .b r5, .t, .b r8, .t, .b r11, .t, .b r14, .t, .b r17, .t, .b r20, .t, .b r23, .f] (pc (k_names_judge_few h3)<|pc h4<|pc (k_names_all_Domain_judge_bare h6)<|pc h7<|pc (k_names_all_Domain_judge_peers h9)<|pc h10<|pc (k_names_all_Port_judge_port h12)<|pc h13<|pc (k_names_all_Link_judge_link h15)<|pc h16<|pc (k_names_all_Static_judge_static h18)<|pc h19<|pc (k_names_all_Flood_Right_1 h21)<|pc h22<|pc (k_names_all_Vrf_Right_2 h24)<|pc h25<|pn)
       ·obtain rfl := oi h; exact rf Tryz.func59 none [.b r2, .t, .b r5, .t, .b r8, .t, .b r11, .t, .b r14, .t, .b r17, .t, .b r20, .f] (pc (k_names_judge_few h3)<|pc h4<|pc (k_names_all_Domain_judge_bare h6)<|pc h7<|pc (k_names_all_Domain_judge_peers h9)<|pc h10<|pc (k_names_all_Port_judge_port h12)<|pc h13<|pc (k_names_all_Link_judge_link h15)<|pc h16<|pc (k_names_all_Static_judge_static h18)<|pc h19<|pc (k_names_all_Flood_Right_1 h21)<|pc h22<|pn)
      ·obtain rfl := oi h; exact rf Tryz.func59 none [.b r2, .t, .b r5, .t, .b r8, .t, .b r11, .t, .b r14, .t, .b r17, .f] (pc (k_names_judge_few h3)<|pc h4<|pc (k_names_all_Domain_judge_bare h6)<|pc h7<|pc (k_names_all_Domain_judge_peers h9)<|pc h10<|pc (k_names_all_Port_judge_port h12)<|pc h13<|pc (k_names_all_Link_judge_link h15)<|pc h16<|pc (k_names_all_Static_judge_static h18)<|pc h19<|pn)
     ·obtain rfl := oi h; exact rf Tryz.func59 none [.b r2, .t, .b r5, .t, .b r8, .t, .b r11, .t, .b r14, .f] (pc (k_names_judge_few h3)<|pc h4<|pc (k_names_all_Domain_judge_bare h6)<|pc h7<|pc (k_names_all_Domain_judge_peers h9)<|pc h10<|pc (k_names_all_Port_judge_port h12)<|pc h13<|pc (k_names_all_Link_judge_link h15)<|pc h16<|pn)
    ·obtain rfl := oi h; exact rf Tryz.func59 none [.b r2, .t, .b r5, .t, .b r8, .t, .b r11, .f] (pc (k_names_judge_few h3)<|pc h4<|pc (k_names_all_Domain_judge_bare h6)<|pc h7<|pc (k_names_all_Domain_judge_peers h9)<|pc h10<|pc (k_names_all_Port_judge_port h12)<|pc h13<|pn)
   ·obtain rfl := oi h; exact rf Tryz.func59 none [.b r2, .t, .b r5, .t, .b r8, .f] (pc (k_names_judge_few h3)<|pc h4<|pc (k_names_all_Domain_judge_bare h6)<|pc h7<|pc (k_names_all_Domain_judge_peers h9)<|pc h10<|pn)
  ·obtain rfl := oi h; exact rf Tryz.func59 none [.b r2, .t, .b r5, .f] (pc (k_names_judge_few h3)<|pc h4<|pc (k_names_all_Domain_judge_bare h6)<|pc h7<|pn)
 ·obtain rfl := oi h; exact rf Tryz.func59 none [.b r2, .f] (pc (k_names_judge_few h3)<|pc h4<|pn)

theorem k_owners_Right_L1 {a1 : Api_Net} {a2 : List Int} : LoopOK Tryz.prog UU 0 51 (subC (codeOf Tryz.f94) [1, 1, 0, 1, 0, 0]) (ρ := Unit ⊕ Unit) (owners_Right_L1 a1 a2)
  (fun v7 : Int => ([(2, .o 0), (4, .y false), (19, .sl 3 a2), (20, .j (a2.length : Int)), (21, .j v7)] : Fr DD)) (fun v7 : Int => ([.box 31 (c31 a1) false] : Heap DD)) (fun r => match r with | Sum.inl _ => .ret | Sum.inr _ => .exit 0) (fun r => match r with | Sum.inl _ => [(4, .y false)] | Sum.inr _ => [(4, .y false)]) (fun r => match r with | Sum.inl _ => [] | Sum.inr _ => []) := by
 refine loop_sound3 (fun s q h => ?_) (fun r => ?_)
 ·replace h : owners_Right_L1 a1 a2 s = some q := h; revert h; revert s; intro v7 h
  unfold owners_Right_L1 at h
  obtain ⟨h8, h⟩|⟨h8, h⟩ := ite_out h
  ·obtain ⟨x9, h10, h⟩ := bo h
   obtain ⟨x11, h12, h⟩ := bo h
   obtain ⟨h13, h⟩|⟨h13, h⟩ := ite_out h
   ·obtain ⟨h14, h⟩|⟨h14, h⟩ := ite_out h
    ·obtain rfl := oi h; exact rl [4] [] [.t, .row (c3 x9), .row (c110 x11), .t, .t] (pc h8<|pc (ob3 h10)<|pc (ob110 h12)<|pc h13<|pc h14<|pn)
    ·obtain ⟨h15, h⟩|⟨h15, h⟩ := ite_out h
     ·obtain ⟨h16, h⟩|⟨h16, h⟩ := ite_out h
      ·obtain rfl := oi h; exact rl [4] [] [.t, .row (c3 x9), .row (c110 x11), .t, .f, .t, .t] (pc h8<|pc (ob3 h10)<|pc (ob110 h12)<|pc h13<|pc h14<|pc h15<|pc h16<|pn)
      ·obtain ⟨h17, h⟩|⟨h17, h⟩ := ite_out h
       ·obtain rfl := oi h; exact rl [4] [] [.t, .row (c3 x9), .row (c110 x11), .t, .f, .t, .f, .t] (pc h8<|pc (ob3 h10)<|pc (ob110 h12)<|pc h13<|pc h14<|pc h15<|pc h16<|pc h17<|pn)
       ·obtain rfl := oi h; exact rl [2, 4, 19, 20, 21] [0] [.t, .row (c3 x9), .row (c110 x11), .t, .f, .t, .f, .f] (pc h8<|pc (ob3 h10)<|pc (ob110 h12)<|pc h13<|pc h14<|pc h15<|pc h16<|pc h17<|pn)
     ·obtain rfl := oi h; exact rl [2, 4, 19, 20, 21] [0] [.t, .row (c3 x9), .row (c110 x11), .t, .f, .f] (pc h8<|pc (ob3 h10)<|pc (ob110 h12)<|pc h13<|pc h14<|pc h15<|pn)
   ·obtain ⟨h18, h⟩|⟨h18, h⟩ := ite_out h
    ·obtain ⟨h19, h⟩|⟨h19, h⟩ := ite_out h
     ·obtain rfl := oi h; exact rl [4] [] [.t, .row (c3 x9), .row (c110 x11), .f, .t, .t] (pc h8<|pc (ob3 h10)<|pc (ob110 h12)<|pc h13<|pc h18<|pc h19<|pn)
     ·obtain ⟨h20, h⟩|⟨h20, h⟩ := ite_out h
      ·obtain rfl := oi h; exact rl [4] [] [.t, .row (c3 x9), .row (c110 x11), .f, .t, .f, .t] (pc h8<|pc (ob3 h10)<|pc (ob110 h12)<|pc h13<|pc h18<|pc h19<|pc h20<|pn)
      ·obtain rfl := oi h; exact rl [2, 4, 19, 20, 21] [0] [.t, .row (c3 x9), .row (c110 x11), .f, .t, .f, .f] (pc h8<|pc (ob3 h10)<|pc (ob110 h12)<|pc h13<|pc h18<|pc h19<|pc h20<|pn)
    ·obtain rfl := oi h; exact rl [2, 4, 19, 20, 21] [0] [.t, .row (c3 x9), .row (c110 x11), .f, .f] (pc h8<|pc (ob3 h10)<|pc (ob110 h12)<|pc h13<|pc h18<|pn)
  ·obtain rfl := oi h; exact rl [4] [] [.f] (pc h8<|pn)
 ·rcases r with _ | _ <;> exact Ex.noConfusion

theorem k_owners_Right {a1 : Api_Net} {a2 : List Int} {r : Bool} (h : owners_Right a1 a2 = some r) :
  CallsOK Tryz.prog UU 94 [.agg (c31 a1), .sl 3 a2] [] (.y r) [] := by
 unfold owners_Right at h
 obtain ⟨h3, h⟩|⟨h3, h⟩ := ite_out h
 ·obtain rfl := oi h; exact rf Tryz.func94 none [.t] (pc h3<|pn)
 ·obtain ⟨r4, h5, h⟩ := bo h
  obtain ⟨h6, h⟩|⟨h6, h⟩ := ite_out h
  ·obtain rfl := oi h; exact rf Tryz.func94 none [.f, .b r4, .t] (pc h3<|pc (k_names_Right h5)<|pc h6<|pn)
  ·obtain ⟨r22, h21, h⟩ := bo h
   rcases r22 with _ | _
   ·obtain rfl := oi h; exact rf Tryz.func94 none [.f, .b r4, .f, .sum [2, 4, 19, 20, 21] [0] .ret [(4, .y false)] []] (pc h3<|pc (k_names_Right h5)<|pc h6<|pc (k_owners_Right_L1 _ _ h21)<|pn)
   ·obtain rfl := oi h; exact rf Tryz.func94 none [.f, .b r4, .f, .sum [2, 4, 19, 20, 21] [0] (.exit 0) [(4, .y false)] []] (pc h3<|pc (k_names_Right h5)<|pc h6<|pc (k_owners_Right_L1 _ _ h21)<|pn)

theorem k_matrix_fits_1 {a1 : Int} {a2 : Int} {r : Bool} (h : matrix_fits_1 a1 a2 = some r) :
  CallsOK Tryz.prog UU 154 [.j a1, .rp (c3 a2) 0] [] (.y r) [] := by
 unfold matrix_fits_1 at h
 obtain rfl := oi h; exact rf Tryz.func154 none [] (pn)

theorem k_slices_IndexFunc_int_fits_1_L1 {a1 : List Int} {a2 : Int} : LoopOK Tryz.prog UU 0 19 (subC (codeOf Tryz.f178) [1, 0, 1, 0, 0]) (ρ := Int ⊕ Unit) (slices_IndexFunc_int_fits_1_L1 a1 a2)
  (fun v3 : Int => ([(0, .sl 3 a1), (1, .fn (.func 154) [] [.rp (c3 a2) 0]), (4, .z), (7, .j (a1.length : Int)), (8, .j v3)] : Fr DD)) (fun v3 : Int => ([] : Heap DD)) (fun r => match r with | Sum.inl v11 => .ret | Sum.inr _ => .exit 0) (fun r => match r with | Sum.inl v11 => [(4, .j v11)] | Sum.inr _ => [(4, .z)]) (fun r => match r with | Sum.inl v11 => [] | Sum.inr _ => []) := by
 refine loop_sound3 (fun s q h => ?_) (fun r => ?_)
 ·replace h : slices_IndexFunc_int_fits_1_L1 a1 a2 s = some q := h; revert h; revert s; intro v3 h
  unfold slices_IndexFunc_int_fits_1_L1 at h
  obtain ⟨h4, h⟩|⟨h4, h⟩ := ite_out h
  ·obtain ⟨x5, h6, h⟩ := bo h
   obtain ⟨r7, h8, h⟩ := bo h
   obtain ⟨h9, h⟩|⟨h9, h⟩ := ite_out h
   ·obtain rfl := oi h; exact rl [4] [] [.t, .row (c3 x5), .b r7, .t] (pc h4<|pc (ob3 h6)<|pc (k_matrix_fits_1 h8)<|pc h9<|pn)
   ·obtain rfl := oi h; exact rl [0, 1, 4, 7, 8] [] [.t, .row (c3 x5), .b r7, .f] (pc h4<|pc (ob3 h6)<|pc (k_matrix_fits_1 h8)<|pc h9<|pn)
  ·obtain rfl := oi h; exact rl [4] [] [.f] (pc h4<|pn)
 ·rcases r with _ | _ <;> exact Ex.noConfusion

theorem k_slices_IndexFunc_int_fits_1 {a1 : List Int} {a2 : Int} {r : Int} (h : slices_IndexFunc_int_fits_1 a1 a2 = some r) :
  CallsOK Tryz.prog UU 178 [.sl 3 a1, .fn (.func 154) [] [.rp (c3 a2) 0]] [] (.j r) [] := by
 unfold slices_IndexFunc_int_fits_1 at h
 obtain ⟨r13, h12, h⟩ := bo h
 rcases r13 with v11 | _
 ·obtain rfl := oi h; exact rf Tryz.func178 none [.sum [0, 1, 4, 7, 8] [] .ret [(4, .j v11)] []] (pc (k_slices_IndexFunc_int_fits_1_L1 _ _ h12)<|pn)
 ·obtain rfl := oi h; exact rf Tryz.func178 none [.sum [0, 1, 4, 7, 8] [] (.exit 0) [(4, .z)] []] (pc (k_slices_IndexFunc_int_fits_1_L1 _ _ h12)<|pn)

theorem k_slices_ContainsFunc_int_fits_1 {a1 : List Int} {a2 : Int} {r : Bool} (h : slices_ContainsFunc_int_fits_1 a1 a2 = some r) :
  CallsOK Tryz.prog UU 102 [.sl 3 a1, .fn (.func 154) [] [.rp (c3 a2) 0]] [] (.y r) [] := by
 unfold slices_ContainsFunc_int_fits_1 at h
 obtain ⟨r3, h4, h⟩ := bo h
 obtain rfl := oi h; exact rf Tryz.func102 none [.callv (.j r3)] (pc (k_slices_IndexFunc_int_fits_1 h4)<|pn)

theorem k_matrix_fits {a1 : Api_Net} {a2 : List Int} {a3 : Int} {r : Bool} (h : matrix_fits a1 a2 a3 = some r) :
  CallsOK Tryz.prog UU 71 [.agg (c31 a1), .sl 3 a2, .j a3] [] (.y r) [] := by
 unfold matrix_fits at h
 obtain ⟨h4, h⟩|⟨h4, h⟩ := ite_out h
 ·obtain rfl := oi h; exact rf Tryz.func71 none [.t] (pc h4<|pn)
 ·obtain ⟨h5, h⟩|⟨h5, h⟩ := ite_out h
  ·obtain rfl := oi h; exact rf Tryz.func71 none [.f, .t] (pc h4<|pc h5<|pn)
  ·obtain ⟨r6, h7, h⟩ := bo h
   obtain ⟨h8, h⟩|⟨h8, h⟩ := ite_out h
   ·obtain rfl := oi h; exact rf Tryz.func71 none [.f, .f, .b r6, .t] (pc h4<|pc h5<|pc (k_owners_Right h7)<|pc h8<|pn)
   ·obtain ⟨r9, h10, h⟩ := bo h
    obtain rfl := oi h; exact rf Tryz.func71 none [.f, .f, .b r6, .f, .b r9] (pc h4<|pc h5<|pc (k_owners_Right h7)<|pc h8<|pc (k_slices_ContainsFunc_int_fits_1 h10)<|pn)

theorem k_reach_place {a1 : Api_Net} {a2 : Int} {r : Bool} (h : reach_place a1 a2 = some r) :
  CallsOK Tryz.prog UU 212 [.agg (c31 a1), .j a2] [] (.y r) [] := by
 unfold reach_place at h
 obtain ⟨h3, h⟩|⟨h3, h⟩ := ite_out h
 ·obtain ⟨h4, h⟩|⟨h4, h⟩ := ite_out h
  ·obtain ⟨r5, h6, h⟩ := bo h
   obtain rfl := oi h; exact rf Tryz.func212 none [.t, .t, .b r5] (pc h3<|pc h4<|pc (k_names_Right h6)<|pn)
  ·obtain rfl := oi h; exact rf Tryz.func212 none [.t, .f] (pc h3<|pc h4<|pn)
 ·obtain rfl := oi h; exact rf Tryz.func212 none [.f] (pc h3<|pn)

theorem k_names_Members_L1 {a1 : Api_Net} {a2 : Int} : LoopOK Tryz.prog UU 0 51 (subC (codeOf Tryz.f98) [1, 1, 1, 0, 1, 0, 0]) (fun s : (List Int) × Int => match s with | (l9, v10) => names_Members_L1 a1 a2 l9 v10)
  (fun s : (List Int) × Int => (match s with | (l9, v10) => [(1, .j a2), (2, .o 0), (4, .os 1 0), (5, .os 2 l9.length), (19, .sl 110 a1.ports), (20, .j (a1.ports.length : Int)), (21, .j v10)] : Fr DD)) (fun s : (List Int) × Int => (match s with | (l9, v10) => [.box 31 (c31 a1) false, .n 3, .w 3 l9] : Heap DD)) (fun r => match r with | l25 => .exit 0) (fun r => match r with | l25 => [(4, .os 0 0), (5, .os 1 l25.length)]) (fun r => match r with | l25 => [.n 3, .w 3 l25]) := by
 refine loop_sound3 (fun s q h => ?_) (fun r => ?_)
 ·obtain ⟨l9, v10⟩ := s; replace h : names_Members_L1 a1 a2 l9 v10 = some q := h
  unfold names_Members_L1 at h
  obtain ⟨h11, h⟩|⟨h11, h⟩ := ite_out h
  ·obtain ⟨x12, h13, h⟩ := bo h
   obtain ⟨x14, h15, h⟩ := bo h
   obtain ⟨h16, h⟩|⟨h16, h⟩ := ite_out h
   ·obtain ⟨x17, h18, h⟩ := bo h
    obtain ⟨r19, h20, h⟩ := bo h
    obtain ⟨h21, h⟩|⟨h21, h⟩ := ite_out h
    ·obtain ⟨h22, h⟩|⟨h22, h⟩ := ite_out h
     ·obtain rfl := oi h; exact rl [1, 2, 4, 5, 19, 20, 21] [0, 1, 2] [.t, .row (c110 x12), .row (c90 x14), .t, .row (c90 x17), .b r19, .t, .obj [] (.w 3 [v10]), .obj [] (.w 3 (l9 ++ [v10]))] (pc h11<|pc (ob110 h13)<|pc (ob90 h15)<|pc h16<|pc (ob90 h18)<|pc (k_names_Member h20)<|pc h21<|pc (bs_ob 3 [v10])<|pc (app_ob 3 (n := l9.length) (l := l9) (xs := [v10]) h22)<|pc (rn (List.length [v10]))<|pn)
     ·cases h
    ·obtain rfl := oi h; exact rl [1, 2, 4, 5, 19, 20, 21] [0, 1, 2] [.t, .row (c110 x12), .row (c90 x14), .t, .row (c90 x17), .b r19, .f] (pc h11<|pc (ob110 h13)<|pc (ob90 h15)<|pc h16<|pc (ob90 h18)<|pc (k_names_Member h20)<|pc h21<|pn)
   ·obtain rfl := oi h; exact rl [1, 2, 4, 5, 19, 20, 21] [0, 1, 2] [.t, .row (c110 x12), .row (c90 x14), .f] (pc h11<|pc (ob110 h13)<|pc (ob90 h15)<|pc h16<|pn)
  ·obtain rfl := oi h; exact rl [4, 5] [1, 2] [.f] (pc h11<|pn)
 ·exact Ex.noConfusion

theorem k_names_Members {a1 : Api_Net} {a2 : Int} {r : ((List Int))} (h : names_Members a1 a2 = some r) :
  CallsOK Tryz.prog UU 98 [.agg (c31 a1), .j a2] [] ((fun r => match r with | l28 => .os 0 l28.length) r) ((fun r => match r with | l28 => [.w 3 l28]) r) := by
 unfold names_Members at h
 obtain ⟨r3, h4, h⟩ := bo h
 obtain ⟨h5, h⟩|⟨h5, h⟩ := ite_out h
 ·obtain rfl := oi h; exact rf Tryz.func98 (some [2]) [.b r3, .t] (pc (k_names_Right h4)<|pc h5<|pn)
 ·obtain ⟨r6, h7, h⟩ := bo h
  obtain ⟨h8, h⟩|⟨h8, h⟩ := ite_out h
  ·obtain rfl := oi h; exact rf Tryz.func98 (some [2]) [.b r3, .f, .b r6, .t] (pc (k_names_Right h4)<|pc h5<|pc (k_names_place_Domain h7)<|pc h8<|pn)
  ·obtain ⟨l25, h26, h⟩ := bo h
   obtain rfl := oi h; exact rf Tryz.func98 (some [1]) [.b r3, .f, .b r6, .f, .sum [1, 2, 4, 5, 19, 20, 21] [0, 1, 2] (.exit 0) [(4, .os 0 0), (5, .os 1 l25.length)] [.n 3, .w 3 l25]] (pc (k_names_Right h4)<|pc h5<|pc (k_names_place_Domain h7)<|pc h8<|pc (k_names_Members_L1 _ _ h26)<|pn)

theorem k_links_Other {a1 : Api_Net} {a2 : Int} {r : Int} (h : links_Other a1 a2 = some r) :
  CallsOK Tryz.prog UU 261 [.agg (c31 a1), .j a2] [] (.j r) [] := by
 unfold links_Other at h
 obtain ⟨h3, h⟩|⟨h3, h⟩ := ite_out h
 ·obtain rfl := oi h; exact rf Tryz.func261 none [.t] (pc h3<|pn)
 ·obtain ⟨h4, h⟩|⟨h4, h⟩ := ite_out h
  ·obtain rfl := oi h; exact rf Tryz.func261 none [.f, .t] (pc h3<|pc h4<|pn)
  ·obtain ⟨x5, h6, h⟩ := bo h
   obtain ⟨h7, h⟩|⟨h7, h⟩ := ite_out h
   ·obtain rfl := oi h; exact rf Tryz.func261 none [.f, .f, .row (c110 x5), .t] (pc h3<|pc h4<|pc (ob110 h6)<|pc h7<|pn)
   ·obtain ⟨r8, h9, h⟩ := bo h
    obtain ⟨h10, h⟩|⟨h10, h⟩ := ite_out h
    ·obtain rfl := oi h; exact rf Tryz.func261 none [.f, .f, .row (c110 x5), .f, .b r8, .t] (pc h3<|pc h4<|pc (ob110 h6)<|pc h7<|pc (k_names_Right h9)<|pc h10<|pn)
    ·obtain ⟨x11, h12, h⟩ := bo h
     obtain ⟨x13, h14, h⟩ := bo h
     obtain ⟨h15, h⟩|⟨h15, h⟩ := ite_out h
     ·obtain rfl := oi h; exact rf Tryz.func261 none [.f, .f, .row (c110 x5), .f, .b r8, .f, .row (c110 x11), .row (c174 x13), .t] (pc h3<|pc h4<|pc (ob110 h6)<|pc h7<|pc (k_names_Right h9)<|pc h10<|pc (ob110 h12)<|pc (ob174 h14)<|pc h15<|pn)
     ·obtain rfl := oi h; exact rf Tryz.func261 none [.f, .f, .row (c110 x5), .f, .b r8, .f, .row (c110 x11), .row (c174 x13), .f] (pc h3<|pc h4<|pc (ob110 h6)<|pc h7<|pc (k_names_Right h9)<|pc h10<|pc (ob110 h12)<|pc (ob174 h14)<|pc h15<|pn)

theorem k_links_Cross {a1 : Api_Net} {a2 : Int} {a3 : Int} {r : Int × Int × Bool} (h : links_Cross a1 a2 a3 = some r) :
  CallsOK Tryz.prog UU 238 [.agg (c31 a1), .j a2, .j a3] [] (.tup [.j r.1, .j r.2.1, .y r.2.2]) [] := by
 unfold links_Cross at h
 obtain ⟨r4, h5, h⟩ := bo h
 obtain ⟨h6, h⟩|⟨h6, h⟩ := ite_out h
 ·obtain rfl := oi h; exact rf Tryz.func238 none [.callv (.j r4), .t] (pc (k_links_Other h5)<|pc h6<|pn)
 ·obtain ⟨x7, h8, h⟩ := bo h
  obtain ⟨r9, h10, h⟩ := bo h
  obtain ⟨h11, h⟩|⟨h11, h⟩ := ite_out h
  ·obtain rfl := oi h; exact rf Tryz.func238 none [.callv (.j r4), .f, .row (c110 x7), .b r9, .t] (pc (k_links_Other h5)<|pc h6<|pc (ob110 h8)<|pc (k_names_Member h10)<|pc h11<|pn)
  ·obtain ⟨x12, h13, h⟩ := bo h
   obtain ⟨x14, h15, h⟩ := bo h
   obtain ⟨h16, h⟩|⟨h16, h⟩ := ite_out h
   ·obtain ⟨h17, h⟩|⟨h17, h⟩ := ite_out h
    ·obtain rfl := oi h; exact rf Tryz.func238 none [.callv (.j r4), .f, .row (c110 x7), .b r9, .f, .row (c110 x12), .row (c110 x14), .t, .t] (pc (k_links_Other h5)<|pc h6<|pc (ob110 h8)<|pc (k_names_Member h10)<|pc h11<|pc (ob110 h13)<|pc (ob110 h15)<|pc h16<|pc h17<|pn)
    ·obtain rfl := oi h; exact rf Tryz.func238 none [.callv (.j r4), .f, .row (c110 x7), .b r9, .f, .row (c110 x12), .row (c110 x14), .t, .f] (pc (k_links_Other h5)<|pc h6<|pc (ob110 h8)<|pc (k_names_Member h10)<|pc h11<|pc (ob110 h13)<|pc (ob110 h15)<|pc h16<|pc h17<|pn)
   ·obtain ⟨r18, h19, h⟩ := bo h
    obtain ⟨h20, h⟩|⟨h20, h⟩ := ite_out h
    ·obtain ⟨h21, h⟩|⟨h21, h⟩ := ite_out h
     ·obtain rfl := oi h; exact rf Tryz.func238 none [.callv (.j r4), .f, .row (c110 x7), .b r9, .f, .row (c110 x12), .row (c110 x14), .f, .b r18, .t, .t] (pc (k_links_Other h5)<|pc h6<|pc (ob110 h8)<|pc (k_names_Member h10)<|pc h11<|pc (ob110 h13)<|pc (ob110 h15)<|pc h16<|pc (k_slices_Contains_int h19)<|pc h20<|pc h21<|pn)
     ·obtain rfl := oi h; exact rf Tryz.func238 none [.callv (.j r4), .f, .row (c110 x7), .b r9, .f, .row (c110 x12), .row (c110 x14), .f, .b r18, .t, .f] (pc (k_links_Other h5)<|pc h6<|pc (ob110 h8)<|pc (k_names_Member h10)<|pc h11<|pc (ob110 h13)<|pc (ob110 h15)<|pc h16<|pc (k_slices_Contains_int h19)<|pc h20<|pc h21<|pn)
    ·obtain ⟨h22, h⟩|⟨h22, h⟩ := ite_out h
     ·obtain rfl := oi h; exact rf Tryz.func238 none [.callv (.j r4), .f, .row (c110 x7), .b r9, .f, .row (c110 x12), .row (c110 x14), .f, .b r18, .f, .t] (pc (k_links_Other h5)<|pc h6<|pc (ob110 h8)<|pc (k_names_Member h10)<|pc h11<|pc (ob110 h13)<|pc (ob110 h15)<|pc h16<|pc (k_slices_Contains_int h19)<|pc h20<|pc h22<|pn)
     ·obtain rfl := oi h; exact rf Tryz.func238 none [.callv (.j r4), .f, .row (c110 x7), .b r9, .f, .row (c110 x12), .row (c110 x14), .f, .b r18, .f, .f] (pc (k_links_Other h5)<|pc h6<|pc (ob110 h8)<|pc (k_names_Member h10)<|pc h11<|pc (ob110 h13)<|pc (ob110 h15)<|pc h16<|pc (k_slices_Contains_int h19)<|pc h20<|pc h22<|pn)

theorem k_names_Domain_1 {a1 : Api_Domain} {a2 : Int} {a3 : Int} {r : Bool} (h : names_Domain_1 a1 a2 a3 = some r) :
  CallsOK Tryz.prog UU 118 [.agg (c90 a1), .rp (c3 a2) 0, .rp (c3 a3) 0] [] (.y r) [] := by
 unfold names_Domain_1 at h
 obtain ⟨h4, h⟩|⟨h4, h⟩ := ite_out h
 ·obtain rfl := oi h; exact rf Tryz.func118 none [.t] (pc h4<|pn)
 ·obtain rfl := oi h; exact rf Tryz.func118 none [.f] (pc h4<|pn)

theorem k_slices_IndexFunc_Domain_Domain_1_L1 {a1 : List Api_Domain} {a2 : Int} {a3 : Int} : LoopOK Tryz.prog UU 0 19 (subC (codeOf Tryz.f144) [1, 0, 1, 0, 0]) (ρ := Int ⊕ Unit) (slices_IndexFunc_Domain_Domain_1_L1 a1 a2 a3)
  (fun v4 : Int => ([(0, .sl 90 a1), (1, .fn (.func 118) [] [.rp (c3 a2) 0, .rp (c3 a3) 0]), (4, .z), (7, .j (a1.length : Int)), (8, .j v4)] : Fr DD)) (fun v4 : Int => ([] : Heap DD)) (fun r => match r with | Sum.inl v12 => .ret | Sum.inr _ => .exit 0) (fun r => match r with | Sum.inl v12 => [(4, .j v12)] | Sum.inr _ => [(4, .z)]) (fun r => match r with | Sum.inl v12 => [] | Sum.inr _ => []) := by
 refine loop_sound3 (fun s q h => ?_) (fun r => ?_)
 ·replace h : slices_IndexFunc_Domain_Domain_1_L1 a1 a2 a3 s = some q := h; revert h; revert s; intro v4 h
  unfold slices_IndexFunc_Domain_Domain_1_L1 at h
  obtain ⟨h5, h⟩|⟨h5, h⟩ := ite_out h
  ·obtain ⟨x6, h7, h⟩ := bo h
   obtain ⟨r8, h9, h⟩ := bo h
   obtain ⟨h10, h⟩|⟨h10, h⟩ := ite_out h
   ·obtain rfl := oi h; exact rl [4] [] [.t, .row (c90 x6), .b r8, .t] (pc h5<|pc (ob90 h7)<|pc (k_names_Domain_1 h9)<|pc h10<|pn)
   ·obtain rfl := oi h; exact rl [0, 1, 4, 7, 8] [] [.t, .row (c90 x6), .b r8, .f] (pc h5<|pc (ob90 h7)<|pc (k_names_Domain_1 h9)<|pc h10<|pn)
  ·obtain rfl := oi h; exact rl [4] [] [.f] (pc h5<|pn)
 ·rcases r with _ | _ <;> exact Ex.noConfusion

theorem k_slices_IndexFunc_Domain_Domain_1 {a1 : List Api_Domain} {a2 : Int} {a3 : Int} {r : Int} (h : slices_IndexFunc_Domain_Domain_1 a1 a2 a3 = some r) :
  CallsOK Tryz.prog UU 144 [.sl 90 a1, .fn (.func 118) [] [.rp (c3 a2) 0, .rp (c3 a3) 0]] [] (.j r) [] := by
 unfold slices_IndexFunc_Domain_Domain_1 at h
 obtain ⟨r14, h13, h⟩ := bo h
 rcases r14 with v12 | _
 ·obtain rfl := oi h; exact rf Tryz.func144 none [.sum [0, 1, 4, 7, 8] [] .ret [(4, .j v12)] []] (pc (k_slices_IndexFunc_Domain_Domain_1_L1 _ _ h13)<|pn)
 ·obtain rfl := oi h; exact rf Tryz.func144 none [.sum [0, 1, 4, 7, 8] [] (.exit 0) [(4, .z)] []] (pc (k_slices_IndexFunc_Domain_Domain_1_L1 _ _ h13)<|pn)

theorem k_names_find_Domain_Domain_1 {a1 : Api_Net} {a2 : List Api_Domain} {a3 : Int} {a4 : Int} {r : Int} (h : names_find_Domain_Domain_1 a1 a2 a3 a4 = some r) :
  CallsOK Tryz.prog UU 117 [.agg (c31 a1), .sl 90 a2, .fn (.func 118) [] [.rp (c3 a3) 0, .rp (c3 a4) 0]] [] (.j r) [] := by
 unfold names_find_Domain_Domain_1 at h
 obtain ⟨r5, h6, h⟩ := bo h
 obtain ⟨h7, h⟩|⟨h7, h⟩ := ite_out h
 ·obtain rfl := oi h; exact rf Tryz.func117 none [.b r5, .t] (pc (k_names_Right h6)<|pc h7<|pn)
 ·obtain ⟨r8, h9, h⟩ := bo h
  obtain rfl := oi h; exact rf Tryz.func117 none [.b r5, .f, .callv (.j r8)] (pc (k_names_Right h6)<|pc h7<|pc (k_slices_IndexFunc_Domain_Domain_1 h9)<|pn)

theorem k_names_Domain {a1 : Api_Net} {a2 : Int} {a3 : Int} {r : Int} (h : names_Domain a1 a2 a3 = some r) :
  CallsOK Tryz.prog UU 49 [.agg (c31 a1), .j a2, .j a3] [] (.j r) [] := by
 unfold names_Domain at h
 obtain ⟨r4, h5, h⟩ := bo h
 obtain rfl := oi h; exact rf Tryz.func49 none [.callv (.j r4)] (pc (k_names_find_Domain_Domain_1 h5)<|pn)

theorem k_links_Domain {a1 : Api_Net} {a2 : Int} {a3 : Int} {r : Int × Bool} (h : links_Domain a1 a2 a3 = some r) :
  CallsOK Tryz.prog UU 213 [.agg (c31 a1), .j a2, .j a3] [] (.tup [.j r.1, .y r.2]) [] := by
 unfold links_Domain at h
 obtain ⟨r4, h5, h⟩ := bo h
 obtain ⟨h6, h⟩|⟨h6, h⟩ := ite_out h
 ·obtain rfl := oi h; exact rf Tryz.func213 none [.callv (.tup [.j r4.1, .j r4.2.1, .y r4.2.2]), .t] (pc (k_links_Cross h5)<|pc h6<|pn)
 ·obtain ⟨x7, h8, h⟩ := bo h
  obtain ⟨r9, h10, h⟩ := bo h
  obtain rfl := oi h; exact rf Tryz.func213 none [.callv (.tup [.j r4.1, .j r4.2.1, .y r4.2.2]), .f, .row (c110 x7), .callv (.j r9)] (pc (k_links_Cross h5)<|pc h6<|pc (ob110 h8)<|pc (k_names_Domain h10)<|pn)

theorem k_reach_Hops_L1 {a1 : Api_Net} {a2 : Int} {l8 : List Int} : LoopOK Tryz.prog UU 0 62 (subC (codeOf Tryz.f176) [1, 1, 1, 0, 1, 0, 0]) (fun s : (List Reach_Hop) × Int => match s with | (l9, v10) => reach_Hops_L1 a1 a2 l8 l9 v10)
  (fun s : (List Reach_Hop) × Int => (match s with | (l9, v10) => [(1, .j a2), (2, .o 0), (4, .os 1 0), (5, .os 2 l9.length), (18, .os 3 l8.length), (19, .j (l8.length : Int)), (20, .j v10)] : Fr DD)) (fun s : (List Reach_Hop) × Int => (match s with | (l9, v10) => [.box 31 (c31 a1) false, .n 161, .w 161 l9, .w 3 l8] : Heap DD)) (fun r => match r with | l25 => .exit 0) (fun r => match r with | l25 => [(1, .j a2), (2, .o 0), (4, .os 1 0), (5, .os 2 l25.length)]) (fun r => match r with | l25 => [.box 31 (c31 a1) false, .n 161, .w 161 l25]) := by
 refine loop_sound3 (fun s q h => ?_) (fun r => ?_)
 ·obtain ⟨l9, v10⟩ := s; replace h : reach_Hops_L1 a1 a2 l8 l9 v10 = some q := h
  unfold reach_Hops_L1 at h
  obtain ⟨h11, h⟩|⟨h11, h⟩ := ite_out h
  ·obtain ⟨h12, h⟩|⟨h12, h⟩ := ite_out h
   ·obtain ⟨x13, h14, h⟩ := bo h
    obtain ⟨x15, h16, h⟩ := bo h
    obtain ⟨r17, h18, h⟩ := bo h
    obtain ⟨h19, h⟩|⟨h19, h⟩ := ite_out h
    ·obtain ⟨h20, h⟩|⟨h20, h⟩ := ite_out h
     ·obtain rfl := oi h; exact rl [1, 2, 4, 5, 18, 19, 20] [0, 1, 2, 3] [.t, .row (c3 x13), .row (c90 x15), .callv (.tup [.j r17.1, .y r17.2]), .t, .obj [] (.w 161 [(⟨1, x13, r17.1, 0⟩ : Reach_Hop)]), .obj [] (.w 161 (l9 ++ [(⟨1, x13, r17.1, 0⟩ : Reach_Hop)]))] (pc h11<|pc (an l8.length (lin_ob h12))<|pc (an l8.length (obn3 h14))<|pc (ob90 h16)<|pc (k_links_Domain h18)<|pc h19<|pc (bs_ob 161 [(⟨1, x13, r17.1, 0⟩ : Reach_Hop)])<|pc (app_ob 161 (n := l9.length) (l := l9) (xs := [(⟨1, x13, r17.1, 0⟩ : Reach_Hop)]) h20)<|pc (rn (List.length [(⟨1, x13, r17.1, 0⟩ : Reach_Hop)]))<|pn)
     ·cases h
    ·obtain rfl := oi h; exact rl [1, 2, 4, 5, 18, 19, 20] [0, 1, 2, 3] [.t, .row (c3 x13), .row (c90 x15), .callv (.tup [.j r17.1, .y r17.2]), .f] (pc h11<|pc (an l8.length (lin_ob h12))<|pc (an l8.length (obn3 h14))<|pc (ob90 h16)<|pc (k_links_Domain h18)<|pc h19<|pn)
   ·cases h
  ·obtain rfl := oi h; exact rl [1, 2, 4, 5] [0, 1, 2] [.f] (pc h11<|pn)
 ·exact Ex.noConfusion

theorem k_reach_Hops_L2 {x28 : Api_Domain} : LoopOK Tryz.prog UU 0 62 (subC (codeOf Tryz.f176) [1, 1, 1, 1, 0, 1, 0, 0]) (fun s : (List Reach_Hop) × Int => match s with | (l30, v31) => reach_Hops_L2 x28 l30 v31)
  (fun s : (List Reach_Hop) × Int => (match s with | (l30, v31) => [(4, .os 0 0), (5, .os 1 l30.length), (49, .sl 3 x28.peers), (50, .j (x28.peers.length : Int)), (51, .j v31)] : Fr DD)) (fun s : (List Reach_Hop) × Int => (match s with | (l30, v31) => [.n 161, .w 161 l30] : Heap DD)) (fun r => match r with | l38 => .exit 2) (fun r => match r with | l38 => [(4, .os 0 0), (5, .os 1 l38.length)]) (fun r => match r with | l38 => [.n 161, .w 161 l38]) := by
 refine loop_sound3 (fun s q h => ?_) (fun r => ?_)
 ·obtain ⟨l30, v31⟩ := s; replace h : reach_Hops_L2 x28 l30 v31 = some q := h
  unfold reach_Hops_L2 at h
  obtain ⟨h32, h⟩|⟨h32, h⟩ := ite_out h
  ·obtain ⟨x33, h34, h⟩ := bo h
   obtain ⟨h35, h⟩|⟨h35, h⟩ := ite_out h
   ·obtain rfl := oi h; exact rl [4, 5, 49, 50, 51] [0, 1] [.t, .row (c3 x33), .obj [] (.w 161 [(⟨2, 0, x33, 0⟩ : Reach_Hop)]), .obj [] (.w 161 (l30 ++ [(⟨2, 0, x33, 0⟩ : Reach_Hop)]))] (pc h32<|pc (ob3 h34)<|pc (bs_ob 161 [(⟨2, 0, x33, 0⟩ : Reach_Hop)])<|pc (app_ob 161 (n := l30.length) (l := l30) (xs := [(⟨2, 0, x33, 0⟩ : Reach_Hop)]) h35)<|pc (rn (List.length [(⟨2, 0, x33, 0⟩ : Reach_Hop)]))<|pn)
   ·cases h
  ·obtain rfl := oi h; exact rl [4, 5] [0, 1] [.f] (pc h32<|pn)
 ·exact Ex.noConfusion

theorem k_reach_Hops {a1 : Api_Net} {a2 : Int} {r : ((List Reach_Hop))} (h : reach_Hops a1 a2 = some r) :
  CallsOK Tryz.prog UU 176 [.agg (c31 a1), .j a2] [] ((fun r => match r with | l41 => .os 0 l41.length) r) ((fun r => match r with | l41 => [.w 161 l41]) r) := by
 unfold reach_Hops at h
 obtain ⟨r3, h4, h⟩ := bo h
 obtain ⟨h5, h⟩|⟨h5, h⟩ := ite_out h
 ·obtain rfl := oi h; exact rf Tryz.func176 (some [2]) [.b r3, .t] (pc (k_reach_place h4)<|pc h5<|pn)
 ·obtain ⟨l8, h7, h⟩ := bo h
  obtain ⟨l25, h26, h⟩ := bo h
  obtain ⟨x28, h29, h⟩ := bo h
  obtain ⟨l38, h39, h⟩ := bo h
  obtain rfl := oi h; exact rf Tryz.func176 (some [1]) [.b r3, .f, .callo (.os 0 l8.length) [.w 3 l8], .sum [1, 2, 4, 5, 18, 19, 20] [0, 1, 2, 3] (.exit 0) [(1, .j a2), (2, .o 0), (4, .os 1 0), (5, .os 2 l25.length)] [.box 31 (c31 a1) false, .n 161, .w 161 l25], .row (c90 x28), .sum [4, 5, 49, 50, 51] [1, 2] (.exit 2) [(4, .os 0 0), (5, .os 1 l38.length)] [.n 161, .w 161 l38]] (pc (k_reach_place h4)<|pc h5<|pc (k_names_Members h7)<|pc (im3 l8)<|pc (rn l8.length)<|pc (k_reach_Hops_L1 _ _ h26)<|pc (ob90 h29)<|pc (k_reach_Hops_L2 _ _ h39)<|pn)

end Go.Eng
