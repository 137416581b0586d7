/- Part of the proof of OverlayPuts: printed mirrors of the functions, or their contracts. No conditions. -/
import Derived.Test.YtgohlmiaddkkeaaGreatMAK2
set_option linter.unusedVariables false
set_option maxRecDepth 100000
namespace Go.Eng
open Go Go.Proofs
theorem k_slices_Equal_int_L1 {a1 : List Int} {a2 : List Int} : LoopOK Tryz.prog UU 0 26 (subC (codeOf Tryz.f113) [1, 1, 0, 1, 0, 0]) (ρ := Unit ⊕ Unit) (slices_Equal_int_L1 a1 a2)
  (fun v4 : Int => ([(0, .sl 3 a1), (1, .sl 3 a2), (4, .y false), (12, .j (a1.length : Int)), (13, .j v4)] : Fr DD)) (fun v4 : Int => ([] : Heap DD)) (fun r => match r with | Sum.inl _ => .ret | Sum.inr _ => .exit 0) (fun r => match r with | Sum.inl _ => [(4, .y false)] | Sum.inr _ => [(4, .y false)]) (fun r => match r with | Sum.inl _ => [] | Sum.inr _ => []) := by
 refine loop_sound3 (fun s q h => ?_) (fun r => ?_)
 ·replace h : slices_Equal_int_L1 a1 a2 s = some q := h; revert h; revert s; intro v4 h
  unfold slices_Equal_int_L1 at h
  obtain ⟨h5, h⟩|⟨h5, h⟩ := ite_out h
  ·obtain ⟨x6, h7, h⟩ := bo h
   obtain ⟨x8, h9, h⟩ := bo h
   obtain ⟨h10, h⟩|⟨h10, h⟩ := ite_out h
   ·obtain rfl := oi h; exact rl [4] [] [.t, .row (c3 x6), .row (c3 x8), .t] (pc h5<|pc (ob3 h7)<|pc (ob3 h9)<|pc h10<|pn)
   ·obtain rfl := oi h; exact rl [0, 1, 4, 12, 13] [] [.t, .row (c3 x6), .row (c3 x8), .f] (pc h5<|pc (ob3 h7)<|pc (ob3 h9)<|pc h10<|pn)
  ·obtain rfl := oi h; exact rl [4] [] [.f] (pc h5<|pn)
 ·rcases r with _ | _ <;> exact Ex.noConfusion

theorem k_slices_Equal_int {a1 : List Int} {a2 : List Int} {r : Bool} (h : slices_Equal_int a1 a2 = some r) :
  CallsOK Tryz.prog UU 113 [.sl 3 a1, .sl 3 a2] [] (.y r) [] := by
 unfold slices_Equal_int at h
 obtain ⟨h3, h⟩|⟨h3, h⟩ := ite_out h
 ·obtain rfl := oi h; exact rf Tryz.func113 none [.t] (pc h3<|pn)
 ·obtain ⟨r12, h11, h⟩ := bo h
  rcases r12 with _ | _
  ·obtain rfl := oi h; exact rf Tryz.func113 none [.f, .sum [0, 1, 4, 12, 13] [] .ret [(4, .y false)] []] (pc h3<|pc (k_slices_Equal_int_L1 _ _ h11)<|pn)
  ·obtain rfl := oi h; exact rf Tryz.func113 none [.f, .sum [0, 1, 4, 12, 13] [] (.exit 0) [(4, .y false)] []] (pc h3<|pc (k_slices_Equal_int_L1 _ _ h11)<|pn)

theorem k_slices_Equal_uint32_L1 {a1 : List Int} {a2 : List Int} : LoopOK Tryz.prog UU 0 26 (subC (codeOf Tryz.f114) [1, 1, 0, 1, 0, 0]) (ρ := Unit ⊕ Unit) (slices_Equal_uint32_L1 a1 a2)
  (fun v4 : Int => ([(0, .sl 33 a1), (1, .sl 33 a2), (4, .y false), (12, .j (a1.length : Int)), (13, .j v4)] : Fr DD)) (fun v4 : Int => ([] : Heap DD)) (fun r => match r with | Sum.inl _ => .ret | Sum.inr _ => .exit 0) (fun r => match r with | Sum.inl _ => [(4, .y false)] | Sum.inr _ => [(4, .y false)]) (fun r => match r with | Sum.inl _ => [] | Sum.inr _ => []) := by
 refine loop_sound3 (fun s q h => ?_) (fun r => ?_)
 ·replace h : slices_Equal_uint32_L1 a1 a2 s = some q := h; revert h; revert s; intro v4 h
  unfold slices_Equal_uint32_L1 at h
  obtain ⟨h5, h⟩|⟨h5, h⟩ := ite_out h
  ·obtain ⟨x6, h7, h⟩ := bo h
   obtain ⟨x8, h9, h⟩ := bo h
   obtain ⟨h10, h⟩|⟨h10, h⟩ := ite_out h
   ·obtain rfl := oi h; exact rl [4] [] [.t, .row (c33 x6), .row (c33 x8), .t] (pc h5<|pc (ob33 h7)<|pc (ob33 h9)<|pc h10<|pn)
   ·obtain rfl := oi h; exact rl [0, 1, 4, 12, 13] [] [.t, .row (c33 x6), .row (c33 x8), .f] (pc h5<|pc (ob33 h7)<|pc (ob33 h9)<|pc h10<|pn)
  ·obtain rfl := oi h; exact rl [4] [] [.f] (pc h5<|pn)
 ·rcases r with _ | _ <;> exact Ex.noConfusion

theorem k_slices_Equal_uint32 {a1 : List Int} {a2 : List Int} {r : Bool} (h : slices_Equal_uint32 a1 a2 = some r) :
  CallsOK Tryz.prog UU 114 [.sl 33 a1, .sl 33 a2] [] (.y r) [] := by
 unfold slices_Equal_uint32 at h
 obtain ⟨h3, h⟩|⟨h3, h⟩ := ite_out h
 ·obtain rfl := oi h; exact rf Tryz.func114 none [.t] (pc h3<|pn)
 ·obtain ⟨r12, h11, h⟩ := bo h
  rcases r12 with _ | _
  ·obtain rfl := oi h; exact rf Tryz.func114 none [.f, .sum [0, 1, 4, 12, 13] [] .ret [(4, .y false)] []] (pc h3<|pc (k_slices_Equal_uint32_L1 _ _ h11)<|pn)
  ·obtain rfl := oi h; exact rf Tryz.func114 none [.f, .sum [0, 1, 4, 12, 13] [] (.exit 0) [(4, .y false)] []] (pc h3<|pc (k_slices_Equal_uint32_L1 _ _ h11)<|pn)

theorem k_stmt_Same {a1 : Api_Line} {a2 : Api_Line} {r : Bool} (h : stmt_Same a1 a2 = some r) :
  CallsOK Tryz.prog UU 80 [.agg (c37 a1), .agg (c37 a2)] [] (.y r) [] := by
 unfold stmt_Same at h
 obtain ⟨h3, h⟩|⟨h3, h⟩ := ite_out h
 ·obtain ⟨h4, h⟩|⟨h4, h⟩ := ite_out h
  ·obtain ⟨h5, h⟩|⟨h5, h⟩ := ite_out h
   ·obtain ⟨h6, h⟩|⟨h6, h⟩ := ite_out h
    ·obtain ⟨h7, h⟩|⟨h7, h⟩ := ite_out h
     ·obtain ⟨h8, h⟩|⟨h8, h⟩ := ite_out h
      ·obtain ⟨h9, h⟩|⟨h9, h⟩ := ite_out h
       ·obtain ⟨h10, h⟩|⟨h10, h⟩ := ite_out h
        ·obtain ⟨h11, h⟩|⟨h11, h⟩ := ite_out h
         ·obtain ⟨h12, h⟩|⟨h12, h⟩ := ite_out h
          ·obtain ⟨h13, h⟩|⟨h13, h⟩ := ite_out h
           ·obtain ⟨h14, h⟩|⟨h14, h⟩ := ite_out h
            ·obtain ⟨h15, h⟩|⟨h15, h⟩ := ite_out h
             ·obtain ⟨r16, h17, h⟩ := bo h
              obtain ⟨h18, h⟩|⟨h18, h⟩ := ite_out h
              ·obtain ⟨r19, h20, h⟩ := bo h
               obtain ⟨h21, h⟩|⟨h21, h⟩ := ite_out h
               ·obtain ⟨r22, h23, h⟩ := bo h
                obtain ⟨h24, h⟩|⟨h24, h⟩ := ite_out h
                ·obtain ⟨r25, h26, h⟩ := bo h
                 obtain rfl := oi h; exact rf Tryz.func80 none [.t, .t, .t, .t, .t, .t, .t, .t, .t, .t, .t, .t, .t, .b r16, .t, .b r19, .t, .b r22, .t, .b r25] (pc h3<|pc h4<|pc h5<|pc h6<|pc h7<|pc h8<|pc h9<|pc h10<|pc h11<|pc h12<|pc h13<|pc h14<|pc h15<|pc (k_slices_Equal_int h17)<|pc h18<|pc (k_slices_Equal_int h20)<|pc h21<|pc (k_slices_Equal_int h23)<|pc h24<|pc (k_slices_Equal_uint32 h26)<|pn)
                ·obtain rfl := oi h; exact rf Tryz.func80 none [.t, .t, .t, .t, .t, .t, .t, .t, .t, .t, .t, .t, .t, .b r16, .t, .b r19, .t, .b r22, .f] (pc h3<|pc h4<|pc h5<|pc h6<|pc h7<|pc h8<|pc h9<|pc h10<|pc h11<|pc h12<|pc h13<|pc h14<|pc h15<|pc (k_slices_Equal_int h17)<|pc h18<|pc (k_slices_Equal_int h20)<|pc h21<|pc (k_slices_Equal_int h23)<|pc h24<|pn)
               ·obtain rfl := oi h; exact rf Tryz.func80 none [.t, .t, .t, .t, .t, .t, .t, .t, .t, .t, .t, .t, .t, .b r16, .t, .b r19, .f] (pc h3<|pc h4<|pc h5<|pc h6<|pc h7<|pc h8<|pc h9<|pc h10<|pc h11<|pc h12<|pc h13<|pc h14<|pc h15<|pc (k_slices_Equal_int h17)<|pc h18<|pc (k_slices_Equal_int h20)<|pc h21<|pn)
              ·obtain rfl := oi h; exact rf Tryz.func80 none [.t, .t, .t, .t, .t, .t, .t, .t, .t, .t, .t, .t, .t, .b r16, .f] (pc h3<|pc h4<|pc h5<|pc h6<|pc h7<|pc h8<|pc h9<|pc h10<|pc h11<|pc h12<|pc h13<|pc h14<|pc h15<|pc (k_slices_Equal_int h17)<|pc h18<|pn)
             ·obtain rfl := oi h; exact rf Tryz.func80 none [.t, .t, .t, .t, .t, .t, .t, .t, .t, .t, .t, .t, .f] (pc h3<|pc h4<|pc h5<|pc h6<|pc h7<|pc h8<|pc h9<|pc h10<|pc h11<|pc h12<|pc h13<|pc h14<|pc h15<|pn)
            ·obtain rfl := oi h; exact rf Tryz.func80 none [.t, .t, .t, .t, .t, .t, .t, .t, .t, .t, .t, .f] (pc h3<|pc h4<|pc h5<|pc h6<|pc h7<|pc h8<|pc h9<|pc h10<|pc h11<|pc h12<|pc h13<|pc h14<|pn)
           ·obtain rfl := oi h; exact rf Tryz.func80 none [.t, .t, .t, .t, .t, .t, .t, .t, .t, .t, .f] (pc h3<|pc h4<|pc h5<|pc h6<|pc h7<|pc h8<|pc h9<|pc h10<|pc h11<|pc h12<|pc h13<|pn)
          ·obtain rfl := oi h; exact rf Tryz.func80 none [.t, .t, .t, .t, .t, .t, .t, .t, .t, .f] (pc h3<|pc h4<|pc h5<|pc h6<|pc h7<|pc h8<|pc h9<|pc h10<|pc h11<|pc h12<|pn)
         ·obtain rfl := oi h; exact rf Tryz.func80 none [.t, .t, .t, .t, .t, .t, .t, .t, .f] (pc h3<|pc h4<|pc h5<|pc h6<|pc h7<|pc h8<|pc h9<|pc h10<|pc h11<|pn)
        ·obtain rfl := oi h; exact rf Tryz.func80 none [.t, .t, .t, .t, .t, .t, .t, .f] (pc h3<|pc h4<|pc h5<|pc h6<|pc h7<|pc h8<|pc h9<|pc h10<|pn)
       ·obtain rfl := oi h; exact rf Tryz.func80 none [.t, .t, .t, .t, .t, .t, .f] (pc h3<|pc h4<|pc h5<|pc h6<|pc h7<|pc h8<|pc h9<|pn)
      ·obtain rfl := oi h; exact rf Tryz.func80 none [.t, .t, .t, .t, .t, .f] (pc h3<|pc h4<|pc h5<|pc h6<|pc h7<|pc h8<|pn)
     ·obtain rfl := oi h; exact rf Tryz.func80 none [.t, .t, .t, .t, .f] (pc h3<|pc h4<|pc h5<|pc h6<|pc h7<|pn)
    ·obtain rfl := oi h; exact rf Tryz.func80 none [.t, .t, .t, .f] (pc h3<|pc h4<|pc h5<|pc h6<|pn)
   ·obtain rfl := oi h; exact rf Tryz.func80 none [.t, .t, .f] (pc h3<|pc h4<|pc h5<|pn)
  ·obtain rfl := oi h; exact rf Tryz.func80 none [.t, .f] (pc h3<|pc h4<|pn)
 ·obtain rfl := oi h; exact rf Tryz.func80 none [.f] (pc h3<|pn)

theorem k_stmt_Right {a1 : Api_Line} {r : Bool} (h : stmt_Right a1 = some r) :
  CallsOK Tryz.prog UU 50 [.agg (c37 a1)] [] (.y r) [] := by
 unfold stmt_Right at h
 obtain ⟨r2, h3, h⟩ := bo h
 obtain ⟨r4, r5⟩ := r2
 obtain ⟨h6, h⟩|⟨h6, h⟩ := ite_out h
 ·obtain ⟨r7, h8, h⟩ := bo h
  obtain ⟨h9, h⟩|⟨h9, h⟩ := ite_out h
  ·obtain ⟨r10, h11, h⟩ := bo h
   obtain rfl := oi h; exact rf Tryz.func50 none [.callm [] (.tup [.agg (c37 r4), .y r5]) [], .t, .b r7, .t, .b r10] (pc (k_stmt_used h3)<|pc h6<|pc (k_num_Name h8)<|pc h9<|pc (k_stmt_Same h11)<|pn)
  ·obtain rfl := oi h; exact rf Tryz.func50 none [.callm [] (.tup [.agg (c37 r4), .y r5]) [], .t, .b r7, .f] (pc (k_stmt_used h3)<|pc h6<|pc (k_num_Name h8)<|pc h9<|pn)
 ·obtain rfl := oi h; exact rf Tryz.func50 none [.callm [] (.tup [.agg (c37 r4), .y r5]) [], .f] (pc (k_stmt_used h3)<|pc h6<|pn)

theorem k_names_judge_few {a1 : Names_judge} {r : Bool} (h : names_judge_few a1 = some r) :
  CallsOK Tryz.prog UU 81 [.agg (c120 a1)] [] (.y r) [] := by
 unfold names_judge_few at h
 obtain ⟨h2, h⟩|⟨h2, h⟩ := ite_out h
 ·obtain ⟨h3, h⟩|⟨h3, h⟩ := ite_out h
  ·obtain ⟨h4, h⟩|⟨h4, h⟩ := ite_out h
   ·obtain ⟨h5, h⟩|⟨h5, h⟩ := ite_out h
    ·obtain ⟨h6, h⟩|⟨h6, h⟩ := ite_out h
     ·obtain ⟨h7, h⟩|⟨h7, h⟩ := ite_out h
      ·obtain ⟨h8, h⟩|⟨h8, h⟩ := ite_out h
       ·obtain rfl := oi h; exact rf Tryz.func81 none [.t, .t, .t, .t, .t, .t, .t] (pc h2<|pc h3<|pc h4<|pc h5<|pc h6<|pc h7<|pc h8<|pn)
       ·obtain rfl := oi h; exact rf Tryz.func81 none [.t, .t, .t, .t, .t, .t, .f] (pc h2<|pc h3<|pc h4<|pc h5<|pc h6<|pc h7<|pc h8<|pn)
      ·obtain rfl := oi h; exact rf Tryz.func81 none [.t, .t, .t, .t, .t, .f] (pc h2<|pc h3<|pc h4<|pc h5<|pc h6<|pc h7<|pn)
     ·obtain rfl := oi h; exact rf Tryz.func81 none [.t, .t, .t, .t, .f] (pc h2<|pc h3<|pc h4<|pc h5<|pc h6<|pn)
    ·obtain rfl := oi h; exact rf Tryz.func81 none [.t, .t, .t, .f] (pc h2<|pc h3<|pc h4<|pc h5<|pn)
   ·obtain rfl := oi h; exact rf Tryz.func81 none [.t, .t, .f] (pc h2<|pc h3<|pc h4<|pn)
  ·obtain rfl := oi h; exact rf Tryz.func81 none [.t, .f] (pc h2<|pc h3<|pn)
 ·obtain rfl := oi h; exact rf Tryz.func81 none [.f] (pc h2<|pn)

theorem k_names_place_Device {a1 : List Api_Device} {a2 : Int} {r : Bool} (h : names_place_Device a1 a2 = some r) :
  CallsOK Tryz.prog UU 93 [.sl 56 a1, .j a2] [] (.y r) [] := by
 unfold names_place_Device at h
 obtain ⟨h3, h⟩|⟨h3, h⟩ := ite_out h
 ·obtain rfl := oi h; exact rf Tryz.func93 none [.t] (pc h3<|pn)
 ·obtain rfl := oi h; exact rf Tryz.func93 none [.f] (pc h3<|pn)

theorem k_names_judge_domain_1 {a1 : Api_Domain} {a2 : Int} {a3 : Int} {r : Bool} (h : names_judge_domain_1 a1 a2 a3 = some r) :
  CallsOK Tryz.prog UU 147 [.agg (c50 a1), .rp (c3 a2) 0, .rp (c3 a3) 0] [] (.y r) [] := by
 unfold names_judge_domain_1 at h
 obtain ⟨h4, h⟩|⟨h4, h⟩ := ite_out h
 ·obtain rfl := oi h; exact rf Tryz.func147 none [.t] (pc h4<|pn)
 ·obtain rfl := oi h; exact rf Tryz.func147 none [.f] (pc h4<|pn)

theorem k_slices_IndexFunc_Domain_judge_domain_1_L1 {a1 : List Api_Domain} {a2 : Int} {a3 : Int} : LoopOK Tryz.prog UU 0 19 (subC (codeOf Tryz.f73) [1, 0, 1, 0, 0]) (ρ := Int ⊕ Unit) (slices_IndexFunc_Domain_judge_domain_1_L1 a1 a2 a3)
  (fun v4 : Int => ([(0, .sl 50 a1), (1, .fn (.func 147) [] [.rp (c3 a2) 0, .rp (c3 a3) 0]), (4, .z), (7, .j (a1.length : Int)), (8, .j v4)] : Fr DD)) (fun v4 : Int => ([] : Heap DD)) (fun r => match r with | Sum.inl v12 => .ret | Sum.inr _ => .exit 0) (fun r => match r with | Sum.inl v12 => [(4, .j v12)] | Sum.inr _ => [(4, .z)]) (fun r => match r with | Sum.inl v12 => [] | Sum.inr _ => []) := by
 refine loop_sound3 (fun s q h => ?_) (fun r => ?_)
 ·replace h : slices_IndexFunc_Domain_judge_domain_1_L1 a1 a2 a3 s = some q := h; revert h; revert s; intro v4 h
  unfold slices_IndexFunc_Domain_judge_domain_1_L1 at h
  obtain ⟨h5, h⟩|⟨h5, h⟩ := ite_out h
  ·obtain ⟨x6, h7, h⟩ := bo h
   obtain ⟨r8, h9, h⟩ := bo h
   obtain ⟨h10, h⟩|⟨h10, h⟩ := ite_out h
   ·obtain rfl := oi h; exact rl [4] [] [.t, .row (c50 x6), .b r8, .t] (pc h5<|pc (ob50 h7)<|pc (k_names_judge_domain_1 h9)<|pc h10<|pn)
   ·obtain rfl := oi h; exact rl [0, 1, 4, 7, 8] [] [.t, .row (c50 x6), .b r8, .f] (pc h5<|pc (ob50 h7)<|pc (k_names_judge_domain_1 h9)<|pc h10<|pn)
  ·obtain rfl := oi h; exact rl [4] [] [.f] (pc h5<|pn)
 ·rcases r with _ | _ <;> exact Ex.noConfusion

theorem k_slices_IndexFunc_Domain_judge_domain_1 {a1 : List Api_Domain} {a2 : Int} {a3 : Int} {r : Int} (h : slices_IndexFunc_Domain_judge_domain_1 a1 a2 a3 = some r) :
  CallsOK Tryz.prog UU 73 [.sl 50 a1, .fn (.func 147) [] [.rp (c3 a2) 0, .rp (c3 a3) 0]] [] (.j r) [] := by
 unfold slices_IndexFunc_Domain_judge_domain_1 at h
 obtain ⟨r14, h13, h⟩ := bo h
 rcases r14 with v12 | _
 ·obtain rfl := oi h; exact rf Tryz.func73 none [.sum [0, 1, 4, 7, 8] [] .ret [(4, .j v12)] []] (pc (k_slices_IndexFunc_Domain_judge_domain_1_L1 _ _ h13)<|pn)
 ·obtain rfl := oi h; exact rf Tryz.func73 none [.sum [0, 1, 4, 7, 8] [] (.exit 0) [(4, .z)] []] (pc (k_slices_IndexFunc_Domain_judge_domain_1_L1 _ _ h13)<|pn)

theorem k_names_judge_domain {a1 : Names_judge} {a2 : Int} {a3 : Int} {r : Int} (h : names_judge_domain a1 a2 a3 = some r) :
  CallsOK Tryz.prog UU 116 [.agg (c120 a1), .j a2, .j a3] [] (.j r) [] := by
 unfold names_judge_domain at h
 obtain ⟨r4, h5, h⟩ := bo h
 obtain rfl := oi h; exact rf Tryz.func116 none [.callv (.j r4)] (pc (k_slices_IndexFunc_Domain_judge_domain_1 h5)<|pn)

theorem k_names_place_Irb {a1 : List Api_Irb} {a2 : Int} {r : Bool} (h : names_place_Irb a1 a2 = some r) :
  CallsOK Tryz.prog UU 115 [.sl 99 a1, .j a2] [] (.y r) [] := by
 unfold names_place_Irb at h
 obtain ⟨h3, h⟩|⟨h3, h⟩ := ite_out h
 ·obtain rfl := oi h; exact rf Tryz.func115 none [.t] (pc h3<|pn)
 ·obtain rfl := oi h; exact rf Tryz.func115 none [.f] (pc h3<|pn)

theorem k_names_judge_bare {a1 : Names_judge} {a2 : Int} {a3 : Api_Domain} {r : Bool} (h : names_judge_bare a1 a2 a3 = some r) :
  CallsOK Tryz.prog UU 83 [.agg (c120 a1), .j a2, .agg (c50 a3)] [] (.y r) [] := by
 unfold names_judge_bare at h
 obtain ⟨r4, h5, h⟩ := bo h
 obtain ⟨h6, h⟩|⟨h6, h⟩ := ite_out h
 ·obtain ⟨h7, h⟩|⟨h7, h⟩ := ite_out h
  ·obtain ⟨h8, h⟩|⟨h8, h⟩ := ite_out h
   ·obtain ⟨h9, h⟩|⟨h9, h⟩ := ite_out h
    ·obtain ⟨h10, h⟩|⟨h10, h⟩ := ite_out h
     ·obtain ⟨h11, h⟩|⟨h11, h⟩ := ite_out h
      ·obtain ⟨r12, h13, h⟩ := bo h
       obtain rfl := oi h; exact rf Tryz.func83 none [.b r4, .t, .t, .t, .t, .t, .t, .callv (.j r12)] (pc (k_names_place_Device h5)<|pc h6<|pc h7<|pc h8<|pc h9<|pc h10<|pc h11<|pc (k_names_judge_domain h13)<|pn)
      ·obtain ⟨r14, h15, h⟩ := bo h
       obtain ⟨h16, h⟩|⟨h16, h⟩ := ite_out h
       ·obtain ⟨x17, h18, h⟩ := bo h
        obtain ⟨h19, h⟩|⟨h19, h⟩ := ite_out h
        ·obtain ⟨r20, h21, h⟩ := bo h
         obtain rfl := oi h; exact rf Tryz.func83 none [.b r4, .t, .t, .t, .t, .t, .f, .b r14, .t, .row (c99 x17), .t, .callv (.j r20)] (pc (k_names_place_Device h5)<|pc h6<|pc h7<|pc h8<|pc h9<|pc h10<|pc h11<|pc (k_names_place_Irb h15)<|pc h16<|pc (ob99 h18)<|pc h19<|pc (k_names_judge_domain h21)<|pn)
        ·obtain rfl := oi h; exact rf Tryz.func83 none [.b r4, .t, .t, .t, .t, .t, .f, .b r14, .t, .row (c99 x17), .f] (pc (k_names_place_Device h5)<|pc h6<|pc h7<|pc h8<|pc h9<|pc h10<|pc h11<|pc (k_names_place_Irb h15)<|pc h16<|pc (ob99 h18)<|pc h19<|pn)
       ·obtain rfl := oi h; exact rf Tryz.func83 none [.b r4, .t, .t, .t, .t, .t, .f, .b r14, .f] (pc (k_names_place_Device h5)<|pc h6<|pc h7<|pc h8<|pc h9<|pc h10<|pc h11<|pc (k_names_place_Irb h15)<|pc h16<|pn)
     ·obtain rfl := oi h; exact rf Tryz.func83 none [.b r4, .t, .t, .t, .t, .f] (pc (k_names_place_Device h5)<|pc h6<|pc h7<|pc h8<|pc h9<|pc h10<|pn)
    ·obtain rfl := oi h; exact rf Tryz.func83 none [.b r4, .t, .t, .t, .f] (pc (k_names_place_Device h5)<|pc h6<|pc h7<|pc h8<|pc h9<|pn)
   ·obtain rfl := oi h; exact rf Tryz.func83 none [.b r4, .t, .t, .f] (pc (k_names_place_Device h5)<|pc h6<|pc h7<|pc h8<|pn)
  ·obtain rfl := oi h; exact rf Tryz.func83 none [.b r4, .t, .f] (pc (k_names_place_Device h5)<|pc h6<|pc h7<|pn)
 ·obtain rfl := oi h; exact rf Tryz.func83 none [.b r4, .f] (pc (k_names_place_Device h5)<|pc h6<|pn)

theorem k_names_all_Domain_judge_bare_L1 {a1 : List Api_Domain} {a2 : Names_judge} : LoopOK Tryz.prog UU 0 20 (subC (codeOf Tryz.f82) [1, 0, 1, 0, 0]) (ρ := Unit ⊕ Unit) (names_all_Domain_judge_bare_L1 a1 a2)
  (fun v3 : Int => ([(1, .fn (.func 83) [.agg (c120 a2)] []), (4, .y false), (7, .sl 50 a1), (8, .j (a1.length : Int)), (9, .j v3)] : Fr DD)) (fun v3 : Int => ([] : Heap DD)) (fun r => match r with | Sum.inl _ => .ret | Sum.inr _ => .exit 0) (fun r => match r with | Sum.inl _ => [(4, .y false)] | Sum.inr _ => [(4, .y false)]) (fun r => match r with | Sum.inl _ => [] | Sum.inr _ => []) := by
 refine loop_sound3 (fun s q h => ?_) (fun r => ?_)
 ·replace h : names_all_Domain_judge_bare_L1 a1 a2 s = some q := h; revert h; revert s; intro v3 h
  unfold names_all_Domain_judge_bare_L1 at h
  obtain ⟨h4, h⟩|⟨h4, h⟩ := ite_out h
  ·obtain ⟨x5, h6, h⟩ := bo h
   obtain ⟨r7, h8, h⟩ := bo h
   obtain ⟨h9, h⟩|⟨h9, h⟩ := ite_out h
   ·obtain rfl := oi h; exact rl [4] [] [.t, .row (c50 x5), .b r7, .t] (pc h4<|pc (ob50 h6)<|pc (k_names_judge_bare h8)<|pc h9<|pn)
   ·obtain rfl := oi h; exact rl [1, 4, 7, 8, 9] [] [.t, .row (c50 x5), .b r7, .f] (pc h4<|pc (ob50 h6)<|pc (k_names_judge_bare h8)<|pc h9<|pn)
  ·obtain rfl := oi h; exact rl [4] [] [.f] (pc h4<|pn)
 ·rcases r with _ | _ <;> exact Ex.noConfusion

theorem k_names_all_Domain_judge_bare {a1 : List Api_Domain} {a2 : Names_judge} {r : Bool} (h : names_all_Domain_judge_bare a1 a2 = some r) :
  CallsOK Tryz.prog UU 82 [.sl 50 a1, .fn (.func 83) [.agg (c120 a2)] []] [] (.y r) [] := by
 unfold names_all_Domain_judge_bare at h
 obtain ⟨r11, h10, h⟩ := bo h
 rcases r11 with _ | _
 ·obtain rfl := oi h; exact rf Tryz.func82 none [.sum [1, 4, 7, 8, 9] [] .ret [(4, .y false)] []] (pc (k_names_all_Domain_judge_bare_L1 _ _ h10)<|pn)
 ·obtain rfl := oi h; exact rf Tryz.func82 none [.sum [1, 4, 7, 8, 9] [] (.exit 0) [(4, .y false)] []] (pc (k_names_all_Domain_judge_bare_L1 _ _ h10)<|pn)

theorem k_names_place_Domain {a1 : List Api_Domain} {a2 : Int} {r : Bool} (h : names_place_Domain a1 a2 = some r) :
  CallsOK Tryz.prog UU 124 [.sl 50 a1, .j a2] [] (.y r) [] := by
 unfold names_place_Domain at h
 obtain ⟨h3, h⟩|⟨h3, h⟩ := ite_out h
 ·obtain rfl := oi h; exact rf Tryz.func124 none [.t] (pc h3<|pn)
 ·obtain rfl := oi h; exact rf Tryz.func124 none [.f] (pc h3<|pn)

theorem k_names_judge_vtep {a1 : Names_judge} {a2 : Api_Domain} {r : Bool} (h : names_judge_vtep a1 a2 = some r) :
  CallsOK Tryz.prog UU 148 [.agg (c120 a1), .agg (c50 a2)] [] (.y r) [] := by
 unfold names_judge_vtep at h
 obtain ⟨x3, h4, h⟩ := bo h
 obtain rfl := oi h; exact rf Tryz.func148 none [.row (c56 x3)] (pc (ob56 h4)<|pn)

theorem k_names_judge_peer {a1 : Names_judge} {a2 : Int} {a3 : Api_Domain} {a4 : Int} {r : Bool} (h : names_judge_peer a1 a2 a3 a4 = some r) :
  CallsOK Tryz.prog UU 119 [.agg (c120 a1), .j a2, .agg (c50 a3), .j a4] [] (.y r) [] := by
 unfold names_judge_peer at h
 obtain ⟨r5, h6, h⟩ := bo h
 obtain ⟨h7, h⟩|⟨h7, h⟩ := ite_out h
 ·obtain rfl := oi h; exact rf Tryz.func119 none [.b r5, .t] (pc (k_names_place_Domain h6)<|pc h7<|pn)
 ·obtain ⟨h8, h⟩|⟨h8, h⟩ := ite_out h
  ·obtain rfl := oi h; exact rf Tryz.func119 none [.b r5, .f, .t] (pc (k_names_place_Domain h6)<|pc h7<|pc h8<|pn)
  ·obtain ⟨x9, h10, h⟩ := bo h
   obtain ⟨r11, h12, h⟩ := bo h
   obtain ⟨h13, h⟩|⟨h13, h⟩ := ite_out h
   ·obtain ⟨h14, h⟩|⟨h14, h⟩ := ite_out h
    ·obtain ⟨h15, h⟩|⟨h15, h⟩ := ite_out h
     ·obtain ⟨h16, h⟩|⟨h16, h⟩ := ite_out h
      ·obtain ⟨r17, h18, h⟩ := bo h
       obtain ⟨h19, h⟩|⟨h19, h⟩ := ite_out h
       ·obtain ⟨r20, h21, h⟩ := bo h
        obtain ⟨h22, h⟩|⟨h22, h⟩ := ite_out h
        ·obtain ⟨r23, h24, h⟩ := bo h
         obtain rfl := oi h; exact rf Tryz.func119 none [.b r5, .f, .f, .row (c50 x9), .b r11, .t, .t, .t, .t, .b r17, .t, .b r20, .t, .b r23] (pc (k_names_place_Domain h6)<|pc h7<|pc h8<|pc (ob50 h10)<|pc (k_names_place_Device h12)<|pc h13<|pc h14<|pc h15<|pc h16<|pc (k_names_judge_vtep h18)<|pc h19<|pc (k_names_judge_vtep h21)<|pc h22<|pc (k_slices_Contains_int h24)<|pn)
        ·obtain rfl := oi h; exact rf Tryz.func119 none [.b r5, .f, .f, .row (c50 x9), .b r11, .t, .t, .t, .t, .b r17, .t, .b r20, .f] (pc (k_names_place_Domain h6)<|pc h7<|pc h8<|pc (ob50 h10)<|pc (k_names_place_Device h12)<|pc h13<|pc h14<|pc h15<|pc h16<|pc (k_names_judge_vtep h18)<|pc h19<|pc (k_names_judge_vtep h21)<|pc h22<|pn)
       ·obtain rfl := oi h; exact rf Tryz.func119 none [.b r5, .f, .f, .row (c50 x9), .b r11, .t, .t, .t, .t, .b r17, .f] (pc (k_names_place_Domain h6)<|pc h7<|pc h8<|pc (ob50 h10)<|pc (k_names_place_Device h12)<|pc h13<|pc h14<|pc h15<|pc h16<|pc (k_names_judge_vtep h18)<|pc h19<|pn)
      ·obtain rfl := oi h; exact rf Tryz.func119 none [.b r5, .f, .f, .row (c50 x9), .b r11, .t, .t, .t, .f] (pc (k_names_place_Domain h6)<|pc h7<|pc h8<|pc (ob50 h10)<|pc (k_names_place_Device h12)<|pc h13<|pc h14<|pc h15<|pc h16<|pn)
     ·obtain rfl := oi h; exact rf Tryz.func119 none [.b r5, .f, .f, .row (c50 x9), .b r11, .t, .t, .f] (pc (k_names_place_Domain h6)<|pc h7<|pc h8<|pc (ob50 h10)<|pc (k_names_place_Device h12)<|pc h13<|pc h14<|pc h15<|pn)
    ·obtain rfl := oi h; exact rf Tryz.func119 none [.b r5, .f, .f, .row (c50 x9), .b r11, .t, .f] (pc (k_names_place_Domain h6)<|pc h7<|pc h8<|pc (ob50 h10)<|pc (k_names_place_Device h12)<|pc h13<|pc h14<|pn)
   ·obtain rfl := oi h; exact rf Tryz.func119 none [.b r5, .f, .f, .row (c50 x9), .b r11, .f] (pc (k_names_place_Domain h6)<|pc h7<|pc h8<|pc (ob50 h10)<|pc (k_names_place_Device h12)<|pc h13<|pn)

theorem k_names_judge_peers_1 {a1 : Int} {a2 : Int} {a3 : Names_judge} {a4 : Int} {a5 : Api_Domain} {r : Bool} (h : names_judge_peers_1 a1 a2 a3 a4 a5 = some r) :
  CallsOK Tryz.prog UU 118 [.j a1, .j a2, .rp (c120 a3) 0, .rp (c3 a4) 0, .rp (c50 a5) 0] [] (.y r) [] := by
 unfold names_judge_peers_1 at h
 obtain ⟨r6, h7, h⟩ := bo h
 obtain ⟨h8, h⟩|⟨h8, h⟩ := ite_out h
 ·obtain ⟨r9, h10, h⟩ := bo h
  obtain rfl := oi h; exact rf Tryz.func118 none [.b r6, .t, .callv (.j r9)] (pc (k_names_judge_peer h7)<|pc h8<|pc (k_slices_Index_int h10)<|pn)
 ·obtain rfl := oi h; exact rf Tryz.func118 none [.b r6, .f] (pc (k_names_judge_peer h7)<|pc h8<|pn)

theorem k_names_all_int_judge_peers_1_L1 {a1 : List Int} {a2 : Names_judge} {a3 : Int} {a4 : Api_Domain} : LoopOK Tryz.prog UU 0 20 (subC (codeOf Tryz.f117) [1, 0, 1, 0, 0]) (ρ := Unit ⊕ Unit) (names_all_int_judge_peers_1_L1 a1 a2 a3 a4)
  (fun v5 : Int => ([(1, .fn (.func 118) [] [.rp (c120 a2) 0, .rp (c3 a3) 0, .rp (c50 a4) 0]), (4, .y false), (7, .sl 3 a1), (8, .j (a1.length : Int)), (9, .j v5)] : Fr DD)) (fun v5 : Int => ([] : Heap DD)) (fun r => match r with | Sum.inl _ => .ret | Sum.inr _ => .exit 0) (fun r => match r with | Sum.inl _ => [(4, .y false)] | Sum.inr _ => [(4, .y false)]) (fun r => match r with | Sum.inl _ => [] | Sum.inr _ => []) := by
 refine loop_sound3 (fun s q h => ?_) (fun r => ?_)
 ·replace h : names_all_int_judge_peers_1_L1 a1 a2 a3 a4 s = some q := h; revert h; revert s; intro v5 h
  unfold names_all_int_judge_peers_1_L1 at h
  obtain ⟨h6, h⟩|⟨h6, h⟩ := ite_out h
  ·obtain ⟨x7, h8, h⟩ := bo h
   obtain ⟨r9, h10, h⟩ := bo h
   obtain ⟨h11, h⟩|⟨h11, h⟩ := ite_out h
   ·obtain rfl := oi h; exact rl [4] [] [.t, .row (c3 x7), .b r9, .t] (pc h6<|pc (ob3 h8)<|pc (k_names_judge_peers_1 h10)<|pc h11<|pn)
   ·obtain rfl := oi h; exact rl [1, 4, 7, 8, 9] [] [.t, .row (c3 x7), .b r9, .f] (pc h6<|pc (ob3 h8)<|pc (k_names_judge_peers_1 h10)<|pc h11<|pn)
  ·obtain rfl := oi h; exact rl [4] [] [.f] (pc h6<|pn)
 ·rcases r with _ | _ <;> exact Ex.noConfusion

theorem k_names_all_int_judge_peers_1 {a1 : List Int} {a2 : Names_judge} {a3 : Int} {a4 : Api_Domain} {r : Bool} (h : names_all_int_judge_peers_1 a1 a2 a3 a4 = some r) :
  CallsOK Tryz.prog UU 117 [.sl 3 a1, .fn (.func 118) [] [.rp (c120 a2) 0, .rp (c3 a3) 0, .rp (c50 a4) 0]] [] (.y r) [] := by
 unfold names_all_int_judge_peers_1 at h
 obtain ⟨r13, h12, h⟩ := bo h
 rcases r13 with _ | _
 ·obtain rfl := oi h; exact rf Tryz.func117 none [.sum [1, 4, 7, 8, 9] [] .ret [(4, .y false)] []] (pc (k_names_all_int_judge_peers_1_L1 _ _ h12)<|pn)
 ·obtain rfl := oi h; exact rf Tryz.func117 none [.sum [1, 4, 7, 8, 9] [] (.exit 0) [(4, .y false)] []] (pc (k_names_all_int_judge_peers_1_L1 _ _ h12)<|pn)

theorem k_names_judge_peers {a1 : Names_judge} {a2 : Int} {a3 : Api_Domain} {r : Bool} (h : names_judge_peers a1 a2 a3 = some r) :
  CallsOK Tryz.prog UU 84 [.agg (c120 a1), .j a2, .agg (c50 a3)] [] (.y r) [] := by
 unfold names_judge_peers at h
 obtain ⟨r4, h5, h⟩ := bo h
 obtain rfl := oi h; exact rf Tryz.func84 none [.b r4] (pc (k_names_all_int_judge_peers_1 h5)<|pn)

theorem k_names_all_Domain_judge_peers_L1 {a1 : List Api_Domain} {a2 : Names_judge} : LoopOK Tryz.prog UU 0 20 (subC (codeOf Tryz.f82) [1, 0, 1, 0, 0]) (ρ := Unit ⊕ Unit) (names_all_Domain_judge_peers_L1 a1 a2)
  (fun v3 : Int => ([(1, .fn (.func 84) [.agg (c120 a2)] []), (4, .y false), (7, .sl 50 a1), (8, .j (a1.length : Int)), (9, .j v3)] : Fr DD)) (fun v3 : Int => ([] : Heap DD)) (fun r => match r with | Sum.inl _ => .ret | Sum.inr _ => .exit 0) (fun r => match r with | Sum.inl _ => [(4, .y false)] | Sum.inr _ => [(4, .y false)]) (fun r => match r with | Sum.inl _ => [] | Sum.inr _ => []) := by
 refine loop_sound3 (fun s q h => ?_) (fun r => ?_)
 ·replace h : names_all_Domain_judge_peers_L1 a1 a2 s = some q := h; revert h; revert s; intro v3 h
  unfold names_all_Domain_judge_peers_L1 at h
  obtain ⟨h4, h⟩|⟨h4, h⟩ := ite_out h
  ·obtain ⟨x5, h6, h⟩ := bo h
   obtain ⟨r7, h8, h⟩ := bo h
   obtain ⟨h9, h⟩|⟨h9, h⟩ := ite_out h
   ·obtain rfl := oi h; exact rl [4] [] [.t, .row (c50 x5), .b r7, .t] (pc h4<|pc (ob50 h6)<|pc (k_names_judge_peers h8)<|pc h9<|pn)
   ·obtain rfl := oi h; exact rl [1, 4, 7, 8, 9] [] [.t, .row (c50 x5), .b r7, .f] (pc h4<|pc (ob50 h6)<|pc (k_names_judge_peers h8)<|pc h9<|pn)
  ·obtain rfl := oi h; exact rl [4] [] [.f] (pc h4<|pn)
 ·rcases r with _ | _ <;> exact Ex.noConfusion

theorem k_names_all_Domain_judge_peers {a1 : List Api_Domain} {a2 : Names_judge} {r : Bool} (h : names_all_Domain_judge_peers a1 a2 = some r) :
  CallsOK Tryz.prog UU 82 [.sl 50 a1, .fn (.func 84) [.agg (c120 a2)] []] [] (.y r) [] := by
 unfold names_all_Domain_judge_peers at h
 obtain ⟨r11, h10, h⟩ := bo h
 rcases r11 with _ | _
 ·obtain rfl := oi h; exact rf Tryz.func82 none [.sum [1, 4, 7, 8, 9] [] .ret [(4, .y false)] []] (pc (k_names_all_Domain_judge_peers_L1 _ _ h10)<|pn)
 ·obtain rfl := oi h; exact rf Tryz.func82 none [.sum [1, 4, 7, 8, 9] [] (.exit 0) [(4, .y false)] []] (pc (k_names_all_Domain_judge_peers_L1 _ _ h10)<|pn)

theorem k_names_rising {a1 : List Int} {a2 : Int} {r : Bool} (h : names_rising a1 a2 = some r) :
  CallsOK Tryz.prog UU 96 [.sl 3 a1, .j a2] [] (.y r) [] := by
 unfold names_rising at h
 obtain ⟨h3, h⟩|⟨h3, h⟩ := ite_out h
 ·obtain rfl := oi h; exact rf Tryz.func96 none [.t] (pc h3<|pn)
 ·obtain ⟨r4, h5, h⟩ := bo h
  obtain rfl := oi h; exact rf Tryz.func96 none [.f, .b r4] (pc h3<|pc (k_num_Rising h5)<|pn)

theorem k_names_place_Link {a1 : List Api_Link} {a2 : Int} {r : Bool} (h : names_place_Link a1 a2 = some r) :
  CallsOK Tryz.prog UU 122 [.sl 93 a1, .j a2] [] (.y r) [] := by
 unfold names_place_Link at h
 obtain ⟨h3, h⟩|⟨h3, h⟩ := ite_out h
 ·obtain rfl := oi h; exact rf Tryz.func122 none [.t] (pc h3<|pn)
 ·obtain rfl := oi h; exact rf Tryz.func122 none [.f] (pc h3<|pn)

theorem k_names_judge_port_J1 {a1 : Names_judge} {a2 : Int} {a3 : Api_Port} {r : Unit ⊕ Unit} (h : names_judge_port_J1 a1 a2 a3 = some r) :
  ExecOK Tryz.prog UU 0 111 (subC (codeOf Tryz.f86) [1, 0]) [(1, .j a2), (3, .o 0), (5, .o 1), (6, .y false)] [.box 120 (c120 a1) false, .box 66 (c66 a3) false] ((fun r => match r with | Sum.inl _ => .ret | Sum.inr _ => .nor) r) ((fun r => match r with | Sum.inl _ => [(6, .y false)] | Sum.inr _ => [(1, .j a2), (3, .o 0), (5, .o 1), (6, .y false)]) r) ((fun r => match r with | Sum.inl _ => [] | Sum.inr _ => [.box 120 (c120 a1) false, .box 66 (c66 a3) false]) r) := by
 unfold names_judge_port_J1 at h
 obtain ⟨r4, h5, h⟩ := bo h
 obtain ⟨h6, h⟩|⟨h6, h⟩ := ite_out h
 ·obtain rfl := oi h; exact rl [6] [] [.b r4, .t] (pc (k_names_place_Device h5)<|pc h6<|pn)
 ·obtain ⟨h7, h⟩|⟨h7, h⟩ := ite_out h
  ·obtain rfl := oi h; exact rl [6] [] [.b r4, .f, .t] (pc (k_names_place_Device h5)<|pc h6<|pc h7<|pn)
  ·obtain ⟨h8, h⟩|⟨h8, h⟩ := ite_out h
   ·obtain rfl := oi h; exact rl [6] [] [.b r4, .f, .f, .t] (pc (k_names_place_Device h5)<|pc h6<|pc h7<|pc h8<|pn)
   ·obtain ⟨r9, h10, h⟩ := bo h
    obtain ⟨h11, h⟩|⟨h11, h⟩ := ite_out h
    ·obtain rfl := oi h; exact rl [6] [] [.b r4, .f, .f, .f, .b r9, .t] (pc (k_names_place_Device h5)<|pc h6<|pc h7<|pc h8<|pc (k_names_rising h10)<|pc h11<|pn)
    ·obtain ⟨r12, h13, h⟩ := bo h
     obtain ⟨h14, h⟩|⟨h14, h⟩ := ite_out h
     ·obtain rfl := oi h; exact rl [6] [] [.b r4, .f, .f, .f, .b r9, .f, .b r12, .t] (pc (k_names_place_Device h5)<|pc h6<|pc h7<|pc h8<|pc (k_names_rising h10)<|pc h11<|pc (k_slices_Contains_int h13)<|pc h14<|pn)
     ·obtain ⟨h15, h⟩|⟨h15, h⟩ := ite_out h
      ·obtain ⟨h16, h⟩|⟨h16, h⟩ := ite_out h
       ·obtain rfl := oi h; exact rl [6] [] [.b r4, .f, .f, .f, .b r9, .f, .b r12, .f, .t, .t] (pc (k_names_place_Device h5)<|pc h6<|pc h7<|pc h8<|pc (k_names_rising h10)<|pc h11<|pc (k_slices_Contains_int h13)<|pc h14<|pc h15<|pc h16<|pn)
       ·obtain rfl := oi h; exact rl [1, 3, 5, 6] [0, 1] [.b r4, .f, .f, .f, .b r9, .f, .b r12, .f, .t, .f] (pc (k_names_place_Device h5)<|pc h6<|pc h7<|pc h8<|pc (k_names_rising h10)<|pc h11<|pc (k_slices_Contains_int h13)<|pc h14<|pc h15<|pc h16<|pn)
      ·obtain rfl := oi h; exact rl [1, 3, 5, 6] [0, 1] [.b r4, .f, .f, .f, .b r9, .f, .b r12, .f, .f] (pc (k_names_place_Device h5)<|pc h6<|pc h7<|pc h8<|pc (k_names_rising h10)<|pc h11<|pc (k_slices_Contains_int h13)<|pc h14<|pc h15<|pn)

theorem k_names_judge_port_L2 {a1 : Names_judge} {a2 : Int} {a3 : Api_Port} : LoopOK Tryz.prog UU 0 111 (subC (codeOf Tryz.f86) [1, 1, 0, 1, 0, 0]) (ρ := Unit ⊕ Unit) (names_judge_port_L2 a1 a2 a3)
  (fun v19 : Int => ([(1, .j a2), (3, .o 0), (5, .o 1), (6, .y false), (51, .sl 3 a3.tagged), (52, .j (a3.tagged.length : Int)), (53, .j v19)] : Fr DD)) (fun v19 : Int => ([.box 120 (c120 a1) false, .box 66 (c66 a3) false] : Heap DD)) (fun r => match r with | Sum.inl _ => .ret | Sum.inr _ => .exit 0) (fun r => match r with | Sum.inl _ => [(6, .y false)] | Sum.inr _ => [(1, .j a2), (3, .o 0), (5, .o 1), (6, .y false)]) (fun r => match r with | Sum.inl _ => [] | Sum.inr _ => [.box 120 (c120 a1) false, .box 66 (c66 a3) false]) := by
 refine loop_sound3 (fun s q h => ?_) (fun r => ?_)
 ·replace h : names_judge_port_L2 a1 a2 a3 s = some q := h; revert h; revert s; intro v19 h
  unfold names_judge_port_L2 at h
  obtain ⟨h20, h⟩|⟨h20, h⟩ := ite_out h
  ·obtain ⟨x21, h22, h⟩ := bo h
   obtain ⟨r23, h24, h⟩ := bo h
   obtain ⟨h25, h⟩|⟨h25, h⟩ := ite_out h
   ·obtain rfl := oi h; exact rl [6] [] [.t, .row (c3 x21), .callv (.j r23), .t] (pc h20<|pc (ob3 h22)<|pc (k_names_judge_domain h24)<|pc h25<|pn)
   ·obtain rfl := oi h; exact rl [1, 3, 5, 6, 51, 52, 53] [0, 1] [.t, .row (c3 x21), .callv (.j r23), .f] (pc h20<|pc (ob3 h22)<|pc (k_names_judge_domain h24)<|pc h25<|pn)
  ·obtain rfl := oi h; exact rl [1, 3, 5, 6] [0, 1] [.f] (pc h20<|pn)
 ·rcases r with _ | _ <;> exact Ex.noConfusion

theorem k_names_judge_port_J3 {a1 : Names_judge} {a2 : Int} {a3 : Api_Port} {r : Unit ⊕ Unit} (h : names_judge_port_J3 a1 a2 a3 = some r) :
  ExecOK Tryz.prog UU 0 111 (subC (codeOf Tryz.f86) [1, 1, 1, 0]) [(1, .j a2), (3, .o 0), (5, .o 1), (6, .y false)] [.box 120 (c120 a1) false, .box 66 (c66 a3) false] ((fun r => match r with | Sum.inl _ => .ret | Sum.inr _ => .nor) r) ((fun r => match r with | Sum.inl _ => [(6, .y false)] | Sum.inr _ => [(1, .j a2), (3, .o 0), (5, .o 1), (6, .y false)]) r) ((fun r => match r with | Sum.inl _ => [] | Sum.inr _ => [.box 120 (c120 a1) false, .box 66 (c66 a3) false]) r) := by
 unfold names_judge_port_J3 at h
 obtain ⟨h28, h⟩|⟨h28, h⟩ := ite_out h
 ·obtain ⟨r29, h30, h⟩ := bo h
  obtain ⟨h31, h⟩|⟨h31, h⟩ := ite_out h
  ·obtain rfl := oi h; exact rl [6] [] [.t, .callv (.j r29), .t] (pc h28<|pc (k_names_judge_domain h30)<|pc h31<|pn)
  ·obtain rfl := oi h; exact rl [1, 3, 5, 6] [0, 1] [.t, .callv (.j r29), .f] (pc h28<|pc (k_names_judge_domain h30)<|pc h31<|pn)
 ·obtain rfl := oi h; exact rl [1, 3, 5, 6] [0, 1] [.f] (pc h28<|pn)

theorem k_names_judge_port {a1 : Names_judge} {a2 : Int} {a3 : Api_Port} {r : Bool} (h : names_judge_port a1 a2 a3 = some r) :
  CallsOK Tryz.prog UU 86 [.agg (c120 a1), .j a2, .agg (c66 a3)] [] (.y r) [] := by
 unfold names_judge_port at h
 obtain ⟨r18, h17, h⟩ := bo h
 rcases r18 with _ | _
 ·obtain rfl := oi h; exact rf Tryz.func86 none [.skp, .cut [1, 3, 5, 6] [0, 1] .ret [(6, .y false)] []] (pc (k_names_judge_port_J1 h17)<|pn)
 ·obtain ⟨r27, h26, h⟩ := bo h
  rcases r27 with _ | _
  ·obtain rfl := oi h; exact rf Tryz.func86 none [.skp, .cut [1, 3, 5, 6] [0, 1] .nor [(1, .j a2), (3, .o 0), (5, .o 1), (6, .y false)] [.box 120 (c120 a1) false, .box 66 (c66 a3) false], .sum [1, 3, 5, 6, 51, 52, 53] [0, 1] .ret [(6, .y false)] []] (pc (k_names_judge_port_J1 h17)<|pc (k_names_judge_port_L2 _ _ h26)<|pn)
  ·obtain ⟨r33, h32, h⟩ := bo h
   rcases r33 with _ | _
   ·obtain rfl := oi h; exact rf Tryz.func86 none [.skp, .cut [1, 3, 5, 6] [0, 1] .nor [(1, .j a2), (3, .o 0), (5, .o 1), (6, .y false)] [.box 120 (c120 a1) false, .box 66 (c66 a3) false], .sum [1, 3, 5, 6, 51, 52, 53] [0, 1] (.exit 0) [(1, .j a2), (3, .o 0), (5, .o 1), (6, .y false)] [.box 120 (c120 a1) false, .box 66 (c66 a3) false], .cut [1, 3, 5, 6] [0, 1] .ret [(6, .y false)] []] (pc (k_names_judge_port_J1 h17)<|pc (k_names_judge_port_L2 _ _ h26)<|pc (k_names_judge_port_J3 h32)<|pn)
   ·obtain ⟨h34, h⟩|⟨h34, h⟩ := ite_out h
    ·obtain rfl := oi h; exact rf Tryz.func86 none [.skp, .cut [1, 3, 5, 6] [0, 1] .nor [(1, .j a2), (3, .o 0), (5, .o 1), (6, .y false)] [.box 120 (c120 a1) false, .box 66 (c66 a3) false], .sum [1, 3, 5, 6, 51, 52, 53] [0, 1] (.exit 0) [(1, .j a2), (3, .o 0), (5, .o 1), (6, .y false)] [.box 120 (c120 a1) false, .box 66 (c66 a3) false], .cut [1, 3, 5, 6] [0, 1] .nor [(1, .j a2), (3, .o 0), (5, .o 1), (6, .y false)] [.box 120 (c120 a1) false, .box 66 (c66 a3) false], .t] (pc (k_names_judge_port_J1 h17)<|pc (k_names_judge_port_L2 _ _ h26)<|pc (k_names_judge_port_J3 h32)<|pc h34<|pn)
    ·obtain ⟨r35, h36, h⟩ := bo h
     obtain ⟨h37, h⟩|⟨h37, h⟩ := ite_out h
     ·obtain ⟨x38, h39, h⟩ := bo h
      obtain ⟨h40, h⟩|⟨h40, h⟩ := ite_out h
      ·obtain rfl := oi h; exact rf Tryz.func86 none [.skp, .cut [1, 3, 5, 6] [0, 1] .nor [(1, .j a2), (3, .o 0), (5, .o 1), (6, .y false)] [.box 120 (c120 a1) false, .box 66 (c66 a3) false], .sum [1, 3, 5, 6, 51, 52, 53] [0, 1] (.exit 0) [(1, .j a2), (3, .o 0), (5, .o 1), (6, .y false)] [.box 120 (c120 a1) false, .box 66 (c66 a3) false], .cut [1, 3, 5, 6] [0, 1] .nor [(1, .j a2), (3, .o 0), (5, .o 1), (6, .y false)] [.box 120 (c120 a1) false, .box 66 (c66 a3) false], .f, .b r35, .t, .row (c93 x38), .t] (pc (k_names_judge_port_J1 h17)<|pc (k_names_judge_port_L2 _ _ h26)<|pc (k_names_judge_port_J3 h32)<|pc h34<|pc (k_names_place_Link h36)<|pc h37<|pc (ob93 h39)<|pc h40<|pn)
      ·obtain ⟨x41, h42, h⟩ := bo h
       obtain rfl := oi h; exact rf Tryz.func86 none [.skp, .cut [1, 3, 5, 6] [0, 1] .nor [(1, .j a2), (3, .o 0), (5, .o 1), (6, .y false)] [.box 120 (c120 a1) false, .box 66 (c66 a3) false], .sum [1, 3, 5, 6, 51, 52, 53] [0, 1] (.exit 0) [(1, .j a2), (3, .o 0), (5, .o 1), (6, .y false)] [.box 120 (c120 a1) false, .box 66 (c66 a3) false], .cut [1, 3, 5, 6] [0, 1] .nor [(1, .j a2), (3, .o 0), (5, .o 1), (6, .y false)] [.box 120 (c120 a1) false, .box 66 (c66 a3) false], .f, .b r35, .t, .row (c93 x38), .f, .row (c93 x41)] (pc (k_names_judge_port_J1 h17)<|pc (k_names_judge_port_L2 _ _ h26)<|pc (k_names_judge_port_J3 h32)<|pc h34<|pc (k_names_place_Link h36)<|pc h37<|pc (ob93 h39)<|pc h40<|pc (ob93 h42)<|pn)
     ·obtain rfl := oi h; exact rf Tryz.func86 none [.skp, .cut [1, 3, 5, 6] [0, 1] .nor [(1, .j a2), (3, .o 0), (5, .o 1), (6, .y false)] [.box 120 (c120 a1) false, .box 66 (c66 a3) false], .sum [1, 3, 5, 6, 51, 52, 53] [0, 1] (.exit 0) [(1, .j a2), (3, .o 0), (5, .o 1), (6, .y false)] [.box 120 (c120 a1) false, .box 66 (c66 a3) false], .cut [1, 3, 5, 6] [0, 1] .nor [(1, .j a2), (3, .o 0), (5, .o 1), (6, .y false)] [.box 120 (c120 a1) false, .box 66 (c66 a3) false], .f, .b r35, .f] (pc (k_names_judge_port_J1 h17)<|pc (k_names_judge_port_L2 _ _ h26)<|pc (k_names_judge_port_J3 h32)<|pc h34<|pc (k_names_place_Link h36)<|pc h37<|pn)

theorem k_names_all_Port_judge_port_L1 {a1 : List Api_Port} {a2 : Names_judge} : LoopOK Tryz.prog UU 0 20 (subC (codeOf Tryz.f85) [1, 0, 1, 0, 0]) (ρ := Unit ⊕ Unit) (names_all_Port_judge_port_L1 a1 a2)
  (fun v3 : Int => ([(1, .fn (.func 86) [.agg (c120 a2)] []), (4, .y false), (7, .sl 66 a1), (8, .j (a1.length : Int)), (9, .j v3)] : Fr DD)) (fun v3 : Int => ([] : Heap DD)) (fun r => match r with | Sum.inl _ => .ret | Sum.inr _ => .exit 0) (fun r => match r with | Sum.inl _ => [(4, .y false)] | Sum.inr _ => [(4, .y false)]) (fun r => match r with | Sum.inl _ => [] | Sum.inr _ => []) := by
 refine loop_sound3 (fun s q h => ?_) (fun r => ?_)
 ·replace h : names_all_Port_judge_port_L1 a1 a2 s = some q := h; revert h; revert s; intro v3 h
  unfold names_all_Port_judge_port_L1 at h
  obtain ⟨h4, h⟩|⟨h4, h⟩ := ite_out h
  ·obtain ⟨x5, h6, h⟩ := bo h
   obtain ⟨r7, h8, h⟩ := bo h
   obtain ⟨h9, h⟩|⟨h9, h⟩ := ite_out h
   ·obtain rfl := oi h; exact rl [4] [] [.t, .row (c66 x5), .b r7, .t] (pc h4<|pc (ob66 h6)<|pc (k_names_judge_port h8)<|pc h9<|pn)
   ·obtain rfl := oi h; exact rl [1, 4, 7, 8, 9] [] [.t, .row (c66 x5), .b r7, .f] (pc h4<|pc (ob66 h6)<|pc (k_names_judge_port h8)<|pc h9<|pn)
  ·obtain rfl := oi h; exact rl [4] [] [.f] (pc h4<|pn)
 ·rcases r with _ | _ <;> exact Ex.noConfusion

theorem k_names_all_Port_judge_port {a1 : List Api_Port} {a2 : Names_judge} {r : Bool} (h : names_all_Port_judge_port a1 a2 = some r) :
  CallsOK Tryz.prog UU 85 [.sl 66 a1, .fn (.func 86) [.agg (c120 a2)] []] [] (.y r) [] := by
 unfold names_all_Port_judge_port at h
 obtain ⟨r11, h10, h⟩ := bo h
 rcases r11 with _ | _
 ·obtain rfl := oi h; exact rf Tryz.func85 none [.sum [1, 4, 7, 8, 9] [] .ret [(4, .y false)] []] (pc (k_names_all_Port_judge_port_L1 _ _ h10)<|pn)
 ·obtain rfl := oi h; exact rf Tryz.func85 none [.sum [1, 4, 7, 8, 9] [] (.exit 0) [(4, .y false)] []] (pc (k_names_all_Port_judge_port_L1 _ _ h10)<|pn)

theorem k_names_place_Port {a1 : List Api_Port} {a2 : Int} {r : Bool} (h : names_place_Port a1 a2 = some r) :
  CallsOK Tryz.prog UU 123 [.sl 66 a1, .j a2] [] (.y r) [] := by
 unfold names_place_Port at h
 obtain ⟨h3, h⟩|⟨h3, h⟩ := ite_out h
 ·obtain rfl := oi h; exact rf Tryz.func123 none [.t] (pc h3<|pn)
 ·obtain rfl := oi h; exact rf Tryz.func123 none [.f] (pc h3<|pn)

theorem k_names_judge_link {a1 : Names_judge} {a2 : Int} {a3 : Api_Link} {r : Bool} (h : names_judge_link a1 a2 a3 = some r) :
  CallsOK Tryz.prog UU 88 [.agg (c120 a1), .j a2, .agg (c93 a3)] [] (.y r) [] := by
 unfold names_judge_link at h
 obtain ⟨r4, h5, h⟩ := bo h
 obtain ⟨h6, h⟩|⟨h6, h⟩ := ite_out h
 ·obtain rfl := oi h; exact rf Tryz.func88 none [.b r4, .t] (pc (k_names_place_Port h5)<|pc h6<|pn)
 ·obtain ⟨r7, h8, h⟩ := bo h
  obtain ⟨h9, h⟩|⟨h9, h⟩ := ite_out h
  ·obtain rfl := oi h; exact rf Tryz.func88 none [.b r4, .f, .b r7, .t] (pc (k_names_place_Port h5)<|pc h6<|pc (k_names_place_Port h8)<|pc h9<|pn)
  ·obtain ⟨x10, h11, h⟩ := bo h
   obtain ⟨x12, h13, h⟩ := bo h
   obtain ⟨h14, h⟩|⟨h14, h⟩ := ite_out h
   ·obtain ⟨h15, h⟩|⟨h15, h⟩ := ite_out h
    ·obtain rfl := oi h; exact rf Tryz.func88 none [.b r4, .f, .b r7, .f, .row (c66 x10), .row (c66 x12), .t, .t] (pc (k_names_place_Port h5)<|pc h6<|pc (k_names_place_Port h8)<|pc h9<|pc (ob66 h11)<|pc (ob66 h13)<|pc h14<|pc h15<|pn)
    ·obtain rfl := oi h; exact rf Tryz.func88 none [.b r4, .f, .b r7, .f, .row (c66 x10), .row (c66 x12), .t, .f] (pc (k_names_place_Port h5)<|pc h6<|pc (k_names_place_Port h8)<|pc h9<|pc (ob66 h11)<|pc (ob66 h13)<|pc h14<|pc h15<|pn)
   ·obtain rfl := oi h; exact rf Tryz.func88 none [.b r4, .f, .b r7, .f, .row (c66 x10), .row (c66 x12), .f] (pc (k_names_place_Port h5)<|pc h6<|pc (k_names_place_Port h8)<|pc h9<|pc (ob66 h11)<|pc (ob66 h13)<|pc h14<|pn)

theorem k_names_all_Link_judge_link_L1 {a1 : List Api_Link} {a2 : Names_judge} : LoopOK Tryz.prog UU 0 20 (subC (codeOf Tryz.f87) [1, 0, 1, 0, 0]) (ρ := Unit ⊕ Unit) (names_all_Link_judge_link_L1 a1 a2)
  (fun v3 : Int => ([(1, .fn (.func 88) [.agg (c120 a2)] []), (4, .y false), (7, .sl 93 a1), (8, .j (a1.length : Int)), (9, .j v3)] : Fr DD)) (fun v3 : Int => ([] : Heap DD)) (fun r => match r with | Sum.inl _ => .ret | Sum.inr _ => .exit 0) (fun r => match r with | Sum.inl _ => [(4, .y false)] | Sum.inr _ => [(4, .y false)]) (fun r => match r with | Sum.inl _ => [] | Sum.inr _ => []) := by
 refine loop_sound3 (fun s q h => ?_) (fun r => ?_)
 ·replace h : names_all_Link_judge_link_L1 a1 a2 s = some q := h; revert h; revert s; intro v3 h
  unfold names_all_Link_judge_link_L1 at h
  obtain ⟨h4, h⟩|⟨h4, h⟩ := ite_out h
  ·obtain ⟨x5, h6, h⟩ := bo h
   obtain ⟨r7, h8, h⟩ := bo h
   obtain ⟨h9, h⟩|⟨h9, h⟩ := ite_out h
   ·obtain rfl := oi h; exact rl [4] [] [.t, .row (c93 x5), .b r7, .t] (pc h4<|pc (ob93 h6)<|pc (k_names_judge_link h8)<|pc h9<|pn)
   ·obtain rfl := oi h; exact rl [1, 4, 7, 8, 9] [] [.t, .row (c93 x5), .b r7, .f] (pc h4<|pc (ob93 h6)<|pc (k_names_judge_link h8)<|pc h9<|pn)
  ·obtain rfl := oi h; exact rl [4] [] [.f] (pc h4<|pn)
 ·rcases r with _ | _ <;> exact Ex.noConfusion

theorem k_names_all_Link_judge_link {a1 : List Api_Link} {a2 : Names_judge} {r : Bool} (h : names_all_Link_judge_link a1 a2 = some r) :
  CallsOK Tryz.prog UU 87 [.sl 93 a1, .fn (.func 88) [.agg (c120 a2)] []] [] (.y r) [] := by
 unfold names_all_Link_judge_link at h
 obtain ⟨r11, h10, h⟩ := bo h
 rcases r11 with _ | _
 ·obtain rfl := oi h; exact rf Tryz.func87 none [.sum [1, 4, 7, 8, 9] [] .ret [(4, .y false)] []] (pc (k_names_all_Link_judge_link_L1 _ _ h10)<|pn)
 ·obtain rfl := oi h; exact rf Tryz.func87 none [.sum [1, 4, 7, 8, 9] [] (.exit 0) [(4, .y false)] []] (pc (k_names_all_Link_judge_link_L1 _ _ h10)<|pn)

theorem k_names_Member {a1 : Api_Port} {a2 : Int} {r : Bool} (h : names_Member a1 a2 = some r) :
  CallsOK Tryz.prog UU 125 [.agg (c66 a1), .j a2] [] (.y r) [] := by
 unfold names_Member at h
 obtain ⟨h3, h⟩|⟨h3, h⟩ := ite_out h
 ·obtain ⟨h4, h⟩|⟨h4, h⟩ := ite_out h
  ·obtain rfl := oi h; exact rf Tryz.func125 none [.t, .t] (pc h3<|pc h4<|pn)
  ·obtain ⟨r5, h6, h⟩ := bo h
   obtain rfl := oi h; exact rf Tryz.func125 none [.t, .f, .b r5] (pc h3<|pc h4<|pc (k_slices_Contains_int h6)<|pn)
 ·obtain rfl := oi h; exact rf Tryz.func125 none [.f] (pc h3<|pn)

theorem k_names_judge_static {a1 : Names_judge} {a2 : Int} {a3 : Api_Static} {r : Bool} (h : names_judge_static a1 a2 a3 = some r) :
  CallsOK Tryz.prog UU 90 [.agg (c120 a1), .j a2, .agg (c95 a3)] [] (.y r) [] := by
 unfold names_judge_static at h
 obtain ⟨r4, h5, h⟩ := bo h
 obtain ⟨h6, h⟩|⟨h6, h⟩ := ite_out h
 ·obtain rfl := oi h; exact rf Tryz.func90 none [.b r4, .t] (pc (k_names_place_Domain h5)<|pc h6<|pn)
 ·obtain ⟨r7, h8, h⟩ := bo h
  obtain ⟨h9, h⟩|⟨h9, h⟩ := ite_out h
  ·obtain rfl := oi h; exact rf Tryz.func90 none [.b r4, .f, .b r7, .t] (pc (k_names_place_Domain h5)<|pc h6<|pc (k_names_place_Port h8)<|pc h9<|pn)
  ·obtain ⟨x10, h11, h⟩ := bo h
   obtain ⟨x12, h13, h⟩ := bo h
   obtain ⟨h14, h⟩|⟨h14, h⟩ := ite_out h
   ·obtain ⟨r15, h16, h⟩ := bo h
    obtain rfl := oi h; exact rf Tryz.func90 none [.b r4, .f, .b r7, .f, .row (c66 x10), .row (c50 x12), .t, .b r15] (pc (k_names_place_Domain h5)<|pc h6<|pc (k_names_place_Port h8)<|pc h9<|pc (ob66 h11)<|pc (ob50 h13)<|pc h14<|pc (k_names_Member h16)<|pn)
   ·obtain rfl := oi h; exact rf Tryz.func90 none [.b r4, .f, .b r7, .f, .row (c66 x10), .row (c50 x12), .f] (pc (k_names_place_Domain h5)<|pc h6<|pc (k_names_place_Port h8)<|pc h9<|pc (ob66 h11)<|pc (ob50 h13)<|pc h14<|pn)

theorem k_names_all_Static_judge_static_L1 {a1 : List Api_Static} {a2 : Names_judge} : LoopOK Tryz.prog UU 0 20 (subC (codeOf Tryz.f89) [1, 0, 1, 0, 0]) (ρ := Unit ⊕ Unit) (names_all_Static_judge_static_L1 a1 a2)
  (fun v3 : Int => ([(1, .fn (.func 90) [.agg (c120 a2)] []), (4, .y false), (7, .sl 95 a1), (8, .j (a1.length : Int)), (9, .j v3)] : Fr DD)) (fun v3 : Int => ([] : Heap DD)) (fun r => match r with | Sum.inl _ => .ret | Sum.inr _ => .exit 0) (fun r => match r with | Sum.inl _ => [(4, .y false)] | Sum.inr _ => [(4, .y false)]) (fun r => match r with | Sum.inl _ => [] | Sum.inr _ => []) := by
 refine loop_sound3 (fun s q h => ?_) (fun r => ?_)
 ·replace h : names_all_Static_judge_static_L1 a1 a2 s = some q := h; revert h; revert s; intro v3 h
  unfold names_all_Static_judge_static_L1 at h
  obtain ⟨h4, h⟩|⟨h4, h⟩ := ite_out h
  ·obtain ⟨x5, h6, h⟩ := bo h
   obtain ⟨r7, h8, h⟩ := bo h
   obtain ⟨h9, h⟩|⟨h9, h⟩ := ite_out h
   ·obtain rfl := oi h; exact rl [4] [] [.t, .row (c95 x5), .b r7, .t] (pc h4<|pc (ob95 h6)<|pc (k_names_judge_static h8)<|pc h9<|pn)
   ·obtain rfl := oi h; exact rl [1, 4, 7, 8, 9] [] [.t, .row (c95 x5), .b r7, .f] (pc h4<|pc (ob95 h6)<|pc (k_names_judge_static h8)<|pc h9<|pn)
  ·obtain rfl := oi h; exact rl [4] [] [.f] (pc h4<|pn)
 ·rcases r with _ | _ <;> exact Ex.noConfusion

theorem k_names_all_Static_judge_static {a1 : List Api_Static} {a2 : Names_judge} {r : Bool} (h : names_all_Static_judge_static a1 a2 = some r) :
  CallsOK Tryz.prog UU 89 [.sl 95 a1, .fn (.func 90) [.agg (c120 a2)] []] [] (.y r) [] := by
 unfold names_all_Static_judge_static at h
 obtain ⟨r11, h10, h⟩ := bo h
 rcases r11 with _ | _
 ·obtain rfl := oi h; exact rf Tryz.func89 none [.sum [1, 4, 7, 8, 9] [] .ret [(4, .y false)] []] (pc (k_names_all_Static_judge_static_L1 _ _ h10)<|pn)
 ·obtain rfl := oi h; exact rf Tryz.func89 none [.sum [1, 4, 7, 8, 9] [] (.exit 0) [(4, .y false)] []] (pc (k_names_all_Static_judge_static_L1 _ _ h10)<|pn)

theorem k_names_Right_1 {a1 : Int} {a2 : Api_Flood} {a3 : Api_Net} {r : Bool} (h : names_Right_1 a1 a2 a3 = some r) :
  CallsOK Tryz.prog UU 92 [.j a1, .agg (c72 a2), .rp (c31 a3) 0] [] (.y r) [] := by
 unfold names_Right_1 at h
 obtain ⟨r4, h5, h⟩ := bo h
 obtain ⟨h6, h⟩|⟨h6, h⟩ := ite_out h
 ·obtain rfl := oi h; exact rf Tryz.func92 none [.b r4, .t] (pc (k_names_place_Device h5)<|pc h6<|pn)
 ·obtain rfl := oi h; exact rf Tryz.func92 none [.b r4, .f] (pc (k_names_place_Device h5)<|pc h6<|pn)

theorem k_names_all_Flood_Right_1_L1 {a1 : List Api_Flood} {a2 : Api_Net} : LoopOK Tryz.prog UU 0 20 (subC (codeOf Tryz.f91) [1, 0, 1, 0, 0]) (ρ := Unit ⊕ Unit) (names_all_Flood_Right_1_L1 a1 a2)
  (fun v3 : Int => ([(1, .fn (.func 92) [] [.rp (c31 a2) 0]), (4, .y false), (7, .sl 72 a1), (8, .j (a1.length : Int)), (9, .j v3)] : Fr DD)) (fun v3 : Int => ([] : Heap DD)) (fun r => match r with | Sum.inl _ => .ret | Sum.inr _ => .exit 0) (fun r => match r with | Sum.inl _ => [(4, .y false)] | Sum.inr _ => [(4, .y false)]) (fun r => match r with | Sum.inl _ => [] | Sum.inr _ => []) := by
 refine loop_sound3 (fun s q h => ?_) (fun r => ?_)
 ·replace h : names_all_Flood_Right_1_L1 a1 a2 s = some q := h; revert h; revert s; intro v3 h
  unfold names_all_Flood_Right_1_L1 at h
  obtain ⟨h4, h⟩|⟨h4, h⟩ := ite_out h
  ·obtain ⟨x5, h6, h⟩ := bo h
   obtain ⟨r7, h8, h⟩ := bo h
   obtain ⟨h9, h⟩|⟨h9, h⟩ := ite_out h
   ·obtain rfl := oi h; exact rl [4] [] [.t, .row (c72 x5), .b r7, .t] (pc h4<|pc (ob72 h6)<|pc (k_names_Right_1 h8)<|pc h9<|pn)
   ·obtain rfl := oi h; exact rl [1, 4, 7, 8, 9] [] [.t, .row (c72 x5), .b r7, .f] (pc h4<|pc (ob72 h6)<|pc (k_names_Right_1 h8)<|pc h9<|pn)
  ·obtain rfl := oi h; exact rl [4] [] [.f] (pc h4<|pn)
 ·rcases r with _ | _ <;> exact Ex.noConfusion

theorem k_names_all_Flood_Right_1 {a1 : List Api_Flood} {a2 : Api_Net} {r : Bool} (h : names_all_Flood_Right_1 a1 a2 = some r) :
  CallsOK Tryz.prog UU 91 [.sl 72 a1, .fn (.func 92) [] [.rp (c31 a2) 0]] [] (.y r) [] := by
 unfold names_all_Flood_Right_1 at h
 obtain ⟨r11, h10, h⟩ := bo h
 rcases r11 with _ | _
 ·obtain rfl := oi h; exact rf Tryz.func91 none [.sum [1, 4, 7, 8, 9] [] .ret [(4, .y false)] []] (pc (k_names_all_Flood_Right_1_L1 _ _ h10)<|pn)
 ·obtain rfl := oi h; exact rf Tryz.func91 none [.sum [1, 4, 7, 8, 9] [] (.exit 0) [(4, .y false)] []] (pc (k_names_all_Flood_Right_1_L1 _ _ h10)<|pn)

theorem k_names_Right_2 {a1 : Int} {a2 : Api_Vrf} {a3 : Api_Net} {r : Bool} (h : names_Right_2 a1 a2 a3 = some r) :
  CallsOK Tryz.prog UU 95 [.j a1, .agg (c75 a2), .rp (c31 a3) 0] [] (.y r) [] := by
 unfold names_Right_2 at h
 obtain ⟨r4, h5, h⟩ := bo h
 obtain ⟨h6, h⟩|⟨h6, h⟩ := ite_out h
 ·obtain ⟨r7, h8, h⟩ := bo h
  obtain ⟨h9, h⟩|⟨h9, h⟩ := ite_out h
  ·obtain ⟨r10, h11, h⟩ := bo h
   obtain rfl := oi h; exact rf Tryz.func95 none [.b r4, .t, .b r7, .t, .b r10] (pc (k_names_place_Device h5)<|pc h6<|pc (k_names_rising h8)<|pc h9<|pc (k_names_rising h11)<|pn)
  ·obtain rfl := oi h; exact rf Tryz.func95 none [.b r4, .t, .b r7, .f] (pc (k_names_place_Device h5)<|pc h6<|pc (k_names_rising h8)<|pc h9<|pn)
 ·obtain rfl := oi h; exact rf Tryz.func95 none [.b r4, .f] (pc (k_names_place_Device h5)<|pc h6<|pn)

theorem k_names_all_Vrf_Right_2_L1 {a1 : List Api_Vrf} {a2 : Api_Net} : LoopOK Tryz.prog UU 0 20 (subC (codeOf Tryz.f94) [1, 0, 1, 0, 0]) (ρ := Unit ⊕ Unit) (names_all_Vrf_Right_2_L1 a1 a2)
  (fun v3 : Int => ([(1, .fn (.func 95) [] [.rp (c31 a2) 0]), (4, .y false), (7, .sl 75 a1), (8, .j (a1.length : Int)), (9, .j v3)] : Fr DD)) (fun v3 : Int => ([] : Heap DD)) (fun r => match r with | Sum.inl _ => .ret | Sum.inr _ => .exit 0) (fun r => match r with | Sum.inl _ => [(4, .y false)] | Sum.inr _ => [(4, .y false)]) (fun r => match r with | Sum.inl _ => [] | Sum.inr _ => []) := by
 refine loop_sound3 (fun s q h => ?_) (fun r => ?_)
 ·replace h : names_all_Vrf_Right_2_L1 a1 a2 s = some q := h; revert h; revert s; intro v3 h
  unfold names_all_Vrf_Right_2_L1 at h
  obtain ⟨h4, h⟩|⟨h4, h⟩ := ite_out h
  ·obtain ⟨x5, h6, h⟩ := bo h
   obtain ⟨r7, h8, h⟩ := bo h
   obtain ⟨h9, h⟩|⟨h9, h⟩ := ite_out h
   ·obtain rfl := oi h; exact rl [4] [] [.t, .row (c75 x5), .b r7, .t] (pc h4<|pc (ob75 h6)<|pc (k_names_Right_2 h8)<|pc h9<|pn)
   ·obtain rfl := oi h; exact rl [1, 4, 7, 8, 9] [] [.t, .row (c75 x5), .b r7, .f] (pc h4<|pc (ob75 h6)<|pc (k_names_Right_2 h8)<|pc h9<|pn)
  ·obtain rfl := oi h; exact rl [4] [] [.f] (pc h4<|pn)
 ·rcases r with _ | _ <;> exact Ex.noConfusion

theorem k_names_all_Vrf_Right_2 {a1 : List Api_Vrf} {a2 : Api_Net} {r : Bool} (h : names_all_Vrf_Right_2 a1 a2 = some r) :
  CallsOK Tryz.prog UU 94 [.sl 75 a1, .fn (.func 95) [] [.rp (c31 a2) 0]] [] (.y r) [] := by
 unfold names_all_Vrf_Right_2 at h
 obtain ⟨r11, h10, h⟩ := bo h
 rcases r11 with _ | _
 ·obtain rfl := oi h; exact rf Tryz.func94 none [.sum [1, 4, 7, 8, 9] [] .ret [(4, .y false)] []] (pc (k_names_all_Vrf_Right_2_L1 _ _ h10)<|pn)
 ·obtain rfl := oi h; exact rf Tryz.func94 none [.sum [1, 4, 7, 8, 9] [] (.exit 0) [(4, .y false)] []] (pc (k_names_all_Vrf_Right_2_L1 _ _ h10)<|pn)

theorem k_names_place_Vrf {a1 : List Api_Vrf} {a2 : Int} {r : Bool} (h : names_place_Vrf a1 a2 = some r) :
  CallsOK Tryz.prog UU 127 [.sl 75 a1, .j a2] [] (.y r) [] := by
 unfold names_place_Vrf at h
 obtain ⟨h3, h⟩|⟨h3, h⟩ := ite_out h
 ·obtain rfl := oi h; exact rf Tryz.func127 none [.t] (pc h3<|pn)
 ·obtain rfl := oi h; exact rf Tryz.func127 none [.f] (pc h3<|pn)

theorem k_names_judge_irb {a1 : Names_judge} {a2 : Int} {a3 : Api_Irb} {r : Bool} (h : names_judge_irb a1 a2 a3 = some r) :
  CallsOK Tryz.prog UU 98 [.agg (c120 a1), .j a2, .agg (c99 a3)] [] (.y r) [] := by
 unfold names_judge_irb at h
 obtain ⟨r4, h5, h⟩ := bo h
 obtain ⟨h6, h⟩|⟨h6, h⟩ := ite_out h
 ·obtain ⟨r7, h8, h⟩ := bo h
  obtain ⟨h9, h⟩|⟨h9, h⟩ := ite_out h
  ·obtain ⟨x10, h11, h⟩ := bo h
   obtain ⟨x12, h13, h⟩ := bo h
   obtain ⟨h14, h⟩|⟨h14, h⟩ := ite_out h
   ·obtain ⟨x15, h16, h⟩ := bo h
    obtain ⟨h17, h⟩|⟨h17, h⟩ := ite_out h
    ·obtain ⟨h18, h⟩|⟨h18, h⟩ := ite_out h
     ·obtain rfl := oi h; exact rf Tryz.func98 none [.b r4, .t, .b r7, .t, .row (c50 x10), .row (c75 x12), .t, .row (c50 x15), .t, .t] (pc (k_names_place_Domain h5)<|pc h6<|pc (k_names_place_Vrf h8)<|pc h9<|pc (ob50 h11)<|pc (ob75 h13)<|pc h14<|pc (ob50 h16)<|pc h17<|pc h18<|pn)
     ·obtain rfl := oi h; exact rf Tryz.func98 none [.b r4, .t, .b r7, .t, .row (c50 x10), .row (c75 x12), .t, .row (c50 x15), .t, .f] (pc (k_names_place_Domain h5)<|pc h6<|pc (k_names_place_Vrf h8)<|pc h9<|pc (ob50 h11)<|pc (ob75 h13)<|pc h14<|pc (ob50 h16)<|pc h17<|pc h18<|pn)
    ·obtain rfl := oi h; exact rf Tryz.func98 none [.b r4, .t, .b r7, .t, .row (c50 x10), .row (c75 x12), .t, .row (c50 x15), .f] (pc (k_names_place_Domain h5)<|pc h6<|pc (k_names_place_Vrf h8)<|pc h9<|pc (ob50 h11)<|pc (ob75 h13)<|pc h14<|pc (ob50 h16)<|pc h17<|pn)
   ·obtain rfl := oi h; exact rf Tryz.func98 none [.b r4, .t, .b r7, .t, .row (c50 x10), .row (c75 x12), .f] (pc (k_names_place_Domain h5)<|pc h6<|pc (k_names_place_Vrf h8)<|pc h9<|pc (ob50 h11)<|pc (ob75 h13)<|pc h14<|pn)
  ·obtain rfl := oi h; exact rf Tryz.func98 none [.b r4, .t, .b r7, .f] (pc (k_names_place_Domain h5)<|pc h6<|pc (k_names_place_Vrf h8)<|pc h9<|pn)
 ·obtain rfl := oi h; exact rf Tryz.func98 none [.b r4, .f] (pc (k_names_place_Domain h5)<|pc h6<|pn)

theorem k_names_all_Irb_judge_irb_L1 {a1 : List Api_Irb} {a2 : Names_judge} : LoopOK Tryz.prog UU 0 20 (subC (codeOf Tryz.f97) [1, 0, 1, 0, 0]) (ρ := Unit ⊕ Unit) (names_all_Irb_judge_irb_L1 a1 a2)
  (fun v3 : Int => ([(1, .fn (.func 98) [.agg (c120 a2)] []), (4, .y false), (7, .sl 99 a1), (8, .j (a1.length : Int)), (9, .j v3)] : Fr DD)) (fun v3 : Int => ([] : Heap DD)) (fun r => match r with | Sum.inl _ => .ret | Sum.inr _ => .exit 0) (fun r => match r with | Sum.inl _ => [(4, .y false)] | Sum.inr _ => [(4, .y false)]) (fun r => match r with | Sum.inl _ => [] | Sum.inr _ => []) := by
 refine loop_sound3 (fun s q h => ?_) (fun r => ?_)
 ·replace h : names_all_Irb_judge_irb_L1 a1 a2 s = some q := h; revert h; revert s; intro v3 h
  unfold names_all_Irb_judge_irb_L1 at h
  obtain ⟨h4, h⟩|⟨h4, h⟩ := ite_out h
  ·obtain ⟨x5, h6, h⟩ := bo h
   obtain ⟨r7, h8, h⟩ := bo h
   obtain ⟨h9, h⟩|⟨h9, h⟩ := ite_out h
   ·obtain rfl := oi h; exact rl [4] [] [.t, .row (c99 x5), .b r7, .t] (pc h4<|pc (ob99 h6)<|pc (k_names_judge_irb h8)<|pc h9<|pn)
   ·obtain rfl := oi h; exact rl [1, 4, 7, 8, 9] [] [.t, .row (c99 x5), .b r7, .f] (pc h4<|pc (ob99 h6)<|pc (k_names_judge_irb h8)<|pc h9<|pn)
  ·obtain rfl := oi h; exact rl [4] [] [.f] (pc h4<|pn)
 ·rcases r with _ | _ <;> exact Ex.noConfusion

theorem k_names_all_Irb_judge_irb {a1 : List Api_Irb} {a2 : Names_judge} {r : Bool} (h : names_all_Irb_judge_irb a1 a2 = some r) :
  CallsOK Tryz.prog UU 97 [.sl 99 a1, .fn (.func 98) [.agg (c120 a2)] []] [] (.y r) [] := by
 unfold names_all_Irb_judge_irb at h
 obtain ⟨r11, h10, h⟩ := bo h
 rcases r11 with _ | _
 ·obtain rfl := oi h; exact rf Tryz.func97 none [.sum [1, 4, 7, 8, 9] [] .ret [(4, .y false)] []] (pc (k_names_all_Irb_judge_irb_L1 _ _ h10)<|pn)
 ·obtain rfl := oi h; exact rf Tryz.func97 none [.sum [1, 4, 7, 8, 9] [] (.exit 0) [(4, .y false)] []] (pc (k_names_all_Irb_judge_irb_L1 _ _ h10)<|pn)

theorem k_names_Right {a1 : Api_Net} {r : Bool} (h : names_Right a1 = some r) :
  CallsOK Tryz.prog UU 51 [.agg (c31 a1)] [] (.y r) [] := by
 unfold names_Right at h
 obtain ⟨r2, h3, h⟩ := bo h
 obtain ⟨h4, h⟩|⟨h4, h⟩ := ite_out h
 ·obtain ⟨r5, h6, h⟩ := bo h
  obtain ⟨h7, h⟩|⟨h7, h⟩ := ite_out h
  ·obtain ⟨r8, h9, h⟩ := bo h
   obtain ⟨h10, h⟩|⟨h10, h⟩ := ite_out h
   ·obtain ⟨r11, h12, h⟩ := bo h
    obtain ⟨h13, h⟩|⟨h13, h⟩ := ite_out h
    ·obtain ⟨r14, h15, h⟩ := bo h
     obtain ⟨h16, h⟩|⟨h16, h⟩ := ite_out h
     ·obtain ⟨r17, h18, h⟩ := bo h
      obtain ⟨h19, h⟩|⟨h19, h⟩ := ite_out h
      ·obtain ⟨r20, h21, h⟩ := bo h
       obtain ⟨h22, h⟩|⟨h22, h⟩ := ite_out h
       ·obtain ⟨r23, h24, h⟩ := bo h
        obtain ⟨h25, h⟩|⟨h25, h⟩ := ite_out h
        ·obtain ⟨r26, h27, h⟩ := bo h
         obtain rfl := oi h; exact rf Tryz.func51 none [.b r2, .t, .b r5, .t, .b r8, .t, .b r11, .t, .b r14, .t, .b r17, .t, .b r20, .t, .b r23, .t, .b r26] (pc (k_names_judge_few h3)<|pc h4<|pc (k_names_all_Domain_judge_bare h6)<|pc h7<|pc (k_names_all_Domain_judge_peers h9)<|pc h10<|pc (k_names_all_Port_judge_port h12)<|pc h13<|pc (k_names_all_Link_judge_link h15)<|pc h16<|pc (k_names_all_Static_judge_static h18)<|pc h19<|pc (k_names_all_Flood_Right_1 h21)<|pc h22<|pc (k_names_all_Vrf_Right_2 h24)<|pc h25<|pc (k_names_all_Irb_judge_irb h27)<|pn)
        ·obtain rfl := oi h; exact rf Tryz.func51 none [.b r2, .t, .b r5, .t, .b r8, .t, .b r11, .t, .b r14, .t, .b r17, .t, .b r20, .t, .b r23, .f] (pc (k_names_judge_few h3)<|pc h4<|pc (k_names_all_Domain_judge_bare h6)<|pc h7<|pc (k_names_all_Domain_judge_peers h9)<|pc h10<|pc (k_names_all_Port_judge_port h12)<|pc h13<|pc (k_names_all_Link_judge_link h15)<|pc h16<|pc (k_names_all_Static_judge_static h18)<|pc h19<|pc (k_names_all_Flood_Right_1 h21)<|pc h22<|pc (k_names_all_Vrf_Right_2 h24)<|pc h25<|pn)
       ·obtain rfl := oi h; exact rf Tryz.func51 none [.b r2, .t, .b r5, .t, .b r8, .t, .b r11, .t, .b r14, .t, .b r17, .t, .b r20, .f] (pc (k_names_judge_few h3)<|pc h4<|pc (k_names_all_Domain_judge_bare h6)<|pc h7<|pc (k_names_all_Domain_judge_peers h9)<|pc h10<|pc (k_names_all_Port_judge_port h12)<|pc h13<|pc (k_names_all_Link_judge_link h15)<|pc h16<|pc (k_names_all_Static_judge_static h18)<|pc h19<|pc (k_names_all_Flood_Right_1 h21)<|pc h22<|pn)
      ·obtain rfl := oi h; exact rf Tryz.func51 none [.b r2, .t, .b r5, .t, .b r8, .t, .b r11, .t, .b r14, .t, .b r17, .f] (pc (k_names_judge_few h3)<|pc h4<|pc (k_names_all_Domain_judge_bare h6)<|pc h7<|pc (k_names_all_Domain_judge_peers h9)<|pc h10<|pc (k_names_all_Port_judge_port h12)<|pc h13<|pc (k_names_all_Link_judge_link h15)<|pc h16<|pc (k_names_all_Static_judge_static h18)<|pc h19<|pn)
     ·obtain rfl := oi h; exact rf Tryz.func51 none [.b r2, .t, .b r5, .t, .b r8, .t, .b r11, .t, .b r14, .f] (pc (k_names_judge_few h3)<|pc h4<|pc (k_names_all_Domain_judge_bare h6)<|pc h7<|pc (k_names_all_Domain_judge_peers h9)<|pc h10<|pc (k_names_all_Port_judge_port h12)<|pc h13<|pc (k_names_all_Link_judge_link h15)<|pc h16<|pn)
    ·obtain rfl := oi h; exact rf Tryz.func51 none [.b r2, .t, .b r5, .t, .b r8, .t, .b r11, .f] (pc (k_names_judge_few h3)<|pc h4<|pc (k_names_all_Domain_judge_bare h6)<|pc h7<|pc (k_names_all_Domain_judge_peers h9)<|pc h10<|pc (k_names_all_Port_judge_port h12)<|pc h13<|pn)
   ·obtain rfl := oi h; exact rf Tryz.func51 none [.b r2, .t, .b r5, .t, .b r8, .f] (pc (k_names_judge_few h3)<|pc h4<|pc (k_names_all_Domain_judge_bare h6)<|pc h7<|pc (k_names_all_Domain_judge_peers h9)<|pc h10<|pn)
  ·obtain rfl := oi h; exact rf Tryz.func51 none [.b r2, .t, .b r5, .f] (pc (k_names_judge_few h3)<|pc h4<|pc (k_names_all_Domain_judge_bare h6)<|pc h7<|pn)
 ·obtain rfl := oi h; exact rf Tryz.func51 none [.b r2, .f] (pc (k_names_judge_few h3)<|pc h4<|pn)

theorem k_names_Device_1 {a1 : Api_Device} {a2 : ByteArray} {r : Bool} (h : names_Device_1 a1 a2 = some r) :
  CallsOK Tryz.prog UU 56 [.agg (c56 a1), .rp (c9 a2) 0] [] (.y r) [] := by
 unfold names_Device_1 at h
 obtain rfl := oi h; exact rf Tryz.func56 none [] (pn)

theorem k_slices_IndexFunc_Device_Device_1_L1 {a1 : List Api_Device} {a2 : ByteArray} : LoopOK Tryz.prog UU 0 19 (subC (codeOf Tryz.f52) [1, 0, 1, 0, 0]) (ρ := Int ⊕ Unit) (slices_IndexFunc_Device_Device_1_L1 a1 a2)
  (fun v3 : Int => ([(0, .sl 56 a1), (1, .fn (.func 56) [] [.rp (c9 a2) 0]), (4, .z), (7, .j (a1.length : Int)), (8, .j v3)] : Fr DD)) (fun v3 : Int => ([] : Heap DD)) (fun r => match r with | Sum.inl v11 => .ret | Sum.inr _ => .exit 0) (fun r => match r with | Sum.inl v11 => [(4, .j v11)] | Sum.inr _ => [(4, .z)]) (fun r => match r with | Sum.inl v11 => [] | Sum.inr _ => []) := by
 refine loop_sound3 (fun s q h => ?_) (fun r => ?_)
 ·replace h : slices_IndexFunc_Device_Device_1_L1 a1 a2 s = some q := h; revert h; revert s; intro v3 h
  unfold slices_IndexFunc_Device_Device_1_L1 at h
  obtain ⟨h4, h⟩|⟨h4, h⟩ := ite_out h
  ·obtain ⟨x5, h6, h⟩ := bo h
   obtain ⟨r7, h8, h⟩ := bo h
   obtain ⟨h9, h⟩|⟨h9, h⟩ := ite_out h
   ·obtain rfl := oi h; exact rl [4] [] [.t, .row (c56 x5), .b r7, .t] (pc h4<|pc (ob56 h6)<|pc (k_names_Device_1 h8)<|pc h9<|pn)
   ·obtain rfl := oi h; exact rl [0, 1, 4, 7, 8] [] [.t, .row (c56 x5), .b r7, .f] (pc h4<|pc (ob56 h6)<|pc (k_names_Device_1 h8)<|pc h9<|pn)
  ·obtain rfl := oi h; exact rl [4] [] [.f] (pc h4<|pn)
 ·rcases r with _ | _ <;> exact Ex.noConfusion

theorem k_slices_IndexFunc_Device_Device_1 {a1 : List Api_Device} {a2 : ByteArray} {r : Int} (h : slices_IndexFunc_Device_Device_1 a1 a2 = some r) :
  CallsOK Tryz.prog UU 52 [.sl 56 a1, .fn (.func 56) [] [.rp (c9 a2) 0]] [] (.j r) [] := by
 unfold slices_IndexFunc_Device_Device_1 at h
 obtain ⟨r13, h12, h⟩ := bo h
 rcases r13 with v11 | _
 ·obtain rfl := oi h; exact rf Tryz.func52 none [.sum [0, 1, 4, 7, 8] [] .ret [(4, .j v11)] []] (pc (k_slices_IndexFunc_Device_Device_1_L1 _ _ h12)<|pn)
 ·obtain rfl := oi h; exact rf Tryz.func52 none [.sum [0, 1, 4, 7, 8] [] (.exit 0) [(4, .z)] []] (pc (k_slices_IndexFunc_Device_Device_1_L1 _ _ h12)<|pn)

theorem k_names_find_Device_Device_1 {a1 : Api_Net} {a2 : List Api_Device} {a3 : ByteArray} {r : Int} (h : names_find_Device_Device_1 a1 a2 a3 = some r) :
  CallsOK Tryz.prog UU 55 [.agg (c31 a1), .sl 56 a2, .fn (.func 56) [] [.rp (c9 a3) 0]] [] (.j r) [] := by
 unfold names_find_Device_Device_1 at h
 obtain ⟨r4, h5, h⟩ := bo h
 obtain ⟨h6, h⟩|⟨h6, h⟩ := ite_out h
 ·obtain rfl := oi h; exact rf Tryz.func55 none [.b r4, .t] (pc (k_names_Right h5)<|pc h6<|pn)
 ·obtain ⟨r7, h8, h⟩ := bo h
  obtain rfl := oi h; exact rf Tryz.func55 none [.b r4, .f, .callv (.j r7)] (pc (k_names_Right h5)<|pc h6<|pc (k_slices_IndexFunc_Device_Device_1 h8)<|pn)

theorem k_names_Device {a1 : Api_Net} {a2 : ByteArray} {r : Int} (h : names_Device a1 a2 = some r) :
  CallsOK Tryz.prog UU 26 [.agg (c31 a1), .x a2] [] (.j r) [] := by
 unfold names_Device at h
 obtain ⟨r3, h4, h⟩ := bo h
 obtain rfl := oi h; exact rf Tryz.func26 none [.callv (.j r3)] (pc (k_names_find_Device_Device_1 h4)<|pn)

theorem k_overlay_begin {a1 : Api_Net} {a2 : Api_Line} {a3 : Int} {r : Int × Int} (h : overlay_begin a1 a2 a3 = some r) :
  CallsOK Tryz.prog UU 37 [.agg (c31 a1), .agg (c37 a2), .j a3] [] (.tup [.j r.1, .j r.2]) [] := by
 unfold overlay_begin at h
 obtain ⟨h4, h⟩|⟨h4, h⟩ := ite_out h
 ·obtain rfl := oi h; exact rf Tryz.func37 none [.t] (pc h4<|pn)
 ·obtain ⟨r5, h6, h⟩ := bo h
  obtain ⟨h7, h⟩|⟨h7, h⟩ := ite_out h
  ·obtain rfl := oi h; exact rf Tryz.func37 none [.f, .b r5, .t] (pc h4<|pc (k_stmt_Right h6)<|pc h7<|pn)
  ·obtain ⟨r8, h9, h⟩ := bo h
   obtain ⟨h10, h⟩|⟨h10, h⟩ := ite_out h
   ·obtain rfl := oi h; exact rf Tryz.func37 none [.f, .b r5, .f, .b r8, .t] (pc h4<|pc (k_stmt_Right h6)<|pc h7<|pc (k_names_Right h9)<|pc h10<|pn)
   ·obtain ⟨r11, h12, h⟩ := bo h
    obtain ⟨h13, h⟩|⟨h13, h⟩ := ite_out h
    ·obtain rfl := oi h; exact rf Tryz.func37 none [.f, .b r5, .f, .b r8, .f, .callv (.j r11), .t] (pc h4<|pc (k_stmt_Right h6)<|pc h7<|pc (k_names_Right h9)<|pc h10<|pc (k_names_Device h12)<|pc h13<|pn)
    ·obtain rfl := oi h; exact rf Tryz.func37 none [.f, .b r5, .f, .b r8, .f, .callv (.j r11), .f] (pc h4<|pc (k_stmt_Right h6)<|pc h7<|pc (k_names_Right h9)<|pc h10<|pc (k_names_Device h12)<|pc h13<|pn)

theorem k_overlay_find_1 {a1 : Api_Domain} {a2 : Int} {a3 : Int} {r : Bool} (h : overlay_find_1 a1 a2 a3 = some r) :
  CallsOK Tryz.prog UU 74 [.agg (c50 a1), .rp (c3 a2) 0, .rp (c3 a3) 0] [] (.y r) [] := by
 unfold overlay_find_1 at h
 obtain ⟨h4, h⟩|⟨h4, h⟩ := ite_out h
 ·obtain ⟨h5, h⟩|⟨h5, h⟩ := ite_out h
  ·obtain rfl := oi h; exact rf Tryz.func74 none [.t, .t] (pc h4<|pc h5<|pn)
  ·obtain rfl := oi h; exact rf Tryz.func74 none [.t, .f] (pc h4<|pc h5<|pn)
 ·obtain rfl := oi h; exact rf Tryz.func74 none [.f] (pc h4<|pn)

theorem k_slices_IndexFunc_Domain_find_1_L1 {a1 : List Api_Domain} {a2 : Int} {a3 : Int} : LoopOK Tryz.prog UU 0 19 (subC (codeOf Tryz.f73) [1, 0, 1, 0, 0]) (ρ := Int ⊕ Unit) (slices_IndexFunc_Domain_find_1_L1 a1 a2 a3)
  (fun v4 : Int => ([(0, .sl 50 a1), (1, .fn (.func 74) [] [.rp (c3 a2) 0, .rp (c3 a3) 0]), (4, .z), (7, .j (a1.length : Int)), (8, .j v4)] : Fr DD)) (fun v4 : Int => ([] : Heap DD)) (fun r => match r with | Sum.inl v12 => .ret | Sum.inr _ => .exit 0) (fun r => match r with | Sum.inl v12 => [(4, .j v12)] | Sum.inr _ => [(4, .z)]) (fun r => match r with | Sum.inl v12 => [] | Sum.inr _ => []) := by
 refine loop_sound3 (fun s q h => ?_) (fun r => ?_)
 ·replace h : slices_IndexFunc_Domain_find_1_L1 a1 a2 a3 s = some q := h; revert h; revert s; intro v4 h
  unfold slices_IndexFunc_Domain_find_1_L1 at h
  obtain ⟨h5, h⟩|⟨h5, h⟩ := ite_out h
  ·obtain ⟨x6, h7, h⟩ := bo h
   obtain ⟨r8, h9, h⟩ := bo h
   obtain ⟨h10, h⟩|⟨h10, h⟩ := ite_out h
   ·obtain rfl := oi h; exact rl [4] [] [.t, .row (c50 x6), .b r8, .t] (pc h5<|pc (ob50 h7)<|pc (k_overlay_find_1 h9)<|pc h10<|pn)
   ·obtain rfl := oi h; exact rl [0, 1, 4, 7, 8] [] [.t, .row (c50 x6), .b r8, .f] (pc h5<|pc (ob50 h7)<|pc (k_overlay_find_1 h9)<|pc h10<|pn)
  ·obtain rfl := oi h; exact rl [4] [] [.f] (pc h5<|pn)
 ·rcases r with _ | _ <;> exact Ex.noConfusion

theorem k_slices_IndexFunc_Domain_find_1 {a1 : List Api_Domain} {a2 : Int} {a3 : Int} {r : Int} (h : slices_IndexFunc_Domain_find_1 a1 a2 a3 = some r) :
  CallsOK Tryz.prog UU 73 [.sl 50 a1, .fn (.func 74) [] [.rp (c3 a2) 0, .rp (c3 a3) 0]] [] (.j r) [] := by
 unfold slices_IndexFunc_Domain_find_1 at h
 obtain ⟨r14, h13, h⟩ := bo h
 rcases r14 with v12 | _
 ·obtain rfl := oi h; exact rf Tryz.func73 none [.sum [0, 1, 4, 7, 8] [] .ret [(4, .j v12)] []] (pc (k_slices_IndexFunc_Domain_find_1_L1 _ _ h13)<|pn)
 ·obtain rfl := oi h; exact rf Tryz.func73 none [.sum [0, 1, 4, 7, 8] [] (.exit 0) [(4, .z)] []] (pc (k_slices_IndexFunc_Domain_find_1_L1 _ _ h13)<|pn)

theorem k_overlay_find {a1 : Api_Net} {a2 : Int} {a3 : Int} {r : Int} (h : overlay_find a1 a2 a3 = some r) :
  CallsOK Tryz.prog UU 43 [.agg (c31 a1), .j a2, .j a3] [] (.j r) [] := by
 unfold overlay_find at h
 obtain ⟨r4, h5, h⟩ := bo h
 obtain rfl := oi h; exact rf Tryz.func43 none [.callv (.j r4)] (pc (k_slices_IndexFunc_Domain_find_1 h5)<|pn)

theorem k_overlay_list_1 {a1 : Api_Flood} {a2 : Int} {a3 : Int} {r : Bool} (h : overlay_list_1 a1 a2 a3 = some r) :
  CallsOK Tryz.prog UU 76 [.agg (c72 a1), .rp (c3 a2) 0, .rp (c3 a3) 0] [] (.y r) [] := by
 unfold overlay_list_1 at h
 obtain ⟨h4, h⟩|⟨h4, h⟩ := ite_out h
 ·obtain rfl := oi h; exact rf Tryz.func76 none [.t] (pc h4<|pn)
 ·obtain rfl := oi h; exact rf Tryz.func76 none [.f] (pc h4<|pn)

theorem k_slices_IndexFunc_Flood_list_1_L1 {a1 : List Api_Flood} {a2 : Int} {a3 : Int} : LoopOK Tryz.prog UU 0 19 (subC (codeOf Tryz.f75) [1, 0, 1, 0, 0]) (ρ := Int ⊕ Unit) (slices_IndexFunc_Flood_list_1_L1 a1 a2 a3)
  (fun v4 : Int => ([(0, .sl 72 a1), (1, .fn (.func 76) [] [.rp (c3 a2) 0, .rp (c3 a3) 0]), (4, .z), (7, .j (a1.length : Int)), (8, .j v4)] : Fr DD)) (fun v4 : Int => ([] : Heap DD)) (fun r => match r with | Sum.inl v12 => .ret | Sum.inr _ => .exit 0) (fun r => match r with | Sum.inl v12 => [(4, .j v12)] | Sum.inr _ => [(4, .z)]) (fun r => match r with | Sum.inl v12 => [] | Sum.inr _ => []) := by
 refine loop_sound3 (fun s q h => ?_) (fun r => ?_)
 ·replace h : slices_IndexFunc_Flood_list_1_L1 a1 a2 a3 s = some q := h; revert h; revert s; intro v4 h
  unfold slices_IndexFunc_Flood_list_1_L1 at h
  obtain ⟨h5, h⟩|⟨h5, h⟩ := ite_out h
  ·obtain ⟨x6, h7, h⟩ := bo h
   obtain ⟨r8, h9, h⟩ := bo h
   obtain ⟨h10, h⟩|⟨h10, h⟩ := ite_out h
   ·obtain rfl := oi h; exact rl [4] [] [.t, .row (c72 x6), .b r8, .t] (pc h5<|pc (ob72 h7)<|pc (k_overlay_list_1 h9)<|pc h10<|pn)
   ·obtain rfl := oi h; exact rl [0, 1, 4, 7, 8] [] [.t, .row (c72 x6), .b r8, .f] (pc h5<|pc (ob72 h7)<|pc (k_overlay_list_1 h9)<|pc h10<|pn)
  ·obtain rfl := oi h; exact rl [4] [] [.f] (pc h5<|pn)
 ·rcases r with _ | _ <;> exact Ex.noConfusion

theorem k_slices_IndexFunc_Flood_list_1 {a1 : List Api_Flood} {a2 : Int} {a3 : Int} {r : Int} (h : slices_IndexFunc_Flood_list_1 a1 a2 a3 = some r) :
  CallsOK Tryz.prog UU 75 [.sl 72 a1, .fn (.func 76) [] [.rp (c3 a2) 0, .rp (c3 a3) 0]] [] (.j r) [] := by
 unfold slices_IndexFunc_Flood_list_1 at h
 obtain ⟨r14, h13, h⟩ := bo h
 rcases r14 with v12 | _
 ·obtain rfl := oi h; exact rf Tryz.func75 none [.sum [0, 1, 4, 7, 8] [] .ret [(4, .j v12)] []] (pc (k_slices_IndexFunc_Flood_list_1_L1 _ _ h13)<|pn)
 ·obtain rfl := oi h; exact rf Tryz.func75 none [.sum [0, 1, 4, 7, 8] [] (.exit 0) [(4, .z)] []] (pc (k_slices_IndexFunc_Flood_list_1_L1 _ _ h13)<|pn)

theorem k_overlay_list {a1 : Api_Net} {a2 : Int} {a3 : Int} {r : Int} (h : overlay_list a1 a2 a3 = some r) :
  CallsOK Tryz.prog UU 45 [.agg (c31 a1), .j a2, .j a3] [] (.j r) [] := by
 unfold overlay_list at h
 obtain ⟨r4, h5, h⟩ := bo h
 obtain rfl := oi h; exact rf Tryz.func45 none [.callv (.j r4)] (pc (k_slices_IndexFunc_Flood_list_1 h5)<|pn)

theorem k_slices_Index_uint32_L1 {a1 : List Int} {a2 : Int} : LoopOK Tryz.prog UU 0 19 (subC (codeOf Tryz.f77) [1, 0, 1, 0, 0]) (ρ := Int ⊕ Unit) (slices_Index_uint32_L1 a1 a2)
  (fun v3 : Int => ([(0, .sl 33 a1), (1, .v (.int .u32 a2)), (4, .z), (7, .j (a1.length : Int)), (8, .j v3)] : Fr DD)) (fun v3 : Int => ([] : Heap DD)) (fun r => match r with | Sum.inl v9 => .ret | Sum.inr _ => .exit 0) (fun r => match r with | Sum.inl v9 => [(4, .j v9)] | Sum.inr _ => [(4, .z)]) (fun r => match r with | Sum.inl v9 => [] | Sum.inr _ => []) := by
 refine loop_sound3 (fun s q h => ?_) (fun r => ?_)
 ·replace h : slices_Index_uint32_L1 a1 a2 s = some q := h; revert h; revert s; intro v3 h
  unfold slices_Index_uint32_L1 at h
  obtain ⟨h4, h⟩|⟨h4, h⟩ := ite_out h
  ·obtain ⟨x5, h6, h⟩ := bo h
   obtain ⟨h7, h⟩|⟨h7, h⟩ := ite_out h
   ·obtain rfl := oi h; exact rl [4] [] [.t, .row (c33 x5), .t] (pc h4<|pc (ob33 h6)<|pc h7<|pn)
   ·obtain rfl := oi h; exact rl [0, 1, 4, 7, 8] [] [.t, .row (c33 x5), .f] (pc h4<|pc (ob33 h6)<|pc h7<|pn)
  ·obtain rfl := oi h; exact rl [4] [] [.f] (pc h4<|pn)
 ·rcases r with _ | _ <;> exact Ex.noConfusion

theorem k_slices_Index_uint32 {a1 : List Int} {a2 : Int} {r : Int} (h : slices_Index_uint32 a1 a2 = some r) :
  CallsOK Tryz.prog UU 77 [.sl 33 a1, .v (.int .u32 a2)] [] (.j r) [] := by
 unfold slices_Index_uint32 at h
 obtain ⟨r11, h10, h⟩ := bo h
 rcases r11 with v9 | _
 ·obtain rfl := oi h; exact rf Tryz.func77 none [.sum [0, 1, 4, 7, 8] [] .ret [(4, .j v9)] []] (pc (k_slices_Index_uint32_L1 _ _ h10)<|pn)
 ·obtain rfl := oi h; exact rf Tryz.func77 none [.sum [0, 1, 4, 7, 8] [] (.exit 0) [(4, .z)] []] (pc (k_slices_Index_uint32_L1 _ _ h10)<|pn)

theorem k_slices_Contains_uint32 {a1 : List Int} {a2 : Int} {r : Bool} (h : slices_Contains_uint32 a1 a2 = some r) :
  CallsOK Tryz.prog UU 46 [.sl 33 a1, .v (.int .u32 a2)] [] (.y r) [] := by
 unfold slices_Contains_uint32 at h
 obtain ⟨r3, h4, h⟩ := bo h
 obtain rfl := oi h; exact rf Tryz.func46 none [.callv (.j r3)] (pc (k_slices_Index_uint32 h4)<|pn)

theorem k_slices_Clone_Device {a1 : List Api_Device} {r : List Api_Device} (h : slices_Clone_Device a1 = some r) :
  CallsOK Tryz.prog UU 63 [.sl 56 a1] [] (.os 0 r.length) [.w 56 r] := by
 unfold slices_Clone_Device at h
 obtain ⟨h1, h⟩|⟨h1, h⟩ := ite_out h
 ·injection h with h; subst h
  refine sn_split ?_ (fun e => ?_)
  ·exact rf Tryz.func63 (some [1]) [.obj [] (.n 56), .obj [] (.w 56 a1)] (pc (bs_ob 56 [])<|pc (app_ob 56 (n := 0) (l := []) (xs := a1) h1)<|pn)
  ·subst e; exact rf Tryz.func63 (some [1]) [] (pn)
 ·cases h

theorem k_slices_Clone_Port {a1 : List Api_Port} {r : List Api_Port} (h : slices_Clone_Port a1 = some r) :
  CallsOK Tryz.prog UU 64 [.sl 66 a1] [] (.os 0 r.length) [.w 66 r] := by
 unfold slices_Clone_Port at h
 obtain ⟨h1, h⟩|⟨h1, h⟩ := ite_out h
 ·injection h with h; subst h
  refine sn_split ?_ (fun e => ?_)
  ·exact rf Tryz.func64 (some [1]) [.obj [] (.n 66), .obj [] (.w 66 a1)] (pc (bs_ob 66 [])<|pc (app_ob 66 (n := 0) (l := []) (xs := a1) h1)<|pn)
  ·subst e; exact rf Tryz.func64 (some [1]) [] (pn)
 ·cases h

theorem k_slices_Clone_Link {a1 : List Api_Link} {r : List Api_Link} (h : slices_Clone_Link a1 = some r) :
  CallsOK Tryz.prog UU 65 [.sl 93 a1] [] (.os 0 r.length) [.w 93 r] := by
 unfold slices_Clone_Link at h
 obtain ⟨h1, h⟩|⟨h1, h⟩ := ite_out h
 ·injection h with h; subst h
  refine sn_split ?_ (fun e => ?_)
  ·exact rf Tryz.func65 (some [1]) [.obj [] (.n 93), .obj [] (.w 93 a1)] (pc (bs_ob 93 [])<|pc (app_ob 93 (n := 0) (l := []) (xs := a1) h1)<|pn)
  ·subst e; exact rf Tryz.func65 (some [1]) [] (pn)
 ·cases h

theorem k_slices_Clone_Domain {a1 : List Api_Domain} {r : List Api_Domain} (h : slices_Clone_Domain a1 = some r) :
  CallsOK Tryz.prog UU 66 [.sl 50 a1] [] (.os 0 r.length) [.w 50 r] := by
 unfold slices_Clone_Domain at h
 obtain ⟨h1, h⟩|⟨h1, h⟩ := ite_out h
 ·injection h with h; subst h
  refine sn_split ?_ (fun e => ?_)
  ·exact rf Tryz.func66 (some [1]) [.obj [] (.n 50), .obj [] (.w 50 a1)] (pc (bs_ob 50 [])<|pc (app_ob 50 (n := 0) (l := []) (xs := a1) h1)<|pn)
  ·subst e; exact rf Tryz.func66 (some [1]) [] (pn)
 ·cases h

theorem k_slices_Clone_Static {a1 : List Api_Static} {r : List Api_Static} (h : slices_Clone_Static a1 = some r) :
  CallsOK Tryz.prog UU 67 [.sl 95 a1] [] (.os 0 r.length) [.w 95 r] := by
 unfold slices_Clone_Static at h
 obtain ⟨h1, h⟩|⟨h1, h⟩ := ite_out h
 ·injection h with h; subst h
  refine sn_split ?_ (fun e => ?_)
  ·exact rf Tryz.func67 (some [1]) [.obj [] (.n 95), .obj [] (.w 95 a1)] (pc (bs_ob 95 [])<|pc (app_ob 95 (n := 0) (l := []) (xs := a1) h1)<|pn)
  ·subst e; exact rf Tryz.func67 (some [1]) [] (pn)
 ·cases h

theorem k_slices_Clone_Flood {a1 : List Api_Flood} {r : List Api_Flood} (h : slices_Clone_Flood a1 = some r) :
  CallsOK Tryz.prog UU 68 [.sl 72 a1] [] (.os 0 r.length) [.w 72 r] := by
 unfold slices_Clone_Flood at h
 obtain ⟨h1, h⟩|⟨h1, h⟩ := ite_out h
 ·injection h with h; subst h
  refine sn_split ?_ (fun e => ?_)
  ·exact rf Tryz.func68 (some [1]) [.obj [] (.n 72), .obj [] (.w 72 a1)] (pc (bs_ob 72 [])<|pc (app_ob 72 (n := 0) (l := []) (xs := a1) h1)<|pn)
  ·subst e; exact rf Tryz.func68 (some [1]) [] (pn)
 ·cases h

theorem k_slices_Clone_Vrf {a1 : List Api_Vrf} {r : List Api_Vrf} (h : slices_Clone_Vrf a1 = some r) :
  CallsOK Tryz.prog UU 69 [.sl 75 a1] [] (.os 0 r.length) [.w 75 r] := by
 unfold slices_Clone_Vrf at h
 obtain ⟨h1, h⟩|⟨h1, h⟩ := ite_out h
 ·injection h with h; subst h
  refine sn_split ?_ (fun e => ?_)
  ·exact rf Tryz.func69 (some [1]) [.obj [] (.n 75), .obj [] (.w 75 a1)] (pc (bs_ob 75 [])<|pc (app_ob 75 (n := 0) (l := []) (xs := a1) h1)<|pn)
  ·subst e; exact rf Tryz.func69 (some [1]) [] (pn)
 ·cases h

theorem k_slices_Clone_Irb {a1 : List Api_Irb} {r : List Api_Irb} (h : slices_Clone_Irb a1 = some r) :
  CallsOK Tryz.prog UU 70 [.sl 99 a1] [] (.os 0 r.length) [.w 99 r] := by
 unfold slices_Clone_Irb at h
 obtain ⟨h1, h⟩|⟨h1, h⟩ := ite_out h
 ·injection h with h; subst h
  refine sn_split ?_ (fun e => ?_)
  ·exact rf Tryz.func70 (some [1]) [.obj [] (.n 99), .obj [] (.w 99 a1)] (pc (bs_ob 99 [])<|pc (app_ob 99 (n := 0) (l := []) (xs := a1) h1)<|pn)
  ·subst e; exact rf Tryz.func70 (some [1]) [] (pn)
 ·cases h

theorem k_slices_Clone_int {a1 : List Int} {r : List Int} (h : slices_Clone_int a1 = some r) :
  CallsOK Tryz.prog UU 28 [.sl 3 a1] [] (.os 0 r.length) [.w 3 r] := by
 unfold slices_Clone_int at h
 obtain ⟨h1, h⟩|⟨h1, h⟩ := ite_out h
 ·injection h with h; subst h
  refine sn_split ?_ (fun e => ?_)
  ·exact rf Tryz.func28 (some [1]) [.obj [] (.n 3), .obj [] (.w 3 a1)] (pc (bs_ob 3 [])<|pc (app_ob 3 (n := 0) (l := []) (xs := a1) h1)<|pn)
  ·subst e; exact rf Tryz.func28 (some [1]) [] (pn)
 ·cases h

theorem k_slices_Clone_uint32 {a1 : List Int} {r : List Int} (h : slices_Clone_uint32 a1 = some r) :
  CallsOK Tryz.prog UU 47 [.sl 33 a1] [] (.os 0 r.length) [.w 33 r] := by
 unfold slices_Clone_uint32 at h
 obtain ⟨h1, h⟩|⟨h1, h⟩ := ite_out h
 ·injection h with h; subst h
  refine sn_split ?_ (fun e => ?_)
  ·exact rf Tryz.func47 (some [1]) [.obj [] (.n 33), .obj [] (.w 33 a1)] (pc (bs_ob 33 [])<|pc (app_ob 33 (n := 0) (l := []) (xs := a1) h1)<|pn)
  ·subst e; exact rf Tryz.func47 (some [1]) [] (pn)
 ·cases h

end Go.Eng
