/- Part of the proof of OverlayMeshes: printed mirrors of the functions, or their contracts. No conditions. -/
import Derived.Test.YtcclngfmkodgjaaGreatMAK2
set_option linter.unusedVariables false
set_option maxRecDepth 100000
namespace Go.Eng
open Go Go.Proofs
theorem k_slices_Equal_int_L1 {a1 : List Int} {a2 : List Int} : LoopOK Tryz.prog UU 0 26 (subC (codeOf Tryz.f221) [1, 1, 0, 1, 0, 0]) (ρ := Unit ⊕ Unit) (slices_Equal_int_L1 a1 a2)
  (fun v4 : Int => ([(0, .sl 3 a1), (1, .sl 3 a2), (4, .y false), (12, .j (a1.length : Int)), (13, .j v4)] : Fr DD)) (fun v4 : Int => ([] : Heap DD)) (fun r => match r with | Sum.inl _ => .ret | Sum.inr _ => .exit 0) (fun r => match r with | Sum.inl _ => [(4, .y false)] | Sum.inr _ => [(4, .y false)]) (fun r => match r with | Sum.inl _ => [] | Sum.inr _ => []) := by
 refine loop_sound3 (fun s q h => ?_) (fun r => ?_)
 ·replace h : slices_Equal_int_L1 a1 a2 s = some q := h; revert h; revert s; intro v4 h
  unfold slices_Equal_int_L1 at h
  obtain ⟨h5, h⟩|⟨h5, h⟩ := ite_out h
  ·obtain ⟨x6, h7, h⟩ := bo h
   obtain ⟨x8, h9, h⟩ := bo h
   obtain ⟨h10, h⟩|⟨h10, h⟩ := ite_out h
   ·obtain rfl := oi h; exact rl [4] [] [.t, .row (c3 x6), .row (c3 x8), .t] (pc h5<|pc (ob3 h7)<|pc (ob3 h9)<|pc h10<|pn)
   ·obtain rfl := oi h; exact rl [0, 1, 4, 12, 13] [] [.t, .row (c3 x6), .row (c3 x8), .f] (pc h5<|pc (ob3 h7)<|pc (ob3 h9)<|pc h10<|pn)
  ·obtain rfl := oi h; exact rl [4] [] [.f] (pc h5<|pn)
 ·rcases r with _ | _ <;> exact Ex.noConfusion

theorem k_slices_Equal_int {a1 : List Int} {a2 : List Int} {r : Bool} (h : slices_Equal_int a1 a2 = some r) :
  CallsOK Tryz.prog UU 221 [.sl 3 a1, .sl 3 a2] [] (.y r) [] := by
 unfold slices_Equal_int at h
 obtain ⟨h3, h⟩|⟨h3, h⟩ := ite_out h
 ·obtain rfl := oi h; exact rf Tryz.func221 none [.t] (pc h3<|pn)
 ·obtain ⟨r12, h11, h⟩ := bo h
  rcases r12 with _ | _
  ·obtain rfl := oi h; exact rf Tryz.func221 none [.f, .sum [0, 1, 4, 12, 13] [] .ret [(4, .y false)] []] (pc h3<|pc (k_slices_Equal_int_L1 _ _ h11)<|pn)
  ·obtain rfl := oi h; exact rf Tryz.func221 none [.f, .sum [0, 1, 4, 12, 13] [] (.exit 0) [(4, .y false)] []] (pc h3<|pc (k_slices_Equal_int_L1 _ _ h11)<|pn)

theorem k_slices_Equal_uint32_L1 {a1 : List Int} {a2 : List Int} : LoopOK Tryz.prog UU 0 26 (subC (codeOf Tryz.f222) [1, 1, 0, 1, 0, 0]) (ρ := Unit ⊕ Unit) (slices_Equal_uint32_L1 a1 a2)
  (fun v4 : Int => ([(0, .sl 33 a1), (1, .sl 33 a2), (4, .y false), (12, .j (a1.length : Int)), (13, .j v4)] : Fr DD)) (fun v4 : Int => ([] : Heap DD)) (fun r => match r with | Sum.inl _ => .ret | Sum.inr _ => .exit 0) (fun r => match r with | Sum.inl _ => [(4, .y false)] | Sum.inr _ => [(4, .y false)]) (fun r => match r with | Sum.inl _ => [] | Sum.inr _ => []) := by
 refine loop_sound3 (fun s q h => ?_) (fun r => ?_)
 ·replace h : slices_Equal_uint32_L1 a1 a2 s = some q := h; revert h; revert s; intro v4 h
  unfold slices_Equal_uint32_L1 at h
  obtain ⟨h5, h⟩|⟨h5, h⟩ := ite_out h
  ·obtain ⟨x6, h7, h⟩ := bo h
   obtain ⟨x8, h9, h⟩ := bo h
   obtain ⟨h10, h⟩|⟨h10, h⟩ := ite_out h
   ·obtain rfl := oi h; exact rl [4] [] [.t, .row (c33 x6), .row (c33 x8), .t] (pc h5<|pc (ob33 h7)<|pc (ob33 h9)<|pc h10<|pn)
   ·obtain rfl := oi h; exact rl [0, 1, 4, 12, 13] [] [.t, .row (c33 x6), .row (c33 x8), .f] (pc h5<|pc (ob33 h7)<|pc (ob33 h9)<|pc h10<|pn)
  ·obtain rfl := oi h; exact rl [4] [] [.f] (pc h5<|pn)
 ·rcases r with _ | _ <;> exact Ex.noConfusion

theorem k_slices_Equal_uint32 {a1 : List Int} {a2 : List Int} {r : Bool} (h : slices_Equal_uint32 a1 a2 = some r) :
  CallsOK Tryz.prog UU 222 [.sl 33 a1, .sl 33 a2] [] (.y r) [] := by
 unfold slices_Equal_uint32 at h
 obtain ⟨h3, h⟩|⟨h3, h⟩ := ite_out h
 ·obtain rfl := oi h; exact rf Tryz.func222 none [.t] (pc h3<|pn)
 ·obtain ⟨r12, h11, h⟩ := bo h
  rcases r12 with _ | _
  ·obtain rfl := oi h; exact rf Tryz.func222 none [.f, .sum [0, 1, 4, 12, 13] [] .ret [(4, .y false)] []] (pc h3<|pc (k_slices_Equal_uint32_L1 _ _ h11)<|pn)
  ·obtain rfl := oi h; exact rf Tryz.func222 none [.f, .sum [0, 1, 4, 12, 13] [] (.exit 0) [(4, .y false)] []] (pc h3<|pc (k_slices_Equal_uint32_L1 _ _ h11)<|pn)

theorem k_stmt_Same {a1 : Api_Line} {a2 : Api_Line} {r : Bool} (h : stmt_Same a1 a2 = some r) :
  CallsOK Tryz.prog UU 180 [.agg (c37 a1), .agg (c37 a2)] [] (.y r) [] := by
 unfold stmt_Same at h
 obtain ⟨h3, h⟩|⟨h3, h⟩ := ite_out h
 ·obtain ⟨h4, h⟩|⟨h4, h⟩ := ite_out h
  ·obtain ⟨h5, h⟩|⟨h5, h⟩ := ite_out h
   ·obtain ⟨h6, h⟩|⟨h6, h⟩ := ite_out h
    ·obtain ⟨h7, h⟩|⟨h7, h⟩ := ite_out h
     ·obtain ⟨h8, h⟩|⟨h8, h⟩ := ite_out h
      ·obtain ⟨h9, h⟩|⟨h9, h⟩ := ite_out h
       ·obtain ⟨h10, h⟩|⟨h10, h⟩ := ite_out h
        ·obtain ⟨h11, h⟩|⟨h11, h⟩ := ite_out h
         ·obtain ⟨h12, h⟩|⟨h12, h⟩ := ite_out h
          ·obtain ⟨h13, h⟩|⟨h13, h⟩ := ite_out h
           ·obtain ⟨h14, h⟩|⟨h14, h⟩ := ite_out h
            ·obtain ⟨h15, h⟩|⟨h15, h⟩ := ite_out h
             ·obtain ⟨r16, h17, h⟩ := bo h
              obtain ⟨h18, h⟩|⟨h18, h⟩ := ite_out h
              ·obtain ⟨r19, h20, h⟩ := bo h
               obtain ⟨h21, h⟩|⟨h21, h⟩ := ite_out h
               ·obtain ⟨r22, h23, h⟩ := bo h
                obtain ⟨h24, h⟩|⟨h24, h⟩ := ite_out h
                ·obtain ⟨r25, h26, h⟩ := bo h
                 obtain rfl := oi h; exact rf Tryz.func180 none [.t, .t, .t, .t, .t, .t, .t, .t, .t, .t, .t, .t, .t, .b r16, .t, .b r19, .t, .b r22, .t, .b r25] (pc h3<|pc h4<|pc h5<|pc h6<|pc h7<|pc h8<|pc h9<|pc h10<|pc h11<|pc h12<|pc h13<|pc h14<|pc h15<|pc (k_slices_Equal_int h17)<|pc h18<|pc (k_slices_Equal_int h20)<|pc h21<|pc (k_slices_Equal_int h23)<|pc h24<|pc (k_slices_Equal_uint32 h26)<|pn)
                ·obtain rfl := oi h; exact rf Tryz.func180 none [.t, .t, .t, .t, .t, .t, .t, .t, .t, .t, .t, .t, .t, .b r16, .t, .b r19, .t, .b r22, .f] (pc h3<|pc h4<|pc h5<|pc h6<|pc h7<|pc h8<|pc h9<|pc h10<|pc h11<|pc h12<|pc h13<|pc h14<|pc h15<|pc (k_slices_Equal_int h17)<|pc h18<|pc (k_slices_Equal_int h20)<|pc h21<|pc (k_slices_Equal_int h23)<|pc h24<|pn)
               ·obtain rfl := oi h; exact rf Tryz.func180 none [.t, .t, .t, .t, .t, .t, .t, .t, .t, .t, .t, .t, .t, .b r16, .t, .b r19, .f] (pc h3<|pc h4<|pc h5<|pc h6<|pc h7<|pc h8<|pc h9<|pc h10<|pc h11<|pc h12<|pc h13<|pc h14<|pc h15<|pc (k_slices_Equal_int h17)<|pc h18<|pc (k_slices_Equal_int h20)<|pc h21<|pn)
              ·obtain rfl := oi h; exact rf Tryz.func180 none [.t, .t, .t, .t, .t, .t, .t, .t, .t, .t, .t, .t, .t, .b r16, .f] (pc h3<|pc h4<|pc h5<|pc h6<|pc h7<|pc h8<|pc h9<|pc h10<|pc h11<|pc h12<|pc h13<|pc h14<|pc h15<|pc (k_slices_Equal_int h17)<|pc h18<|pn)
             ·obtain rfl := oi h; exact rf Tryz.func180 none [.t, .t, .t, .t, .t, .t, .t, .t, .t, .t, .t, .t, .f] (pc h3<|pc h4<|pc h5<|pc h6<|pc h7<|pc h8<|pc h9<|pc h10<|pc h11<|pc h12<|pc h13<|pc h14<|pc h15<|pn)
            ·obtain rfl := oi h; exact rf Tryz.func180 none [.t, .t, .t, .t, .t, .t, .t, .t, .t, .t, .t, .f] (pc h3<|pc h4<|pc h5<|pc h6<|pc h7<|pc h8<|pc h9<|pc h10<|pc h11<|pc h12<|pc h13<|pc h14<|pn)
           ·obtain rfl := oi h; exact rf Tryz.func180 none [.t, .t, .t, .t, .t, .t, .t, .t, .t, .t, .f] (pc h3<|pc h4<|pc h5<|pc h6<|pc h7<|pc h8<|pc h9<|pc h10<|pc h11<|pc h12<|pc h13<|pn)
          ·obtain rfl := oi h; exact rf Tryz.func180 none [.t, .t, .t, .t, .t, .t, .t, .t, .t, .f] (pc h3<|pc h4<|pc h5<|pc h6<|pc h7<|pc h8<|pc h9<|pc h10<|pc h11<|pc h12<|pn)
         ·obtain rfl := oi h; exact rf Tryz.func180 none [.t, .t, .t, .t, .t, .t, .t, .t, .f] (pc h3<|pc h4<|pc h5<|pc h6<|pc h7<|pc h8<|pc h9<|pc h10<|pc h11<|pn)
        ·obtain rfl := oi h; exact rf Tryz.func180 none [.t, .t, .t, .t, .t, .t, .t, .f] (pc h3<|pc h4<|pc h5<|pc h6<|pc h7<|pc h8<|pc h9<|pc h10<|pn)
       ·obtain rfl := oi h; exact rf Tryz.func180 none [.t, .t, .t, .t, .t, .t, .f] (pc h3<|pc h4<|pc h5<|pc h6<|pc h7<|pc h8<|pc h9<|pn)
      ·obtain rfl := oi h; exact rf Tryz.func180 none [.t, .t, .t, .t, .t, .f] (pc h3<|pc h4<|pc h5<|pc h6<|pc h7<|pc h8<|pn)
     ·obtain rfl := oi h; exact rf Tryz.func180 none [.t, .t, .t, .t, .f] (pc h3<|pc h4<|pc h5<|pc h6<|pc h7<|pn)
    ·obtain rfl := oi h; exact rf Tryz.func180 none [.t, .t, .t, .f] (pc h3<|pc h4<|pc h5<|pc h6<|pn)
   ·obtain rfl := oi h; exact rf Tryz.func180 none [.t, .t, .f] (pc h3<|pc h4<|pc h5<|pn)
  ·obtain rfl := oi h; exact rf Tryz.func180 none [.t, .f] (pc h3<|pc h4<|pn)
 ·obtain rfl := oi h; exact rf Tryz.func180 none [.f] (pc h3<|pn)

theorem k_stmt_Right {a1 : Api_Line} {r : Bool} (h : stmt_Right a1 = some r) :
  CallsOK Tryz.prog UU 103 [.agg (c37 a1)] [] (.y r) [] := by
 unfold stmt_Right at h
 obtain ⟨r2, h3, h⟩ := bo h
 obtain ⟨r4, r5⟩ := r2
 obtain ⟨h6, h⟩|⟨h6, h⟩ := ite_out h
 ·obtain ⟨r7, h8, h⟩ := bo h
  obtain ⟨h9, h⟩|⟨h9, h⟩ := ite_out h
  ·obtain ⟨r10, h11, h⟩ := bo h
   obtain rfl := oi h; exact rf Tryz.func103 none [.callm [] (.tup [.agg (c37 r4), .y r5]) [], .t, .b r7, .t, .b r10] (pc (k_stmt_used h3)<|pc h6<|pc (k_num_Name h8)<|pc h9<|pc (k_stmt_Same h11)<|pn)
  ·obtain rfl := oi h; exact rf Tryz.func103 none [.callm [] (.tup [.agg (c37 r4), .y r5]) [], .t, .b r7, .f] (pc (k_stmt_used h3)<|pc h6<|pc (k_num_Name h8)<|pc h9<|pn)
 ·obtain rfl := oi h; exact rf Tryz.func103 none [.callm [] (.tup [.agg (c37 r4), .y r5]) [], .f] (pc (k_stmt_used h3)<|pc h6<|pn)

theorem k_names_judge_few {a1 : Names_judge} {r : Bool} (h : names_judge_few a1 = some r) :
  CallsOK Tryz.prog UU 124 [.agg (c190 a1)] [] (.y r) [] := by
 unfold names_judge_few at h
 obtain ⟨h2, h⟩|⟨h2, h⟩ := ite_out h
 ·obtain ⟨h3, h⟩|⟨h3, h⟩ := ite_out h
  ·obtain ⟨h4, h⟩|⟨h4, h⟩ := ite_out h
   ·obtain ⟨h5, h⟩|⟨h5, h⟩ := ite_out h
    ·obtain ⟨h6, h⟩|⟨h6, h⟩ := ite_out h
     ·obtain ⟨h7, h⟩|⟨h7, h⟩ := ite_out h
      ·obtain ⟨h8, h⟩|⟨h8, h⟩ := ite_out h
       ·obtain rfl := oi h; exact rf Tryz.func124 none [.t, .t, .t, .t, .t, .t, .t] (pc h2<|pc h3<|pc h4<|pc h5<|pc h6<|pc h7<|pc h8<|pn)
       ·obtain rfl := oi h; exact rf Tryz.func124 none [.t, .t, .t, .t, .t, .t, .f] (pc h2<|pc h3<|pc h4<|pc h5<|pc h6<|pc h7<|pc h8<|pn)
      ·obtain rfl := oi h; exact rf Tryz.func124 none [.t, .t, .t, .t, .t, .f] (pc h2<|pc h3<|pc h4<|pc h5<|pc h6<|pc h7<|pn)
     ·obtain rfl := oi h; exact rf Tryz.func124 none [.t, .t, .t, .t, .f] (pc h2<|pc h3<|pc h4<|pc h5<|pc h6<|pn)
    ·obtain rfl := oi h; exact rf Tryz.func124 none [.t, .t, .t, .f] (pc h2<|pc h3<|pc h4<|pc h5<|pn)
   ·obtain rfl := oi h; exact rf Tryz.func124 none [.t, .t, .f] (pc h2<|pc h3<|pc h4<|pn)
  ·obtain rfl := oi h; exact rf Tryz.func124 none [.t, .f] (pc h2<|pc h3<|pn)
 ·obtain rfl := oi h; exact rf Tryz.func124 none [.f] (pc h2<|pn)

theorem k_names_place_Device {a1 : List Api_Device} {a2 : Int} {r : Bool} (h : names_place_Device a1 a2 = some r) :
  CallsOK Tryz.prog UU 136 [.sl 56 a1, .j a2] [] (.y r) [] := by
 unfold names_place_Device at h
 obtain ⟨h3, h⟩|⟨h3, h⟩ := ite_out h
 ·obtain rfl := oi h; exact rf Tryz.func136 none [.t] (pc h3<|pn)
 ·obtain rfl := oi h; exact rf Tryz.func136 none [.f] (pc h3<|pn)

theorem k_names_judge_domain_1 {a1 : Api_Domain} {a2 : Int} {a3 : Int} {r : Bool} (h : names_judge_domain_1 a1 a2 a3 = some r) :
  CallsOK Tryz.prog UU 233 [.agg (c90 a1), .rp (c3 a2) 0, .rp (c3 a3) 0] [] (.y r) [] := by
 unfold names_judge_domain_1 at h
 obtain ⟨h4, h⟩|⟨h4, h⟩ := ite_out h
 ·obtain rfl := oi h; exact rf Tryz.func233 none [.t] (pc h4<|pn)
 ·obtain rfl := oi h; exact rf Tryz.func233 none [.f] (pc h4<|pn)

theorem k_slices_IndexFunc_Domain_judge_domain_1_L1 {a1 : List Api_Domain} {a2 : Int} {a3 : Int} : LoopOK Tryz.prog UU 0 19 (subC (codeOf Tryz.f144) [1, 0, 1, 0, 0]) (ρ := Int ⊕ Unit) (slices_IndexFunc_Domain_judge_domain_1_L1 a1 a2 a3)
  (fun v4 : Int => ([(0, .sl 90 a1), (1, .fn (.func 233) [] [.rp (c3 a2) 0, .rp (c3 a3) 0]), (4, .z), (7, .j (a1.length : Int)), (8, .j v4)] : Fr DD)) (fun v4 : Int => ([] : Heap DD)) (fun r => match r with | Sum.inl v12 => .ret | Sum.inr _ => .exit 0) (fun r => match r with | Sum.inl v12 => [(4, .j v12)] | Sum.inr _ => [(4, .z)]) (fun r => match r with | Sum.inl v12 => [] | Sum.inr _ => []) := by
 refine loop_sound3 (fun s q h => ?_) (fun r => ?_)
 ·replace h : slices_IndexFunc_Domain_judge_domain_1_L1 a1 a2 a3 s = some q := h; revert h; revert s; intro v4 h
  unfold slices_IndexFunc_Domain_judge_domain_1_L1 at h
  obtain ⟨h5, h⟩|⟨h5, h⟩ := ite_out h
  ·obtain ⟨x6, h7, h⟩ := bo h
   obtain ⟨r8, h9, h⟩ := bo h
   obtain ⟨h10, h⟩|⟨h10, h⟩ := ite_out h
   ·obtain rfl := oi h; exact rl [4] [] [.t, .row (c90 x6), .b r8, .t] (pc h5<|pc (ob90 h7)<|pc (k_names_judge_domain_1 h9)<|pc h10<|pn)
   ·obtain rfl := oi h; exact rl [0, 1, 4, 7, 8] [] [.t, .row (c90 x6), .b r8, .f] (pc h5<|pc (ob90 h7)<|pc (k_names_judge_domain_1 h9)<|pc h10<|pn)
  ·obtain rfl := oi h; exact rl [4] [] [.f] (pc h5<|pn)
 ·rcases r with _ | _ <;> exact Ex.noConfusion

theorem k_slices_IndexFunc_Domain_judge_domain_1 {a1 : List Api_Domain} {a2 : Int} {a3 : Int} {r : Int} (h : slices_IndexFunc_Domain_judge_domain_1 a1 a2 a3 = some r) :
  CallsOK Tryz.prog UU 144 [.sl 90 a1, .fn (.func 233) [] [.rp (c3 a2) 0, .rp (c3 a3) 0]] [] (.j r) [] := by
 unfold slices_IndexFunc_Domain_judge_domain_1 at h
 obtain ⟨r14, h13, h⟩ := bo h
 rcases r14 with v12 | _
 ·obtain rfl := oi h; exact rf Tryz.func144 none [.sum [0, 1, 4, 7, 8] [] .ret [(4, .j v12)] []] (pc (k_slices_IndexFunc_Domain_judge_domain_1_L1 _ _ h13)<|pn)
 ·obtain rfl := oi h; exact rf Tryz.func144 none [.sum [0, 1, 4, 7, 8] [] (.exit 0) [(4, .z)] []] (pc (k_slices_IndexFunc_Domain_judge_domain_1_L1 _ _ h13)<|pn)

theorem k_names_judge_domain {a1 : Names_judge} {a2 : Int} {a3 : Int} {r : Int} (h : names_judge_domain a1 a2 a3 = some r) :
  CallsOK Tryz.prog UU 194 [.agg (c190 a1), .j a2, .j a3] [] (.j r) [] := by
 unfold names_judge_domain at h
 obtain ⟨r4, h5, h⟩ := bo h
 obtain rfl := oi h; exact rf Tryz.func194 none [.callv (.j r4)] (pc (k_slices_IndexFunc_Domain_judge_domain_1 h5)<|pn)

theorem k_names_place_Irb {a1 : List Api_Irb} {a2 : Int} {r : Bool} (h : names_place_Irb a1 a2 = some r) :
  CallsOK Tryz.prog UU 193 [.sl 105 a1, .j a2] [] (.y r) [] := by
 unfold names_place_Irb at h
 obtain ⟨h3, h⟩|⟨h3, h⟩ := ite_out h
 ·obtain rfl := oi h; exact rf Tryz.func193 none [.t] (pc h3<|pn)
 ·obtain rfl := oi h; exact rf Tryz.func193 none [.f] (pc h3<|pn)

theorem k_names_judge_bare {a1 : Names_judge} {a2 : Int} {a3 : Api_Domain} {r : Bool} (h : names_judge_bare a1 a2 a3 = some r) :
  CallsOK Tryz.prog UU 126 [.agg (c190 a1), .j a2, .agg (c90 a3)] [] (.y r) [] := by
 unfold names_judge_bare at h
 obtain ⟨r4, h5, h⟩ := bo h
 obtain ⟨h6, h⟩|⟨h6, h⟩ := ite_out h
 ·obtain ⟨h7, h⟩|⟨h7, h⟩ := ite_out h
  ·obtain ⟨h8, h⟩|⟨h8, h⟩ := ite_out h
   ·obtain ⟨h9, h⟩|⟨h9, h⟩ := ite_out h
    ·obtain ⟨h10, h⟩|⟨h10, h⟩ := ite_out h
     ·obtain ⟨h11, h⟩|⟨h11, h⟩ := ite_out h
      ·obtain ⟨r12, h13, h⟩ := bo h
       obtain rfl := oi h; exact rf Tryz.func126 none [.b r4, .t, .t, .t, .t, .t, .t, .callv (.j r12)] (pc (k_names_place_Device h5)<|pc h6<|pc h7<|pc h8<|pc h9<|pc h10<|pc h11<|pc (k_names_judge_domain h13)<|pn)
      ·obtain ⟨r14, h15, h⟩ := bo h
       obtain ⟨h16, h⟩|⟨h16, h⟩ := ite_out h
       ·obtain ⟨x17, h18, h⟩ := bo h
        obtain ⟨h19, h⟩|⟨h19, h⟩ := ite_out h
        ·obtain ⟨r20, h21, h⟩ := bo h
         obtain rfl := oi h; exact rf Tryz.func126 none [.b r4, .t, .t, .t, .t, .t, .f, .b r14, .t, .row (c105 x17), .t, .callv (.j r20)] (pc (k_names_place_Device h5)<|pc h6<|pc h7<|pc h8<|pc h9<|pc h10<|pc h11<|pc (k_names_place_Irb h15)<|pc h16<|pc (ob105 h18)<|pc h19<|pc (k_names_judge_domain h21)<|pn)
        ·obtain rfl := oi h; exact rf Tryz.func126 none [.b r4, .t, .t, .t, .t, .t, .f, .b r14, .t, .row (c105 x17), .f] (pc (k_names_place_Device h5)<|pc h6<|pc h7<|pc h8<|pc h9<|pc h10<|pc h11<|pc (k_names_place_Irb h15)<|pc h16<|pc (ob105 h18)<|pc h19<|pn)
       ·obtain rfl := oi h; exact rf Tryz.func126 none [.b r4, .t, .t, .t, .t, .t, .f, .b r14, .f] (pc (k_names_place_Device h5)<|pc h6<|pc h7<|pc h8<|pc h9<|pc h10<|pc h11<|pc (k_names_place_Irb h15)<|pc h16<|pn)
     ·obtain rfl := oi h; exact rf Tryz.func126 none [.b r4, .t, .t, .t, .t, .f] (pc (k_names_place_Device h5)<|pc h6<|pc h7<|pc h8<|pc h9<|pc h10<|pn)
    ·obtain rfl := oi h; exact rf Tryz.func126 none [.b r4, .t, .t, .t, .f] (pc (k_names_place_Device h5)<|pc h6<|pc h7<|pc h8<|pc h9<|pn)
   ·obtain rfl := oi h; exact rf Tryz.func126 none [.b r4, .t, .t, .f] (pc (k_names_place_Device h5)<|pc h6<|pc h7<|pc h8<|pn)
  ·obtain rfl := oi h; exact rf Tryz.func126 none [.b r4, .t, .f] (pc (k_names_place_Device h5)<|pc h6<|pc h7<|pn)
 ·obtain rfl := oi h; exact rf Tryz.func126 none [.b r4, .f] (pc (k_names_place_Device h5)<|pc h6<|pn)

theorem k_names_all_Domain_judge_bare_L1 {a1 : List Api_Domain} {a2 : Names_judge} : LoopOK Tryz.prog UU 0 20 (subC (codeOf Tryz.f125) [1, 0, 1, 0, 0]) (ρ := Unit ⊕ Unit) (names_all_Domain_judge_bare_L1 a1 a2)
  (fun v3 : Int => ([(1, .fn (.func 126) [.agg (c190 a2)] []), (4, .y false), (7, .sl 90 a1), (8, .j (a1.length : Int)), (9, .j v3)] : Fr DD)) (fun v3 : Int => ([] : Heap DD)) (fun r => match r with | Sum.inl _ => .ret | Sum.inr _ => .exit 0) (fun r => match r with | Sum.inl _ => [(4, .y false)] | Sum.inr _ => [(4, .y false)]) (fun r => match r with | Sum.inl _ => [] | Sum.inr _ => []) := by
 refine loop_sound3 (fun s q h => ?_) (fun r => ?_)
 ·replace h : names_all_Domain_judge_bare_L1 a1 a2 s = some q := h; revert h; revert s; intro v3 h
  unfold names_all_Domain_judge_bare_L1 at h
  obtain ⟨h4, h⟩|⟨h4, h⟩ := ite_out h
  ·obtain ⟨x5, h6, h⟩ := bo h
   obtain ⟨r7, h8, h⟩ := bo h
   obtain ⟨h9, h⟩|⟨h9, h⟩ := ite_out h
   ·obtain rfl := oi h; exact rl [4] [] [.t, .row (c90 x5), .b r7, .t] (pc h4<|pc (ob90 h6)<|pc (k_names_judge_bare h8)<|pc h9<|pn)
   ·obtain rfl := oi h; exact rl [1, 4, 7, 8, 9] [] [.t, .row (c90 x5), .b r7, .f] (pc h4<|pc (ob90 h6)<|pc (k_names_judge_bare h8)<|pc h9<|pn)
  ·obtain rfl := oi h; exact rl [4] [] [.f] (pc h4<|pn)
 ·rcases r with _ | _ <;> exact Ex.noConfusion

theorem k_names_all_Domain_judge_bare {a1 : List Api_Domain} {a2 : Names_judge} {r : Bool} (h : names_all_Domain_judge_bare a1 a2 = some r) :
  CallsOK Tryz.prog UU 125 [.sl 90 a1, .fn (.func 126) [.agg (c190 a2)] []] [] (.y r) [] := by
 unfold names_all_Domain_judge_bare at h
 obtain ⟨r11, h10, h⟩ := bo h
 rcases r11 with _ | _
 ·obtain rfl := oi h; exact rf Tryz.func125 none [.sum [1, 4, 7, 8, 9] [] .ret [(4, .y false)] []] (pc (k_names_all_Domain_judge_bare_L1 _ _ h10)<|pn)
 ·obtain rfl := oi h; exact rf Tryz.func125 none [.sum [1, 4, 7, 8, 9] [] (.exit 0) [(4, .y false)] []] (pc (k_names_all_Domain_judge_bare_L1 _ _ h10)<|pn)

theorem k_names_place_Domain {a1 : List Api_Domain} {a2 : Int} {r : Bool} (h : names_place_Domain a1 a2 = some r) :
  CallsOK Tryz.prog UU 173 [.sl 90 a1, .j a2] [] (.y r) [] := by
 unfold names_place_Domain at h
 obtain ⟨h3, h⟩|⟨h3, h⟩ := ite_out h
 ·obtain rfl := oi h; exact rf Tryz.func173 none [.t] (pc h3<|pn)
 ·obtain rfl := oi h; exact rf Tryz.func173 none [.f] (pc h3<|pn)

theorem k_names_judge_vtep {a1 : Names_judge} {a2 : Api_Domain} {r : Bool} (h : names_judge_vtep a1 a2 = some r) :
  CallsOK Tryz.prog UU 234 [.agg (c190 a1), .agg (c90 a2)] [] (.y r) [] := by
 unfold names_judge_vtep at h
 obtain ⟨x3, h4, h⟩ := bo h
 obtain rfl := oi h; exact rf Tryz.func234 none [.row (c56 x3)] (pc (ob56 h4)<|pn)

theorem k_names_judge_peer {a1 : Names_judge} {a2 : Int} {a3 : Api_Domain} {a4 : Int} {r : Bool} (h : names_judge_peer a1 a2 a3 a4 = some r) :
  CallsOK Tryz.prog UU 197 [.agg (c190 a1), .j a2, .agg (c90 a3), .j a4] [] (.y r) [] := by
 unfold names_judge_peer at h
 obtain ⟨r5, h6, h⟩ := bo h
 obtain ⟨h7, h⟩|⟨h7, h⟩ := ite_out h
 ·obtain rfl := oi h; exact rf Tryz.func197 none [.b r5, .t] (pc (k_names_place_Domain h6)<|pc h7<|pn)
 ·obtain ⟨h8, h⟩|⟨h8, h⟩ := ite_out h
  ·obtain rfl := oi h; exact rf Tryz.func197 none [.b r5, .f, .t] (pc (k_names_place_Domain h6)<|pc h7<|pc h8<|pn)
  ·obtain ⟨x9, h10, h⟩ := bo h
   obtain ⟨r11, h12, h⟩ := bo h
   obtain ⟨h13, h⟩|⟨h13, h⟩ := ite_out h
   ·obtain ⟨h14, h⟩|⟨h14, h⟩ := ite_out h
    ·obtain ⟨h15, h⟩|⟨h15, h⟩ := ite_out h
     ·obtain ⟨h16, h⟩|⟨h16, h⟩ := ite_out h
      ·obtain ⟨r17, h18, h⟩ := bo h
       obtain ⟨h19, h⟩|⟨h19, h⟩ := ite_out h
       ·obtain ⟨r20, h21, h⟩ := bo h
        obtain ⟨h22, h⟩|⟨h22, h⟩ := ite_out h
        ·obtain ⟨r23, h24, h⟩ := bo h
         obtain rfl := oi h; exact rf Tryz.func197 none [.b r5, .f, .f, .row (c90 x9), .b r11, .t, .t, .t, .t, .b r17, .t, .b r20, .t, .b r23] (pc (k_names_place_Domain h6)<|pc h7<|pc h8<|pc (ob90 h10)<|pc (k_names_place_Device h12)<|pc h13<|pc h14<|pc h15<|pc h16<|pc (k_names_judge_vtep h18)<|pc h19<|pc (k_names_judge_vtep h21)<|pc h22<|pc (k_slices_Contains_int h24)<|pn)
        ·obtain rfl := oi h; exact rf Tryz.func197 none [.b r5, .f, .f, .row (c90 x9), .b r11, .t, .t, .t, .t, .b r17, .t, .b r20, .f] (pc (k_names_place_Domain h6)<|pc h7<|pc h8<|pc (ob90 h10)<|pc (k_names_place_Device h12)<|pc h13<|pc h14<|pc h15<|pc h16<|pc (k_names_judge_vtep h18)<|pc h19<|pc (k_names_judge_vtep h21)<|pc h22<|pn)
       ·obtain rfl := oi h; exact rf Tryz.func197 none [.b r5, .f, .f, .row (c90 x9), .b r11, .t, .t, .t, .t, .b r17, .f] (pc (k_names_place_Domain h6)<|pc h7<|pc h8<|pc (ob90 h10)<|pc (k_names_place_Device h12)<|pc h13<|pc h14<|pc h15<|pc h16<|pc (k_names_judge_vtep h18)<|pc h19<|pn)
      ·obtain rfl := oi h; exact rf Tryz.func197 none [.b r5, .f, .f, .row (c90 x9), .b r11, .t, .t, .t, .f] (pc (k_names_place_Domain h6)<|pc h7<|pc h8<|pc (ob90 h10)<|pc (k_names_place_Device h12)<|pc h13<|pc h14<|pc h15<|pc h16<|pn)
     ·obtain rfl := oi h; exact rf Tryz.func197 none [.b r5, .f, .f, .row (c90 x9), .b r11, .t, .t, .f] (pc (k_names_place_Domain h6)<|pc h7<|pc h8<|pc (ob90 h10)<|pc (k_names_place_Device h12)<|pc h13<|pc h14<|pc h15<|pn)
    ·obtain rfl := oi h; exact rf Tryz.func197 none [.b r5, .f, .f, .row (c90 x9), .b r11, .t, .f] (pc (k_names_place_Domain h6)<|pc h7<|pc h8<|pc (ob90 h10)<|pc (k_names_place_Device h12)<|pc h13<|pc h14<|pn)
   ·obtain rfl := oi h; exact rf Tryz.func197 none [.b r5, .f, .f, .row (c90 x9), .b r11, .f] (pc (k_names_place_Domain h6)<|pc h7<|pc h8<|pc (ob90 h10)<|pc (k_names_place_Device h12)<|pc h13<|pn)

theorem k_names_judge_peers_1 {a1 : Int} {a2 : Int} {a3 : Names_judge} {a4 : Int} {a5 : Api_Domain} {r : Bool} (h : names_judge_peers_1 a1 a2 a3 a4 a5 = some r) :
  CallsOK Tryz.prog UU 196 [.j a1, .j a2, .rp (c190 a3) 0, .rp (c3 a4) 0, .rp (c90 a5) 0] [] (.y r) [] := by
 unfold names_judge_peers_1 at h
 obtain ⟨r6, h7, h⟩ := bo h
 obtain ⟨h8, h⟩|⟨h8, h⟩ := ite_out h
 ·obtain ⟨r9, h10, h⟩ := bo h
  obtain rfl := oi h; exact rf Tryz.func196 none [.b r6, .t, .callv (.j r9)] (pc (k_names_judge_peer h7)<|pc h8<|pc (k_slices_Index_int h10)<|pn)
 ·obtain rfl := oi h; exact rf Tryz.func196 none [.b r6, .f] (pc (k_names_judge_peer h7)<|pc h8<|pn)

theorem k_names_all_int_judge_peers_1_L1 {a1 : List Int} {a2 : Names_judge} {a3 : Int} {a4 : Api_Domain} : LoopOK Tryz.prog UU 0 20 (subC (codeOf Tryz.f195) [1, 0, 1, 0, 0]) (ρ := Unit ⊕ Unit) (names_all_int_judge_peers_1_L1 a1 a2 a3 a4)
  (fun v5 : Int => ([(1, .fn (.func 196) [] [.rp (c190 a2) 0, .rp (c3 a3) 0, .rp (c90 a4) 0]), (4, .y false), (7, .sl 3 a1), (8, .j (a1.length : Int)), (9, .j v5)] : Fr DD)) (fun v5 : Int => ([] : Heap DD)) (fun r => match r with | Sum.inl _ => .ret | Sum.inr _ => .exit 0) (fun r => match r with | Sum.inl _ => [(4, .y false)] | Sum.inr _ => [(4, .y false)]) (fun r => match r with | Sum.inl _ => [] | Sum.inr _ => []) := by
 refine loop_sound3 (fun s q h => ?_) (fun r => ?_)
 ·replace h : names_all_int_judge_peers_1_L1 a1 a2 a3 a4 s = some q := h; revert h; revert s; intro v5 h
  unfold names_all_int_judge_peers_1_L1 at h
  obtain ⟨h6, h⟩|⟨h6, h⟩ := ite_out h
  ·obtain ⟨x7, h8, h⟩ := bo h
   obtain ⟨r9, h10, h⟩ := bo h
   obtain ⟨h11, h⟩|⟨h11, h⟩ := ite_out h
   ·obtain rfl := oi h; exact rl [4] [] [.t, .row (c3 x7), .b r9, .t] (pc h6<|pc (ob3 h8)<|pc (k_names_judge_peers_1 h10)<|pc h11<|pn)
   ·obtain rfl := oi h; exact rl [1, 4, 7, 8, 9] [] [.t, .row (c3 x7), .b r9, .f] (pc h6<|pc (ob3 h8)<|pc (k_names_judge_peers_1 h10)<|pc h11<|pn)
  ·obtain rfl := oi h; exact rl [4] [] [.f] (pc h6<|pn)
 ·rcases r with _ | _ <;> exact Ex.noConfusion

theorem k_names_all_int_judge_peers_1 {a1 : List Int} {a2 : Names_judge} {a3 : Int} {a4 : Api_Domain} {r : Bool} (h : names_all_int_judge_peers_1 a1 a2 a3 a4 = some r) :
  CallsOK Tryz.prog UU 195 [.sl 3 a1, .fn (.func 196) [] [.rp (c190 a2) 0, .rp (c3 a3) 0, .rp (c90 a4) 0]] [] (.y r) [] := by
 unfold names_all_int_judge_peers_1 at h
 obtain ⟨r13, h12, h⟩ := bo h
 rcases r13 with _ | _
 ·obtain rfl := oi h; exact rf Tryz.func195 none [.sum [1, 4, 7, 8, 9] [] .ret [(4, .y false)] []] (pc (k_names_all_int_judge_peers_1_L1 _ _ h12)<|pn)
 ·obtain rfl := oi h; exact rf Tryz.func195 none [.sum [1, 4, 7, 8, 9] [] (.exit 0) [(4, .y false)] []] (pc (k_names_all_int_judge_peers_1_L1 _ _ h12)<|pn)

theorem k_names_judge_peers {a1 : Names_judge} {a2 : Int} {a3 : Api_Domain} {r : Bool} (h : names_judge_peers a1 a2 a3 = some r) :
  CallsOK Tryz.prog UU 127 [.agg (c190 a1), .j a2, .agg (c90 a3)] [] (.y r) [] := by
 unfold names_judge_peers at h
 obtain ⟨r4, h5, h⟩ := bo h
 obtain rfl := oi h; exact rf Tryz.func127 none [.b r4] (pc (k_names_all_int_judge_peers_1 h5)<|pn)

theorem k_names_all_Domain_judge_peers_L1 {a1 : List Api_Domain} {a2 : Names_judge} : LoopOK Tryz.prog UU 0 20 (subC (codeOf Tryz.f125) [1, 0, 1, 0, 0]) (ρ := Unit ⊕ Unit) (names_all_Domain_judge_peers_L1 a1 a2)
  (fun v3 : Int => ([(1, .fn (.func 127) [.agg (c190 a2)] []), (4, .y false), (7, .sl 90 a1), (8, .j (a1.length : Int)), (9, .j v3)] : Fr DD)) (fun v3 : Int => ([] : Heap DD)) (fun r => match r with | Sum.inl _ => .ret | Sum.inr _ => .exit 0) (fun r => match r with | Sum.inl _ => [(4, .y false)] | Sum.inr _ => [(4, .y false)]) (fun r => match r with | Sum.inl _ => [] | Sum.inr _ => []) := by
 refine loop_sound3 (fun s q h => ?_) (fun r => ?_)
 ·replace h : names_all_Domain_judge_peers_L1 a1 a2 s = some q := h; revert h; revert s; intro v3 h
  unfold names_all_Domain_judge_peers_L1 at h
  obtain ⟨h4, h⟩|⟨h4, h⟩ := ite_out h
  ·obtain ⟨x5, h6, h⟩ := bo h
   obtain ⟨r7, h8, h⟩ := bo h
   obtain ⟨h9, h⟩|⟨h9, h⟩ := ite_out h
   ·obtain rfl := oi h; exact rl [4] [] [.t, .row (c90 x5), .b r7, .t] (pc h4<|pc (ob90 h6)<|pc (k_names_judge_peers h8)<|pc h9<|pn)
   ·obtain rfl := oi h; exact rl [1, 4, 7, 8, 9] [] [.t, .row (c90 x5), .b r7, .f] (pc h4<|pc (ob90 h6)<|pc (k_names_judge_peers h8)<|pc h9<|pn)
  ·obtain rfl := oi h; exact rl [4] [] [.f] (pc h4<|pn)
 ·rcases r with _ | _ <;> exact Ex.noConfusion

theorem k_names_all_Domain_judge_peers {a1 : List Api_Domain} {a2 : Names_judge} {r : Bool} (h : names_all_Domain_judge_peers a1 a2 = some r) :
  CallsOK Tryz.prog UU 125 [.sl 90 a1, .fn (.func 127) [.agg (c190 a2)] []] [] (.y r) [] := by
 unfold names_all_Domain_judge_peers at h
 obtain ⟨r11, h10, h⟩ := bo h
 rcases r11 with _ | _
 ·obtain rfl := oi h; exact rf Tryz.func125 none [.sum [1, 4, 7, 8, 9] [] .ret [(4, .y false)] []] (pc (k_names_all_Domain_judge_peers_L1 _ _ h10)<|pn)
 ·obtain rfl := oi h; exact rf Tryz.func125 none [.sum [1, 4, 7, 8, 9] [] (.exit 0) [(4, .y false)] []] (pc (k_names_all_Domain_judge_peers_L1 _ _ h10)<|pn)

theorem k_names_rising {a1 : List Int} {a2 : Int} {r : Bool} (h : names_rising a1 a2 = some r) :
  CallsOK Tryz.prog UU 139 [.sl 3 a1, .j a2] [] (.y r) [] := by
 unfold names_rising at h
 obtain ⟨h3, h⟩|⟨h3, h⟩ := ite_out h
 ·obtain rfl := oi h; exact rf Tryz.func139 none [.t] (pc h3<|pn)
 ·obtain ⟨r4, h5, h⟩ := bo h
  obtain rfl := oi h; exact rf Tryz.func139 none [.f, .b r4] (pc h3<|pc (k_num_Rising h5)<|pn)

theorem k_names_place_Link {a1 : List Api_Link} {a2 : Int} {r : Bool} (h : names_place_Link a1 a2 = some r) :
  CallsOK Tryz.prog UU 198 [.sl 174 a1, .j a2] [] (.y r) [] := by
 unfold names_place_Link at h
 obtain ⟨h3, h⟩|⟨h3, h⟩ := ite_out h
 ·obtain rfl := oi h; exact rf Tryz.func198 none [.t] (pc h3<|pn)
 ·obtain rfl := oi h; exact rf Tryz.func198 none [.f] (pc h3<|pn)

theorem k_names_judge_port_J1 {a1 : Names_judge} {a2 : Int} {a3 : Api_Port} {r : Unit ⊕ Unit} (h : names_judge_port_J1 a1 a2 a3 = some r) :
  ExecOK Tryz.prog UU 0 111 (subC (codeOf Tryz.f129) [1, 0]) [(1, .j a2), (3, .o 0), (5, .o 1), (6, .y false)] [.box 190 (c190 a1) false, .box 110 (c110 a3) false] ((fun r => match r with | Sum.inl _ => .ret | Sum.inr _ => .nor) r) ((fun r => match r with | Sum.inl _ => [(6, .y false)] | Sum.inr _ => [(1, .j a2), (3, .o 0), (5, .o 1), (6, .y false)]) r) ((fun r => match r with | Sum.inl _ => [] | Sum.inr _ => [.box 190 (c190 a1) false, .box 110 (c110 a3) false]) r) := by
 unfold names_judge_port_J1 at h
 obtain ⟨r4, h5, h⟩ := bo h
 obtain ⟨h6, h⟩|⟨h6, h⟩ := ite_out h
 ·obtain rfl := oi h; exact rl [6] [] [.b r4, .t] (pc (k_names_place_Device h5)<|pc h6<|pn)
 ·obtain ⟨h7, h⟩|⟨h7, h⟩ := ite_out h
  ·obtain rfl := oi h; exact rl [6] [] [.b r4, .f, .t] (pc (k_names_place_Device h5)<|pc h6<|pc h7<|pn)
  ·obtain ⟨h8, h⟩|⟨h8, h⟩ := ite_out h
   ·obtain rfl := oi h; exact rl [6] [] [.b r4, .f, .f, .t] (pc (k_names_place_Device h5)<|pc h6<|pc h7<|pc h8<|pn)
   ·obtain ⟨r9, h10, h⟩ := bo h
    obtain ⟨h11, h⟩|⟨h11, h⟩ := ite_out h
    ·obtain rfl := oi h; exact rl [6] [] [.b r4, .f, .f, .f, .b r9, .t] (pc (k_names_place_Device h5)<|pc h6<|pc h7<|pc h8<|pc (k_names_rising h10)<|pc h11<|pn)
    ·obtain ⟨r12, h13, h⟩ := bo h
     obtain ⟨h14, h⟩|⟨h14, h⟩ := ite_out h
     ·obtain rfl := oi h; exact rl [6] [] [.b r4, .f, .f, .f, .b r9, .f, .b r12, .t] (pc (k_names_place_Device h5)<|pc h6<|pc h7<|pc h8<|pc (k_names_rising h10)<|pc h11<|pc (k_slices_Contains_int h13)<|pc h14<|pn)
     ·obtain ⟨h15, h⟩|⟨h15, h⟩ := ite_out h
      ·obtain ⟨h16, h⟩|⟨h16, h⟩ := ite_out h
       ·obtain rfl := oi h; exact rl [6] [] [.b r4, .f, .f, .f, .b r9, .f, .b r12, .f, .t, .t] (pc (k_names_place_Device h5)<|pc h6<|pc h7<|pc h8<|pc (k_names_rising h10)<|pc h11<|pc (k_slices_Contains_int h13)<|pc h14<|pc h15<|pc h16<|pn)
       ·obtain rfl := oi h; exact rl [1, 3, 5, 6] [0, 1] [.b r4, .f, .f, .f, .b r9, .f, .b r12, .f, .t, .f] (pc (k_names_place_Device h5)<|pc h6<|pc h7<|pc h8<|pc (k_names_rising h10)<|pc h11<|pc (k_slices_Contains_int h13)<|pc h14<|pc h15<|pc h16<|pn)
      ·obtain rfl := oi h; exact rl [1, 3, 5, 6] [0, 1] [.b r4, .f, .f, .f, .b r9, .f, .b r12, .f, .f] (pc (k_names_place_Device h5)<|pc h6<|pc h7<|pc h8<|pc (k_names_rising h10)<|pc h11<|pc (k_slices_Contains_int h13)<|pc h14<|pc h15<|pn)

theorem k_names_judge_port_L2 {a1 : Names_judge} {a2 : Int} {a3 : Api_Port} : LoopOK Tryz.prog UU 0 111 (subC (codeOf Tryz.f129) [1, 1, 0, 1, 0, 0]) (ρ := Unit ⊕ Unit) (names_judge_port_L2 a1 a2 a3)
  (fun v19 : Int => ([(1, .j a2), (3, .o 0), (5, .o 1), (6, .y false), (51, .sl 3 a3.tagged), (52, .j (a3.tagged.length : Int)), (53, .j v19)] : Fr DD)) (fun v19 : Int => ([.box 190 (c190 a1) false, .box 110 (c110 a3) false] : Heap DD)) (fun r => match r with | Sum.inl _ => .ret | Sum.inr _ => .exit 0) (fun r => match r with | Sum.inl _ => [(6, .y false)] | Sum.inr _ => [(1, .j a2), (3, .o 0), (5, .o 1), (6, .y false)]) (fun r => match r with | Sum.inl _ => [] | Sum.inr _ => [.box 190 (c190 a1) false, .box 110 (c110 a3) false]) := by
 refine loop_sound3 (fun s q h => ?_) (fun r => ?_)
 ·replace h : names_judge_port_L2 a1 a2 a3 s = some q := h; revert h; revert s; intro v19 h
  unfold names_judge_port_L2 at h
  obtain ⟨h20, h⟩|⟨h20, h⟩ := ite_out h
  ·obtain ⟨x21, h22, h⟩ := bo h
   obtain ⟨r23, h24, h⟩ := bo h
   obtain ⟨h25, h⟩|⟨h25, h⟩ := ite_out h
   ·obtain rfl := oi h; exact rl [6] [] [.t, .row (c3 x21), .callv (.j r23), .t] (pc h20<|pc (ob3 h22)<|pc (k_names_judge_domain h24)<|pc h25<|pn)
   ·obtain rfl := oi h; exact rl [1, 3, 5, 6, 51, 52, 53] [0, 1] [.t, .row (c3 x21), .callv (.j r23), .f] (pc h20<|pc (ob3 h22)<|pc (k_names_judge_domain h24)<|pc h25<|pn)
  ·obtain rfl := oi h; exact rl [1, 3, 5, 6] [0, 1] [.f] (pc h20<|pn)
 ·rcases r with _ | _ <;> exact Ex.noConfusion

theorem k_names_judge_port_J3 {a1 : Names_judge} {a2 : Int} {a3 : Api_Port} {r : Unit ⊕ Unit} (h : names_judge_port_J3 a1 a2 a3 = some r) :
  ExecOK Tryz.prog UU 0 111 (subC (codeOf Tryz.f129) [1, 1, 1, 0]) [(1, .j a2), (3, .o 0), (5, .o 1), (6, .y false)] [.box 190 (c190 a1) false, .box 110 (c110 a3) false] ((fun r => match r with | Sum.inl _ => .ret | Sum.inr _ => .nor) r) ((fun r => match r with | Sum.inl _ => [(6, .y false)] | Sum.inr _ => [(1, .j a2), (3, .o 0), (5, .o 1), (6, .y false)]) r) ((fun r => match r with | Sum.inl _ => [] | Sum.inr _ => [.box 190 (c190 a1) false, .box 110 (c110 a3) false]) r) := by
 unfold names_judge_port_J3 at h
 obtain ⟨h28, h⟩|⟨h28, h⟩ := ite_out h
 ·obtain ⟨r29, h30, h⟩ := bo h
  obtain ⟨h31, h⟩|⟨h31, h⟩ := ite_out h
  ·obtain rfl := oi h; exact rl [6] [] [.t, .callv (.j r29), .t] (pc h28<|pc (k_names_judge_domain h30)<|pc h31<|pn)
  ·obtain rfl := oi h; exact rl [1, 3, 5, 6] [0, 1] [.t, .callv (.j r29), .f] (pc h28<|pc (k_names_judge_domain h30)<|pc h31<|pn)
 ·obtain rfl := oi h; exact rl [1, 3, 5, 6] [0, 1] [.f] (pc h28<|pn)

theorem k_names_judge_port {a1 : Names_judge} {a2 : Int} {a3 : Api_Port} {r : Bool} (h : names_judge_port a1 a2 a3 = some r) :
  CallsOK Tryz.prog UU 129 [.agg (c190 a1), .j a2, .agg (c110 a3)] [] (.y r) [] := by
 unfold names_judge_port at h
 obtain ⟨r18, h17, h⟩ := bo h
 rcases r18 with _ | _
 ·obtain rfl := oi h; exact rf Tryz.func129 none [.skp, .cut [1, 3, 5, 6] [0, 1] .ret [(6, .y false)] []] (pc (k_names_judge_port_J1 h17)<|pn)
 ·obtain ⟨r27, h26, h⟩ := bo h
  rcases r27 with _ | _
  ·obtain rfl := oi h; exact rf Tryz.func129 none [.skp, .cut [1, 3, 5, 6] [0, 1] .nor [(1, .j a2), (3, .o 0), (5, .o 1), (6, .y false)] [.box 190 (c190 a1) false, .box 110 (c110 a3) false], .sum [1, 3, 5, 6, 51, 52, 53] [0, 1] .ret [(6, .y false)] []] (pc (k_names_judge_port_J1 h17)<|pc (k_names_judge_port_L2 _ _ h26)<|pn)
  ·obtain ⟨r33, h32, h⟩ := bo h
   rcases r33 with _ | _
   ·obtain rfl := oi h; exact rf Tryz.func129 none [.skp, .cut [1, 3, 5, 6] [0, 1] .nor [(1, .j a2), (3, .o 0), (5, .o 1), (6, .y false)] [.box 190 (c190 a1) false, .box 110 (c110 a3) false], .sum [1, 3, 5, 6, 51, 52, 53] [0, 1] (.exit 0) [(1, .j a2), (3, .o 0), (5, .o 1), (6, .y false)] [.box 190 (c190 a1) false, .box 110 (c110 a3) false], .cut [1, 3, 5, 6] [0, 1] .ret [(6, .y false)] []] (pc (k_names_judge_port_J1 h17)<|pc (k_names_judge_port_L2 _ _ h26)<|pc (k_names_judge_port_J3 h32)<|pn)
   ·obtain ⟨h34, h⟩|⟨h34, h⟩ := ite_out h
    ·obtain rfl := oi h; exact rf Tryz.func129 none [.skp, .cut [1, 3, 5, 6] [0, 1] .nor [(1, .j a2), (3, .o 0), (5, .o 1), (6, .y false)] [.box 190 (c190 a1) false, .box 110 (c110 a3) false], .sum [1, 3, 5, 6, 51, 52, 53] [0, 1] (.exit 0) [(1, .j a2), (3, .o 0), (5, .o 1), (6, .y false)] [.box 190 (c190 a1) false, .box 110 (c110 a3) false], .cut [1, 3, 5, 6] [0, 1] .nor [(1, .j a2), (3, .o 0), (5, .o 1), (6, .y false)] [.box 190 (c190 a1) false, .box 110 (c110 a3) false], .t] (pc (k_names_judge_port_J1 h17)<|pc (k_names_judge_port_L2 _ _ h26)<|pc (k_names_judge_port_J3 h32)<|pc h34<|pn)
    ·obtain ⟨r35, h36, h⟩ := bo h
     obtain ⟨h37, h⟩|⟨h37, h⟩ := ite_out h
     ·obtain ⟨x38, h39, h⟩ := bo h
      obtain ⟨h40, h⟩|⟨h40, h⟩ := ite_out h
      ·obtain rfl := oi h; exact rf Tryz.func129 none [.skp, .cut [1, 3, 5, 6] [0, 1] .nor [(1, .j a2), (3, .o 0), (5, .o 1), (6, .y false)] [.box 190 (c190 a1) false, .box 110 (c110 a3) false], .sum [1, 3, 5, 6, 51, 52, 53] [0, 1] (.exit 0) [(1, .j a2), (3, .o 0), (5, .o 1), (6, .y false)] [.box 190 (c190 a1) false, .box 110 (c110 a3) false], .cut [1, 3, 5, 6] [0, 1] .nor [(1, .j a2), (3, .o 0), (5, .o 1), (6, .y false)] [.box 190 (c190 a1) false, .box 110 (c110 a3) false], .f, .b r35, .t, .row (c174 x38), .t] (pc (k_names_judge_port_J1 h17)<|pc (k_names_judge_port_L2 _ _ h26)<|pc (k_names_judge_port_J3 h32)<|pc h34<|pc (k_names_place_Link h36)<|pc h37<|pc (ob174 h39)<|pc h40<|pn)
      ·obtain ⟨x41, h42, h⟩ := bo h
       obtain rfl := oi h; exact rf Tryz.func129 none [.skp, .cut [1, 3, 5, 6] [0, 1] .nor [(1, .j a2), (3, .o 0), (5, .o 1), (6, .y false)] [.box 190 (c190 a1) false, .box 110 (c110 a3) false], .sum [1, 3, 5, 6, 51, 52, 53] [0, 1] (.exit 0) [(1, .j a2), (3, .o 0), (5, .o 1), (6, .y false)] [.box 190 (c190 a1) false, .box 110 (c110 a3) false], .cut [1, 3, 5, 6] [0, 1] .nor [(1, .j a2), (3, .o 0), (5, .o 1), (6, .y false)] [.box 190 (c190 a1) false, .box 110 (c110 a3) false], .f, .b r35, .t, .row (c174 x38), .f, .row (c174 x41)] (pc (k_names_judge_port_J1 h17)<|pc (k_names_judge_port_L2 _ _ h26)<|pc (k_names_judge_port_J3 h32)<|pc h34<|pc (k_names_place_Link h36)<|pc h37<|pc (ob174 h39)<|pc h40<|pc (ob174 h42)<|pn)
     ·obtain rfl := oi h; exact rf Tryz.func129 none [.skp, .cut [1, 3, 5, 6] [0, 1] .nor [(1, .j a2), (3, .o 0), (5, .o 1), (6, .y false)] [.box 190 (c190 a1) false, .box 110 (c110 a3) false], .sum [1, 3, 5, 6, 51, 52, 53] [0, 1] (.exit 0) [(1, .j a2), (3, .o 0), (5, .o 1), (6, .y false)] [.box 190 (c190 a1) false, .box 110 (c110 a3) false], .cut [1, 3, 5, 6] [0, 1] .nor [(1, .j a2), (3, .o 0), (5, .o 1), (6, .y false)] [.box 190 (c190 a1) false, .box 110 (c110 a3) false], .f, .b r35, .f] (pc (k_names_judge_port_J1 h17)<|pc (k_names_judge_port_L2 _ _ h26)<|pc (k_names_judge_port_J3 h32)<|pc h34<|pc (k_names_place_Link h36)<|pc h37<|pn)

theorem k_names_all_Port_judge_port_L1 {a1 : List Api_Port} {a2 : Names_judge} : LoopOK Tryz.prog UU 0 20 (subC (codeOf Tryz.f128) [1, 0, 1, 0, 0]) (ρ := Unit ⊕ Unit) (names_all_Port_judge_port_L1 a1 a2)
  (fun v3 : Int => ([(1, .fn (.func 129) [.agg (c190 a2)] []), (4, .y false), (7, .sl 110 a1), (8, .j (a1.length : Int)), (9, .j v3)] : Fr DD)) (fun v3 : Int => ([] : Heap DD)) (fun r => match r with | Sum.inl _ => .ret | Sum.inr _ => .exit 0) (fun r => match r with | Sum.inl _ => [(4, .y false)] | Sum.inr _ => [(4, .y false)]) (fun r => match r with | Sum.inl _ => [] | Sum.inr _ => []) := by
 refine loop_sound3 (fun s q h => ?_) (fun r => ?_)
 ·replace h : names_all_Port_judge_port_L1 a1 a2 s = some q := h; revert h; revert s; intro v3 h
  unfold names_all_Port_judge_port_L1 at h
  obtain ⟨h4, h⟩|⟨h4, h⟩ := ite_out h
  ·obtain ⟨x5, h6, h⟩ := bo h
   obtain ⟨r7, h8, h⟩ := bo h
   obtain ⟨h9, h⟩|⟨h9, h⟩ := ite_out h
   ·obtain rfl := oi h; exact rl [4] [] [.t, .row (c110 x5), .b r7, .t] (pc h4<|pc (ob110 h6)<|pc (k_names_judge_port h8)<|pc h9<|pn)
   ·obtain rfl := oi h; exact rl [1, 4, 7, 8, 9] [] [.t, .row (c110 x5), .b r7, .f] (pc h4<|pc (ob110 h6)<|pc (k_names_judge_port h8)<|pc h9<|pn)
  ·obtain rfl := oi h; exact rl [4] [] [.f] (pc h4<|pn)
 ·rcases r with _ | _ <;> exact Ex.noConfusion

theorem k_names_all_Port_judge_port {a1 : List Api_Port} {a2 : Names_judge} {r : Bool} (h : names_all_Port_judge_port a1 a2 = some r) :
  CallsOK Tryz.prog UU 128 [.sl 110 a1, .fn (.func 129) [.agg (c190 a2)] []] [] (.y r) [] := by
 unfold names_all_Port_judge_port at h
 obtain ⟨r11, h10, h⟩ := bo h
 rcases r11 with _ | _
 ·obtain rfl := oi h; exact rf Tryz.func128 none [.sum [1, 4, 7, 8, 9] [] .ret [(4, .y false)] []] (pc (k_names_all_Port_judge_port_L1 _ _ h10)<|pn)
 ·obtain rfl := oi h; exact rf Tryz.func128 none [.sum [1, 4, 7, 8, 9] [] (.exit 0) [(4, .y false)] []] (pc (k_names_all_Port_judge_port_L1 _ _ h10)<|pn)

theorem k_names_place_Port {a1 : List Api_Port} {a2 : Int} {r : Bool} (h : names_place_Port a1 a2 = some r) :
  CallsOK Tryz.prog UU 199 [.sl 110 a1, .j a2] [] (.y r) [] := by
 unfold names_place_Port at h
 obtain ⟨h3, h⟩|⟨h3, h⟩ := ite_out h
 ·obtain rfl := oi h; exact rf Tryz.func199 none [.t] (pc h3<|pn)
 ·obtain rfl := oi h; exact rf Tryz.func199 none [.f] (pc h3<|pn)

theorem k_names_judge_link {a1 : Names_judge} {a2 : Int} {a3 : Api_Link} {r : Bool} (h : names_judge_link a1 a2 a3 = some r) :
  CallsOK Tryz.prog UU 131 [.agg (c190 a1), .j a2, .agg (c174 a3)] [] (.y r) [] := by
 unfold names_judge_link at h
 obtain ⟨r4, h5, h⟩ := bo h
 obtain ⟨h6, h⟩|⟨h6, h⟩ := ite_out h
 ·obtain rfl := oi h; exact rf Tryz.func131 none [.b r4, .t] (pc (k_names_place_Port h5)<|pc h6<|pn)
 ·obtain ⟨r7, h8, h⟩ := bo h
  obtain ⟨h9, h⟩|⟨h9, h⟩ := ite_out h
  ·obtain rfl := oi h; exact rf Tryz.func131 none [.b r4, .f, .b r7, .t] (pc (k_names_place_Port h5)<|pc h6<|pc (k_names_place_Port h8)<|pc h9<|pn)
  ·obtain ⟨x10, h11, h⟩ := bo h
   obtain ⟨x12, h13, h⟩ := bo h
   obtain ⟨h14, h⟩|⟨h14, h⟩ := ite_out h
   ·obtain ⟨h15, h⟩|⟨h15, h⟩ := ite_out h
    ·obtain rfl := oi h; exact rf Tryz.func131 none [.b r4, .f, .b r7, .f, .row (c110 x10), .row (c110 x12), .t, .t] (pc (k_names_place_Port h5)<|pc h6<|pc (k_names_place_Port h8)<|pc h9<|pc (ob110 h11)<|pc (ob110 h13)<|pc h14<|pc h15<|pn)
    ·obtain rfl := oi h; exact rf Tryz.func131 none [.b r4, .f, .b r7, .f, .row (c110 x10), .row (c110 x12), .t, .f] (pc (k_names_place_Port h5)<|pc h6<|pc (k_names_place_Port h8)<|pc h9<|pc (ob110 h11)<|pc (ob110 h13)<|pc h14<|pc h15<|pn)
   ·obtain rfl := oi h; exact rf Tryz.func131 none [.b r4, .f, .b r7, .f, .row (c110 x10), .row (c110 x12), .f] (pc (k_names_place_Port h5)<|pc h6<|pc (k_names_place_Port h8)<|pc h9<|pc (ob110 h11)<|pc (ob110 h13)<|pc h14<|pn)

theorem k_names_all_Link_judge_link_L1 {a1 : List Api_Link} {a2 : Names_judge} : LoopOK Tryz.prog UU 0 20 (subC (codeOf Tryz.f130) [1, 0, 1, 0, 0]) (ρ := Unit ⊕ Unit) (names_all_Link_judge_link_L1 a1 a2)
  (fun v3 : Int => ([(1, .fn (.func 131) [.agg (c190 a2)] []), (4, .y false), (7, .sl 174 a1), (8, .j (a1.length : Int)), (9, .j v3)] : Fr DD)) (fun v3 : Int => ([] : Heap DD)) (fun r => match r with | Sum.inl _ => .ret | Sum.inr _ => .exit 0) (fun r => match r with | Sum.inl _ => [(4, .y false)] | Sum.inr _ => [(4, .y false)]) (fun r => match r with | Sum.inl _ => [] | Sum.inr _ => []) := by
 refine loop_sound3 (fun s q h => ?_) (fun r => ?_)
 ·replace h : names_all_Link_judge_link_L1 a1 a2 s = some q := h; revert h; revert s; intro v3 h
  unfold names_all_Link_judge_link_L1 at h
  obtain ⟨h4, h⟩|⟨h4, h⟩ := ite_out h
  ·obtain ⟨x5, h6, h⟩ := bo h
   obtain ⟨r7, h8, h⟩ := bo h
   obtain ⟨h9, h⟩|⟨h9, h⟩ := ite_out h
   ·obtain rfl := oi h; exact rl [4] [] [.t, .row (c174 x5), .b r7, .t] (pc h4<|pc (ob174 h6)<|pc (k_names_judge_link h8)<|pc h9<|pn)
   ·obtain rfl := oi h; exact rl [1, 4, 7, 8, 9] [] [.t, .row (c174 x5), .b r7, .f] (pc h4<|pc (ob174 h6)<|pc (k_names_judge_link h8)<|pc h9<|pn)
  ·obtain rfl := oi h; exact rl [4] [] [.f] (pc h4<|pn)
 ·rcases r with _ | _ <;> exact Ex.noConfusion

theorem k_names_all_Link_judge_link {a1 : List Api_Link} {a2 : Names_judge} {r : Bool} (h : names_all_Link_judge_link a1 a2 = some r) :
  CallsOK Tryz.prog UU 130 [.sl 174 a1, .fn (.func 131) [.agg (c190 a2)] []] [] (.y r) [] := by
 unfold names_all_Link_judge_link at h
 obtain ⟨r11, h10, h⟩ := bo h
 rcases r11 with _ | _
 ·obtain rfl := oi h; exact rf Tryz.func130 none [.sum [1, 4, 7, 8, 9] [] .ret [(4, .y false)] []] (pc (k_names_all_Link_judge_link_L1 _ _ h10)<|pn)
 ·obtain rfl := oi h; exact rf Tryz.func130 none [.sum [1, 4, 7, 8, 9] [] (.exit 0) [(4, .y false)] []] (pc (k_names_all_Link_judge_link_L1 _ _ h10)<|pn)

theorem k_names_Member {a1 : Api_Port} {a2 : Int} {r : Bool} (h : names_Member a1 a2 = some r) :
  CallsOK Tryz.prog UU 174 [.agg (c110 a1), .j a2] [] (.y r) [] := by
 unfold names_Member at h
 obtain ⟨h3, h⟩|⟨h3, h⟩ := ite_out h
 ·obtain ⟨h4, h⟩|⟨h4, h⟩ := ite_out h
  ·obtain rfl := oi h; exact rf Tryz.func174 none [.t, .t] (pc h3<|pc h4<|pn)
  ·obtain ⟨r5, h6, h⟩ := bo h
   obtain rfl := oi h; exact rf Tryz.func174 none [.t, .f, .b r5] (pc h3<|pc h4<|pc (k_slices_Contains_int h6)<|pn)
 ·obtain rfl := oi h; exact rf Tryz.func174 none [.f] (pc h3<|pn)

theorem k_names_judge_static {a1 : Names_judge} {a2 : Int} {a3 : Api_Static} {r : Bool} (h : names_judge_static a1 a2 a3 = some r) :
  CallsOK Tryz.prog UU 133 [.agg (c190 a1), .j a2, .agg (c178 a3)] [] (.y r) [] := by
 unfold names_judge_static at h
 obtain ⟨r4, h5, h⟩ := bo h
 obtain ⟨h6, h⟩|⟨h6, h⟩ := ite_out h
 ·obtain rfl := oi h; exact rf Tryz.func133 none [.b r4, .t] (pc (k_names_place_Domain h5)<|pc h6<|pn)
 ·obtain ⟨r7, h8, h⟩ := bo h
  obtain ⟨h9, h⟩|⟨h9, h⟩ := ite_out h
  ·obtain rfl := oi h; exact rf Tryz.func133 none [.b r4, .f, .b r7, .t] (pc (k_names_place_Domain h5)<|pc h6<|pc (k_names_place_Port h8)<|pc h9<|pn)
  ·obtain ⟨x10, h11, h⟩ := bo h
   obtain ⟨x12, h13, h⟩ := bo h
   obtain ⟨h14, h⟩|⟨h14, h⟩ := ite_out h
   ·obtain ⟨r15, h16, h⟩ := bo h
    obtain rfl := oi h; exact rf Tryz.func133 none [.b r4, .f, .b r7, .f, .row (c110 x10), .row (c90 x12), .t, .b r15] (pc (k_names_place_Domain h5)<|pc h6<|pc (k_names_place_Port h8)<|pc h9<|pc (ob110 h11)<|pc (ob90 h13)<|pc h14<|pc (k_names_Member h16)<|pn)
   ·obtain rfl := oi h; exact rf Tryz.func133 none [.b r4, .f, .b r7, .f, .row (c110 x10), .row (c90 x12), .f] (pc (k_names_place_Domain h5)<|pc h6<|pc (k_names_place_Port h8)<|pc h9<|pc (ob110 h11)<|pc (ob90 h13)<|pc h14<|pn)

theorem k_names_all_Static_judge_static_L1 {a1 : List Api_Static} {a2 : Names_judge} : LoopOK Tryz.prog UU 0 20 (subC (codeOf Tryz.f132) [1, 0, 1, 0, 0]) (ρ := Unit ⊕ Unit) (names_all_Static_judge_static_L1 a1 a2)
  (fun v3 : Int => ([(1, .fn (.func 133) [.agg (c190 a2)] []), (4, .y false), (7, .sl 178 a1), (8, .j (a1.length : Int)), (9, .j v3)] : Fr DD)) (fun v3 : Int => ([] : Heap DD)) (fun r => match r with | Sum.inl _ => .ret | Sum.inr _ => .exit 0) (fun r => match r with | Sum.inl _ => [(4, .y false)] | Sum.inr _ => [(4, .y false)]) (fun r => match r with | Sum.inl _ => [] | Sum.inr _ => []) := by
 refine loop_sound3 (fun s q h => ?_) (fun r => ?_)
 ·replace h : names_all_Static_judge_static_L1 a1 a2 s = some q := h; revert h; revert s; intro v3 h
  unfold names_all_Static_judge_static_L1 at h
  obtain ⟨h4, h⟩|⟨h4, h⟩ := ite_out h
  ·obtain ⟨x5, h6, h⟩ := bo h
   obtain ⟨r7, h8, h⟩ := bo h
   obtain ⟨h9, h⟩|⟨h9, h⟩ := ite_out h
   ·obtain rfl := oi h; exact rl [4] [] [.t, .row (c178 x5), .b r7, .t] (pc h4<|pc (ob178 h6)<|pc (k_names_judge_static h8)<|pc h9<|pn)
   ·obtain rfl := oi h; exact rl [1, 4, 7, 8, 9] [] [.t, .row (c178 x5), .b r7, .f] (pc h4<|pc (ob178 h6)<|pc (k_names_judge_static h8)<|pc h9<|pn)
  ·obtain rfl := oi h; exact rl [4] [] [.f] (pc h4<|pn)
 ·rcases r with _ | _ <;> exact Ex.noConfusion

theorem k_names_all_Static_judge_static {a1 : List Api_Static} {a2 : Names_judge} {r : Bool} (h : names_all_Static_judge_static a1 a2 = some r) :
  CallsOK Tryz.prog UU 132 [.sl 178 a1, .fn (.func 133) [.agg (c190 a2)] []] [] (.y r) [] := by
 unfold names_all_Static_judge_static at h
 obtain ⟨r11, h10, h⟩ := bo h
 rcases r11 with _ | _
 ·obtain rfl := oi h; exact rf Tryz.func132 none [.sum [1, 4, 7, 8, 9] [] .ret [(4, .y false)] []] (pc (k_names_all_Static_judge_static_L1 _ _ h10)<|pn)
 ·obtain rfl := oi h; exact rf Tryz.func132 none [.sum [1, 4, 7, 8, 9] [] (.exit 0) [(4, .y false)] []] (pc (k_names_all_Static_judge_static_L1 _ _ h10)<|pn)

theorem k_names_Right_1 {a1 : Int} {a2 : Api_Flood} {a3 : Api_Net} {r : Bool} (h : names_Right_1 a1 a2 a3 = some r) :
  CallsOK Tryz.prog UU 135 [.j a1, .agg (c113 a2), .rp (c31 a3) 0] [] (.y r) [] := by
 unfold names_Right_1 at h
 obtain ⟨r4, h5, h⟩ := bo h
 obtain ⟨h6, h⟩|⟨h6, h⟩ := ite_out h
 ·obtain rfl := oi h; exact rf Tryz.func135 none [.b r4, .t] (pc (k_names_place_Device h5)<|pc h6<|pn)
 ·obtain rfl := oi h; exact rf Tryz.func135 none [.b r4, .f] (pc (k_names_place_Device h5)<|pc h6<|pn)

theorem k_names_all_Flood_Right_1_L1 {a1 : List Api_Flood} {a2 : Api_Net} : LoopOK Tryz.prog UU 0 20 (subC (codeOf Tryz.f134) [1, 0, 1, 0, 0]) (ρ := Unit ⊕ Unit) (names_all_Flood_Right_1_L1 a1 a2)
  (fun v3 : Int => ([(1, .fn (.func 135) [] [.rp (c31 a2) 0]), (4, .y false), (7, .sl 113 a1), (8, .j (a1.length : Int)), (9, .j v3)] : Fr DD)) (fun v3 : Int => ([] : Heap DD)) (fun r => match r with | Sum.inl _ => .ret | Sum.inr _ => .exit 0) (fun r => match r with | Sum.inl _ => [(4, .y false)] | Sum.inr _ => [(4, .y false)]) (fun r => match r with | Sum.inl _ => [] | Sum.inr _ => []) := by
 refine loop_sound3 (fun s q h => ?_) (fun r => ?_)
 ·replace h : names_all_Flood_Right_1_L1 a1 a2 s = some q := h; revert h; revert s; intro v3 h
  unfold names_all_Flood_Right_1_L1 at h
  obtain ⟨h4, h⟩|⟨h4, h⟩ := ite_out h
  ·obtain ⟨x5, h6, h⟩ := bo h
   obtain ⟨r7, h8, h⟩ := bo h
   obtain ⟨h9, h⟩|⟨h9, h⟩ := ite_out h
   ·obtain rfl := oi h; exact rl [4] [] [.t, .row (c113 x5), .b r7, .t] (pc h4<|pc (ob113 h6)<|pc (k_names_Right_1 h8)<|pc h9<|pn)
   ·obtain rfl := oi h; exact rl [1, 4, 7, 8, 9] [] [.t, .row (c113 x5), .b r7, .f] (pc h4<|pc (ob113 h6)<|pc (k_names_Right_1 h8)<|pc h9<|pn)
  ·obtain rfl := oi h; exact rl [4] [] [.f] (pc h4<|pn)
 ·rcases r with _ | _ <;> exact Ex.noConfusion

theorem k_names_all_Flood_Right_1 {a1 : List Api_Flood} {a2 : Api_Net} {r : Bool} (h : names_all_Flood_Right_1 a1 a2 = some r) :
  CallsOK Tryz.prog UU 134 [.sl 113 a1, .fn (.func 135) [] [.rp (c31 a2) 0]] [] (.y r) [] := by
 unfold names_all_Flood_Right_1 at h
 obtain ⟨r11, h10, h⟩ := bo h
 rcases r11 with _ | _
 ·obtain rfl := oi h; exact rf Tryz.func134 none [.sum [1, 4, 7, 8, 9] [] .ret [(4, .y false)] []] (pc (k_names_all_Flood_Right_1_L1 _ _ h10)<|pn)
 ·obtain rfl := oi h; exact rf Tryz.func134 none [.sum [1, 4, 7, 8, 9] [] (.exit 0) [(4, .y false)] []] (pc (k_names_all_Flood_Right_1_L1 _ _ h10)<|pn)

theorem k_names_Right_2 {a1 : Int} {a2 : Api_Vrf} {a3 : Api_Net} {r : Bool} (h : names_Right_2 a1 a2 a3 = some r) :
  CallsOK Tryz.prog UU 138 [.j a1, .agg (c88 a2), .rp (c31 a3) 0] [] (.y r) [] := by
 unfold names_Right_2 at h
 obtain ⟨r4, h5, h⟩ := bo h
 obtain ⟨h6, h⟩|⟨h6, h⟩ := ite_out h
 ·obtain ⟨r7, h8, h⟩ := bo h
  obtain ⟨h9, h⟩|⟨h9, h⟩ := ite_out h
  ·obtain ⟨r10, h11, h⟩ := bo h
   obtain rfl := oi h; exact rf Tryz.func138 none [.b r4, .t, .b r7, .t, .b r10] (pc (k_names_place_Device h5)<|pc h6<|pc (k_names_rising h8)<|pc h9<|pc (k_names_rising h11)<|pn)
  ·obtain rfl := oi h; exact rf Tryz.func138 none [.b r4, .t, .b r7, .f] (pc (k_names_place_Device h5)<|pc h6<|pc (k_names_rising h8)<|pc h9<|pn)
 ·obtain rfl := oi h; exact rf Tryz.func138 none [.b r4, .f] (pc (k_names_place_Device h5)<|pc h6<|pn)

theorem k_names_all_Vrf_Right_2_L1 {a1 : List Api_Vrf} {a2 : Api_Net} : LoopOK Tryz.prog UU 0 20 (subC (codeOf Tryz.f137) [1, 0, 1, 0, 0]) (ρ := Unit ⊕ Unit) (names_all_Vrf_Right_2_L1 a1 a2)
  (fun v3 : Int => ([(1, .fn (.func 138) [] [.rp (c31 a2) 0]), (4, .y false), (7, .sl 88 a1), (8, .j (a1.length : Int)), (9, .j v3)] : Fr DD)) (fun v3 : Int => ([] : Heap DD)) (fun r => match r with | Sum.inl _ => .ret | Sum.inr _ => .exit 0) (fun r => match r with | Sum.inl _ => [(4, .y false)] | Sum.inr _ => [(4, .y false)]) (fun r => match r with | Sum.inl _ => [] | Sum.inr _ => []) := by
 refine loop_sound3 (fun s q h => ?_) (fun r => ?_)
 ·replace h : names_all_Vrf_Right_2_L1 a1 a2 s = some q := h; revert h; revert s; intro v3 h
  unfold names_all_Vrf_Right_2_L1 at h
  obtain ⟨h4, h⟩|⟨h4, h⟩ := ite_out h
  ·obtain ⟨x5, h6, h⟩ := bo h
   obtain ⟨r7, h8, h⟩ := bo h
   obtain ⟨h9, h⟩|⟨h9, h⟩ := ite_out h
   ·obtain rfl := oi h; exact rl [4] [] [.t, .row (c88 x5), .b r7, .t] (pc h4<|pc (ob88 h6)<|pc (k_names_Right_2 h8)<|pc h9<|pn)
   ·obtain rfl := oi h; exact rl [1, 4, 7, 8, 9] [] [.t, .row (c88 x5), .b r7, .f] (pc h4<|pc (ob88 h6)<|pc (k_names_Right_2 h8)<|pc h9<|pn)
  ·obtain rfl := oi h; exact rl [4] [] [.f] (pc h4<|pn)
 ·rcases r with _ | _ <;> exact Ex.noConfusion

theorem k_names_all_Vrf_Right_2 {a1 : List Api_Vrf} {a2 : Api_Net} {r : Bool} (h : names_all_Vrf_Right_2 a1 a2 = some r) :
  CallsOK Tryz.prog UU 137 [.sl 88 a1, .fn (.func 138) [] [.rp (c31 a2) 0]] [] (.y r) [] := by
 unfold names_all_Vrf_Right_2 at h
 obtain ⟨r11, h10, h⟩ := bo h
 rcases r11 with _ | _
 ·obtain rfl := oi h; exact rf Tryz.func137 none [.sum [1, 4, 7, 8, 9] [] .ret [(4, .y false)] []] (pc (k_names_all_Vrf_Right_2_L1 _ _ h10)<|pn)
 ·obtain rfl := oi h; exact rf Tryz.func137 none [.sum [1, 4, 7, 8, 9] [] (.exit 0) [(4, .y false)] []] (pc (k_names_all_Vrf_Right_2_L1 _ _ h10)<|pn)

theorem k_names_place_Vrf {a1 : List Api_Vrf} {a2 : Int} {r : Bool} (h : names_place_Vrf a1 a2 = some r) :
  CallsOK Tryz.prog UU 201 [.sl 88 a1, .j a2] [] (.y r) [] := by
 unfold names_place_Vrf at h
 obtain ⟨h3, h⟩|⟨h3, h⟩ := ite_out h
 ·obtain rfl := oi h; exact rf Tryz.func201 none [.t] (pc h3<|pn)
 ·obtain rfl := oi h; exact rf Tryz.func201 none [.f] (pc h3<|pn)

theorem k_names_judge_irb {a1 : Names_judge} {a2 : Int} {a3 : Api_Irb} {r : Bool} (h : names_judge_irb a1 a2 a3 = some r) :
  CallsOK Tryz.prog UU 141 [.agg (c190 a1), .j a2, .agg (c105 a3)] [] (.y r) [] := by
 unfold names_judge_irb at h
 obtain ⟨r4, h5, h⟩ := bo h
 obtain ⟨h6, h⟩|⟨h6, h⟩ := ite_out h
 ·obtain ⟨r7, h8, h⟩ := bo h
  obtain ⟨h9, h⟩|⟨h9, h⟩ := ite_out h
  ·obtain ⟨x10, h11, h⟩ := bo h
   obtain ⟨x12, h13, h⟩ := bo h
   obtain ⟨h14, h⟩|⟨h14, h⟩ := ite_out h
   ·obtain ⟨x15, h16, h⟩ := bo h
    obtain ⟨h17, h⟩|⟨h17, h⟩ := ite_out h
    ·obtain ⟨h18, h⟩|⟨h18, h⟩ := ite_out h
     ·obtain rfl := oi h; exact rf Tryz.func141 none [.b r4, .t, .b r7, .t, .row (c90 x10), .row (c88 x12), .t, .row (c90 x15), .t, .t] (pc (k_names_place_Domain h5)<|pc h6<|pc (k_names_place_Vrf h8)<|pc h9<|pc (ob90 h11)<|pc (ob88 h13)<|pc h14<|pc (ob90 h16)<|pc h17<|pc h18<|pn)
     ·obtain rfl := oi h; exact rf Tryz.func141 none [.b r4, .t, .b r7, .t, .row (c90 x10), .row (c88 x12), .t, .row (c90 x15), .t, .f] (pc (k_names_place_Domain h5)<|pc h6<|pc (k_names_place_Vrf h8)<|pc h9<|pc (ob90 h11)<|pc (ob88 h13)<|pc h14<|pc (ob90 h16)<|pc h17<|pc h18<|pn)
    ·obtain rfl := oi h; exact rf Tryz.func141 none [.b r4, .t, .b r7, .t, .row (c90 x10), .row (c88 x12), .t, .row (c90 x15), .f] (pc (k_names_place_Domain h5)<|pc h6<|pc (k_names_place_Vrf h8)<|pc h9<|pc (ob90 h11)<|pc (ob88 h13)<|pc h14<|pc (ob90 h16)<|pc h17<|pn)
   ·obtain rfl := oi h; exact rf Tryz.func141 none [.b r4, .t, .b r7, .t, .row (c90 x10), .row (c88 x12), .f] (pc (k_names_place_Domain h5)<|pc h6<|pc (k_names_place_Vrf h8)<|pc h9<|pc (ob90 h11)<|pc (ob88 h13)<|pc h14<|pn)
  ·obtain rfl := oi h; exact rf Tryz.func141 none [.b r4, .t, .b r7, .f] (pc (k_names_place_Domain h5)<|pc h6<|pc (k_names_place_Vrf h8)<|pc h9<|pn)
 ·obtain rfl := oi h; exact rf Tryz.func141 none [.b r4, .f] (pc (k_names_place_Domain h5)<|pc h6<|pn)

theorem k_names_all_Irb_judge_irb_L1 {a1 : List Api_Irb} {a2 : Names_judge} : LoopOK Tryz.prog UU 0 20 (subC (codeOf Tryz.f140) [1, 0, 1, 0, 0]) (ρ := Unit ⊕ Unit) (names_all_Irb_judge_irb_L1 a1 a2)
  (fun v3 : Int => ([(1, .fn (.func 141) [.agg (c190 a2)] []), (4, .y false), (7, .sl 105 a1), (8, .j (a1.length : Int)), (9, .j v3)] : Fr DD)) (fun v3 : Int => ([] : Heap DD)) (fun r => match r with | Sum.inl _ => .ret | Sum.inr _ => .exit 0) (fun r => match r with | Sum.inl _ => [(4, .y false)] | Sum.inr _ => [(4, .y false)]) (fun r => match r with | Sum.inl _ => [] | Sum.inr _ => []) := by
 refine loop_sound3 (fun s q h => ?_) (fun r => ?_)
 ·replace h : names_all_Irb_judge_irb_L1 a1 a2 s = some q := h; revert h; revert s; intro v3 h
  unfold names_all_Irb_judge_irb_L1 at h
  obtain ⟨h4, h⟩|⟨h4, h⟩ := ite_out h
  ·obtain ⟨x5, h6, h⟩ := bo h
   obtain ⟨r7, h8, h⟩ := bo h
   obtain ⟨h9, h⟩|⟨h9, h⟩ := ite_out h
   ·obtain rfl := oi h; exact rl [4] [] [.t, .row (c105 x5), .b r7, .t] (pc h4<|pc (ob105 h6)<|pc (k_names_judge_irb h8)<|pc h9<|pn)
   ·obtain rfl := oi h; exact rl [1, 4, 7, 8, 9] [] [.t, .row (c105 x5), .b r7, .f] (pc h4<|pc (ob105 h6)<|pc (k_names_judge_irb h8)<|pc h9<|pn)
  ·obtain rfl := oi h; exact rl [4] [] [.f] (pc h4<|pn)
 ·rcases r with _ | _ <;> exact Ex.noConfusion

theorem k_names_all_Irb_judge_irb {a1 : List Api_Irb} {a2 : Names_judge} {r : Bool} (h : names_all_Irb_judge_irb a1 a2 = some r) :
  CallsOK Tryz.prog UU 140 [.sl 105 a1, .fn (.func 141) [.agg (c190 a2)] []] [] (.y r) [] := by
 unfold names_all_Irb_judge_irb at h
 obtain ⟨r11, h10, h⟩ := bo h
 rcases r11 with _ | _
 ·obtain rfl := oi h; exact rf Tryz.func140 none [.sum [1, 4, 7, 8, 9] [] .ret [(4, .y false)] []] (pc (k_names_all_Irb_judge_irb_L1 _ _ h10)<|pn)
 ·obtain rfl := oi h; exact rf Tryz.func140 none [.sum [1, 4, 7, 8, 9] [] (.exit 0) [(4, .y false)] []] (pc (k_names_all_Irb_judge_irb_L1 _ _ h10)<|pn)

theorem k_names_Right {a1 : Api_Net} {r : Bool} (h : names_Right a1 = some r) :
  CallsOK Tryz.prog UU 59 [.agg (c31 a1)] [] (.y r) [] := by
 unfold names_Right at h
 obtain ⟨r2, h3, h⟩ := bo h
 obtain ⟨h4, h⟩|⟨h4, h⟩ := ite_out h
 ·obtain ⟨r5, h6, h⟩ := bo h
  obtain ⟨h7, h⟩|⟨h7, h⟩ := ite_out h
  ·obtain ⟨r8, h9, h⟩ := bo h
   obtain ⟨h10, h⟩|⟨h10, h⟩ := ite_out h
   ·obtain ⟨r11, h12, h⟩ := bo h
    obtain ⟨h13, h⟩|⟨h13, h⟩ := ite_out h
    ·obtain ⟨r14, h15, h⟩ := bo h
     obtain ⟨h16, h⟩|⟨h16, h⟩ := ite_out h
     ·obtain ⟨r17, h18, h⟩ := bo h
      obtain ⟨h19, h⟩|⟨h19, h⟩ := ite_out h
      ·obtain ⟨r20, h21, h⟩ := bo h
       obtain ⟨h22, h⟩|⟨h22, h⟩ := ite_out h
       ·obtain ⟨r23, h24, h⟩ := bo h
        obtain ⟨h25, h⟩|⟨h25, h⟩ := ite_out h
        ·obtain ⟨r26, h27, h⟩ := bo h
         obtain rfl := oi h; exact rf Tryz.func59 none [.b r2, .t, .b r5, .t, .b r8, .t, .b r11, .t, .b r14, .t, .b r17, .t, .b r20, .t, .b r23, .t, .b r26] (pc (k_names_judge_few h3)<|pc h4<|pc (k_names_all_Domain_judge_bare h6)<|pc h7<|pc (k_names_all_Domain_judge_peers h9)<|pc h10<|pc (k_names_all_Port_judge_port h12)<|pc h13<|pc (k_names_all_Link_judge_link h15)<|pc h16<|pc (k_names_all_Static_judge_static h18)<|pc h19<|pc (k_names_all_Flood_Right_1 h21)<|pc h22<|pc (k_names_all_Vrf_Right_2 h24)<|pc h25<|pc (k_names_all_Irb_judge_irb h27)<|pn)
        ·obtain rfl := oi h; exact rf Tryz.func59 none [.b r2, .t, .b r5, .t, .b r8, .t, .b r11, .t, .b r14, .t, .b r17, .t, .b r20, .t, .b r23, .f] (pc (k_names_judge_few h3)<|pc h4<|pc (k_names_all_Domain_judge_bare h6)<|pc h7<|pc (k_names_all_Domain_judge_peers h9)<|pc h10<|pc (k_names_all_Port_judge_port h12)<|pc h13<|pc (k_names_all_Link_judge_link h15)<|pc h16<|pc (k_names_all_Static_judge_static h18)<|pc h19<|pc (k_names_all_Flood_Right_1 h21)<|pc h22<|pc (k_names_all_Vrf_Right_2 h24)<|pc h25<|pn)
       ·obtain rfl := oi h; exact rf Tryz.func59 none [.b r2, .t, .b r5, .t, .b r8, .t, .b r11, .t, .b r14, .t, .b r17, .t, .b r20, .f] (pc (k_names_judge_few h3)<|pc h4<|pc (k_names_all_Domain_judge_bare h6)<|pc h7<|pc (k_names_all_Domain_judge_peers h9)<|pc h10<|pc (k_names_all_Port_judge_port h12)<|pc h13<|pc (k_names_all_Link_judge_link h15)<|pc h16<|pc (k_names_all_Static_judge_static h18)<|pc h19<|pc (k_names_all_Flood_Right_1 h21)<|pc h22<|pn)
      ·obtain rfl := oi h; exact rf Tryz.func59 none [.b r2, .t, .b r5, .t, .b r8, .t, .b r11, .t, .b r14, .t, .b r17, .f] (pc (k_names_judge_few h3)<|pc h4<|pc (k_names_all_Domain_judge_bare h6)<|pc h7<|pc (k_names_all_Domain_judge_peers h9)<|pc h10<|pc (k_names_all_Port_judge_port h12)<|pc h13<|pc (k_names_all_Link_judge_link h15)<|pc h16<|pc (k_names_all_Static_judge_static h18)<|pc h19<|pn)
     ·obtain rfl := oi h; exact rf Tryz.func59 none [.b r2, .t, .b r5, .t, .b r8, .t, .b r11, .t, .b r14, .f] (pc (k_names_judge_few h3)<|pc h4<|pc (k_names_all_Domain_judge_bare h6)<|pc h7<|pc (k_names_all_Domain_judge_peers h9)<|pc h10<|pc (k_names_all_Port_judge_port h12)<|pc h13<|pc (k_names_all_Link_judge_link h15)<|pc h16<|pn)
    ·obtain rfl := oi h; exact rf Tryz.func59 none [.b r2, .t, .b r5, .t, .b r8, .t, .b r11, .f] (pc (k_names_judge_few h3)<|pc h4<|pc (k_names_all_Domain_judge_bare h6)<|pc h7<|pc (k_names_all_Domain_judge_peers h9)<|pc h10<|pc (k_names_all_Port_judge_port h12)<|pc h13<|pn)
   ·obtain rfl := oi h; exact rf Tryz.func59 none [.b r2, .t, .b r5, .t, .b r8, .f] (pc (k_names_judge_few h3)<|pc h4<|pc (k_names_all_Domain_judge_bare h6)<|pc h7<|pc (k_names_all_Domain_judge_peers h9)<|pc h10<|pn)
  ·obtain rfl := oi h; exact rf Tryz.func59 none [.b r2, .t, .b r5, .f] (pc (k_names_judge_few h3)<|pc h4<|pc (k_names_all_Domain_judge_bare h6)<|pc h7<|pn)
 ·obtain rfl := oi h; exact rf Tryz.func59 none [.b r2, .f] (pc (k_names_judge_few h3)<|pc h4<|pn)

theorem k_names_Device_1 {a1 : Api_Device} {a2 : ByteArray} {r : Bool} (h : names_Device_1 a1 a2 = some r) :
  CallsOK Tryz.prog UU 182 [.agg (c56 a1), .rp (c9 a2) 0] [] (.y r) [] := by
 unfold names_Device_1 at h
 obtain rfl := oi h; exact rf Tryz.func182 none [] (pn)

theorem k_slices_IndexFunc_Device_Device_1_L1 {a1 : List Api_Device} {a2 : ByteArray} : LoopOK Tryz.prog UU 0 19 (subC (codeOf Tryz.f146) [1, 0, 1, 0, 0]) (ρ := Int ⊕ Unit) (slices_IndexFunc_Device_Device_1_L1 a1 a2)
  (fun v3 : Int => ([(0, .sl 56 a1), (1, .fn (.func 182) [] [.rp (c9 a2) 0]), (4, .z), (7, .j (a1.length : Int)), (8, .j v3)] : Fr DD)) (fun v3 : Int => ([] : Heap DD)) (fun r => match r with | Sum.inl v11 => .ret | Sum.inr _ => .exit 0) (fun r => match r with | Sum.inl v11 => [(4, .j v11)] | Sum.inr _ => [(4, .z)]) (fun r => match r with | Sum.inl v11 => [] | Sum.inr _ => []) := by
 refine loop_sound3 (fun s q h => ?_) (fun r => ?_)
 ·replace h : slices_IndexFunc_Device_Device_1_L1 a1 a2 s = some q := h; revert h; revert s; intro v3 h
  unfold slices_IndexFunc_Device_Device_1_L1 at h
  obtain ⟨h4, h⟩|⟨h4, h⟩ := ite_out h
  ·obtain ⟨x5, h6, h⟩ := bo h
   obtain ⟨r7, h8, h⟩ := bo h
   obtain ⟨h9, h⟩|⟨h9, h⟩ := ite_out h
   ·obtain rfl := oi h; exact rl [4] [] [.t, .row (c56 x5), .b r7, .t] (pc h4<|pc (ob56 h6)<|pc (k_names_Device_1 h8)<|pc h9<|pn)
   ·obtain rfl := oi h; exact rl [0, 1, 4, 7, 8] [] [.t, .row (c56 x5), .b r7, .f] (pc h4<|pc (ob56 h6)<|pc (k_names_Device_1 h8)<|pc h9<|pn)
  ·obtain rfl := oi h; exact rl [4] [] [.f] (pc h4<|pn)
 ·rcases r with _ | _ <;> exact Ex.noConfusion

theorem k_slices_IndexFunc_Device_Device_1 {a1 : List Api_Device} {a2 : ByteArray} {r : Int} (h : slices_IndexFunc_Device_Device_1 a1 a2 = some r) :
  CallsOK Tryz.prog UU 146 [.sl 56 a1, .fn (.func 182) [] [.rp (c9 a2) 0]] [] (.j r) [] := by
 unfold slices_IndexFunc_Device_Device_1 at h
 obtain ⟨r13, h12, h⟩ := bo h
 rcases r13 with v11 | _
 ·obtain rfl := oi h; exact rf Tryz.func146 none [.sum [0, 1, 4, 7, 8] [] .ret [(4, .j v11)] []] (pc (k_slices_IndexFunc_Device_Device_1_L1 _ _ h12)<|pn)
 ·obtain rfl := oi h; exact rf Tryz.func146 none [.sum [0, 1, 4, 7, 8] [] (.exit 0) [(4, .z)] []] (pc (k_slices_IndexFunc_Device_Device_1_L1 _ _ h12)<|pn)

theorem k_names_find_Device_Device_1 {a1 : Api_Net} {a2 : List Api_Device} {a3 : ByteArray} {r : Int} (h : names_find_Device_Device_1 a1 a2 a3 = some r) :
  CallsOK Tryz.prog UU 181 [.agg (c31 a1), .sl 56 a2, .fn (.func 182) [] [.rp (c9 a3) 0]] [] (.j r) [] := by
 unfold names_find_Device_Device_1 at h
 obtain ⟨r4, h5, h⟩ := bo h
 obtain ⟨h6, h⟩|⟨h6, h⟩ := ite_out h
 ·obtain rfl := oi h; exact rf Tryz.func181 none [.b r4, .t] (pc (k_names_Right h5)<|pc h6<|pn)
 ·obtain ⟨r7, h8, h⟩ := bo h
  obtain rfl := oi h; exact rf Tryz.func181 none [.b r4, .f, .callv (.j r7)] (pc (k_names_Right h5)<|pc h6<|pc (k_slices_IndexFunc_Device_Device_1 h8)<|pn)

theorem k_names_Device {a1 : Api_Net} {a2 : ByteArray} {r : Int} (h : names_Device a1 a2 = some r) :
  CallsOK Tryz.prog UU 104 [.agg (c31 a1), .x a2] [] (.j r) [] := by
 unfold names_Device at h
 obtain ⟨r3, h4, h⟩ := bo h
 obtain rfl := oi h; exact rf Tryz.func104 none [.callv (.j r3)] (pc (k_names_find_Device_Device_1 h4)<|pn)

theorem k_overlay_begin {a1 : Api_Net} {a2 : Api_Line} {a3 : Int} {r : Int × Int} (h : overlay_begin a1 a2 a3 = some r) :
  CallsOK Tryz.prog UU 122 [.agg (c31 a1), .agg (c37 a2), .j a3] [] (.tup [.j r.1, .j r.2]) [] := by
 unfold overlay_begin at h
 obtain ⟨h4, h⟩|⟨h4, h⟩ := ite_out h
 ·obtain rfl := oi h; exact rf Tryz.func122 none [.t] (pc h4<|pn)
 ·obtain ⟨r5, h6, h⟩ := bo h
  obtain ⟨h7, h⟩|⟨h7, h⟩ := ite_out h
  ·obtain rfl := oi h; exact rf Tryz.func122 none [.f, .b r5, .t] (pc h4<|pc (k_stmt_Right h6)<|pc h7<|pn)
  ·obtain ⟨r8, h9, h⟩ := bo h
   obtain ⟨h10, h⟩|⟨h10, h⟩ := ite_out h
   ·obtain rfl := oi h; exact rf Tryz.func122 none [.f, .b r5, .f, .b r8, .t] (pc h4<|pc (k_stmt_Right h6)<|pc h7<|pc (k_names_Right h9)<|pc h10<|pn)
   ·obtain ⟨r11, h12, h⟩ := bo h
    obtain ⟨h13, h⟩|⟨h13, h⟩ := ite_out h
    ·obtain rfl := oi h; exact rf Tryz.func122 none [.f, .b r5, .f, .b r8, .f, .callv (.j r11), .t] (pc h4<|pc (k_stmt_Right h6)<|pc h7<|pc (k_names_Right h9)<|pc h10<|pc (k_names_Device h12)<|pc h13<|pn)
    ·obtain rfl := oi h; exact rf Tryz.func122 none [.f, .b r5, .f, .b r8, .f, .callv (.j r11), .f] (pc h4<|pc (k_stmt_Right h6)<|pc h7<|pc (k_names_Right h9)<|pc h10<|pc (k_names_Device h12)<|pc h13<|pn)

theorem k_overlay_find_1 {a1 : Api_Domain} {a2 : Int} {a3 : Int} {r : Bool} (h : overlay_find_1 a1 a2 a3 = some r) :
  CallsOK Tryz.prog UU 145 [.agg (c90 a1), .rp (c3 a2) 0, .rp (c3 a3) 0] [] (.y r) [] := by
 unfold overlay_find_1 at h
 obtain ⟨h4, h⟩|⟨h4, h⟩ := ite_out h
 ·obtain ⟨h5, h⟩|⟨h5, h⟩ := ite_out h
  ·obtain rfl := oi h; exact rf Tryz.func145 none [.t, .t] (pc h4<|pc h5<|pn)
  ·obtain rfl := oi h; exact rf Tryz.func145 none [.t, .f] (pc h4<|pc h5<|pn)
 ·obtain rfl := oi h; exact rf Tryz.func145 none [.f] (pc h4<|pn)

theorem k_slices_IndexFunc_Domain_find_1_L1 {a1 : List Api_Domain} {a2 : Int} {a3 : Int} : LoopOK Tryz.prog UU 0 19 (subC (codeOf Tryz.f144) [1, 0, 1, 0, 0]) (ρ := Int ⊕ Unit) (slices_IndexFunc_Domain_find_1_L1 a1 a2 a3)
  (fun v4 : Int => ([(0, .sl 90 a1), (1, .fn (.func 145) [] [.rp (c3 a2) 0, .rp (c3 a3) 0]), (4, .z), (7, .j (a1.length : Int)), (8, .j v4)] : Fr DD)) (fun v4 : Int => ([] : Heap DD)) (fun r => match r with | Sum.inl v12 => .ret | Sum.inr _ => .exit 0) (fun r => match r with | Sum.inl v12 => [(4, .j v12)] | Sum.inr _ => [(4, .z)]) (fun r => match r with | Sum.inl v12 => [] | Sum.inr _ => []) := by
 refine loop_sound3 (fun s q h => ?_) (fun r => ?_)
 ·replace h : slices_IndexFunc_Domain_find_1_L1 a1 a2 a3 s = some q := h; revert h; revert s; intro v4 h
  unfold slices_IndexFunc_Domain_find_1_L1 at h
  obtain ⟨h5, h⟩|⟨h5, h⟩ := ite_out h
  ·obtain ⟨x6, h7, h⟩ := bo h
   obtain ⟨r8, h9, h⟩ := bo h
   obtain ⟨h10, h⟩|⟨h10, h⟩ := ite_out h
   ·obtain rfl := oi h; exact rl [4] [] [.t, .row (c90 x6), .b r8, .t] (pc h5<|pc (ob90 h7)<|pc (k_overlay_find_1 h9)<|pc h10<|pn)
   ·obtain rfl := oi h; exact rl [0, 1, 4, 7, 8] [] [.t, .row (c90 x6), .b r8, .f] (pc h5<|pc (ob90 h7)<|pc (k_overlay_find_1 h9)<|pc h10<|pn)
  ·obtain rfl := oi h; exact rl [4] [] [.f] (pc h5<|pn)
 ·rcases r with _ | _ <;> exact Ex.noConfusion

theorem k_slices_IndexFunc_Domain_find_1 {a1 : List Api_Domain} {a2 : Int} {a3 : Int} {r : Int} (h : slices_IndexFunc_Domain_find_1 a1 a2 a3 = some r) :
  CallsOK Tryz.prog UU 144 [.sl 90 a1, .fn (.func 145) [] [.rp (c3 a2) 0, .rp (c3 a3) 0]] [] (.j r) [] := by
 unfold slices_IndexFunc_Domain_find_1 at h
 obtain ⟨r14, h13, h⟩ := bo h
 rcases r14 with v12 | _
 ·obtain rfl := oi h; exact rf Tryz.func144 none [.sum [0, 1, 4, 7, 8] [] .ret [(4, .j v12)] []] (pc (k_slices_IndexFunc_Domain_find_1_L1 _ _ h13)<|pn)
 ·obtain rfl := oi h; exact rf Tryz.func144 none [.sum [0, 1, 4, 7, 8] [] (.exit 0) [(4, .z)] []] (pc (k_slices_IndexFunc_Domain_find_1_L1 _ _ h13)<|pn)

theorem k_overlay_find {a1 : Api_Net} {a2 : Int} {a3 : Int} {r : Int} (h : overlay_find a1 a2 a3 = some r) :
  CallsOK Tryz.prog UU 62 [.agg (c31 a1), .j a2, .j a3] [] (.j r) [] := by
 unfold overlay_find at h
 obtain ⟨r4, h5, h⟩ := bo h
 obtain rfl := oi h; exact rf Tryz.func62 none [.callv (.j r4)] (pc (k_slices_IndexFunc_Domain_find_1 h5)<|pn)

theorem k_overlay_list_1 {a1 : Api_Flood} {a2 : Int} {a3 : Int} {r : Bool} (h : overlay_list_1 a1 a2 a3 = some r) :
  CallsOK Tryz.prog UU 143 [.agg (c113 a1), .rp (c3 a2) 0, .rp (c3 a3) 0] [] (.y r) [] := by
 unfold overlay_list_1 at h
 obtain ⟨h4, h⟩|⟨h4, h⟩ := ite_out h
 ·obtain rfl := oi h; exact rf Tryz.func143 none [.t] (pc h4<|pn)
 ·obtain rfl := oi h; exact rf Tryz.func143 none [.f] (pc h4<|pn)

theorem k_slices_IndexFunc_Flood_list_1_L1 {a1 : List Api_Flood} {a2 : Int} {a3 : Int} : LoopOK Tryz.prog UU 0 19 (subC (codeOf Tryz.f142) [1, 0, 1, 0, 0]) (ρ := Int ⊕ Unit) (slices_IndexFunc_Flood_list_1_L1 a1 a2 a3)
  (fun v4 : Int => ([(0, .sl 113 a1), (1, .fn (.func 143) [] [.rp (c3 a2) 0, .rp (c3 a3) 0]), (4, .z), (7, .j (a1.length : Int)), (8, .j v4)] : Fr DD)) (fun v4 : Int => ([] : Heap DD)) (fun r => match r with | Sum.inl v12 => .ret | Sum.inr _ => .exit 0) (fun r => match r with | Sum.inl v12 => [(4, .j v12)] | Sum.inr _ => [(4, .z)]) (fun r => match r with | Sum.inl v12 => [] | Sum.inr _ => []) := by
 refine loop_sound3 (fun s q h => ?_) (fun r => ?_)
 ·replace h : slices_IndexFunc_Flood_list_1_L1 a1 a2 a3 s = some q := h; revert h; revert s; intro v4 h
  unfold slices_IndexFunc_Flood_list_1_L1 at h
  obtain ⟨h5, h⟩|⟨h5, h⟩ := ite_out h
  ·obtain ⟨x6, h7, h⟩ := bo h
   obtain ⟨r8, h9, h⟩ := bo h
   obtain ⟨h10, h⟩|⟨h10, h⟩ := ite_out h
   ·obtain rfl := oi h; exact rl [4] [] [.t, .row (c113 x6), .b r8, .t] (pc h5<|pc (ob113 h7)<|pc (k_overlay_list_1 h9)<|pc h10<|pn)
   ·obtain rfl := oi h; exact rl [0, 1, 4, 7, 8] [] [.t, .row (c113 x6), .b r8, .f] (pc h5<|pc (ob113 h7)<|pc (k_overlay_list_1 h9)<|pc h10<|pn)
  ·obtain rfl := oi h; exact rl [4] [] [.f] (pc h5<|pn)
 ·rcases r with _ | _ <;> exact Ex.noConfusion

theorem k_slices_IndexFunc_Flood_list_1 {a1 : List Api_Flood} {a2 : Int} {a3 : Int} {r : Int} (h : slices_IndexFunc_Flood_list_1 a1 a2 a3 = some r) :
  CallsOK Tryz.prog UU 142 [.sl 113 a1, .fn (.func 143) [] [.rp (c3 a2) 0, .rp (c3 a3) 0]] [] (.j r) [] := by
 unfold slices_IndexFunc_Flood_list_1 at h
 obtain ⟨r14, h13, h⟩ := bo h
 rcases r14 with v12 | _
 ·obtain rfl := oi h; exact rf Tryz.func142 none [.sum [0, 1, 4, 7, 8] [] .ret [(4, .j v12)] []] (pc (k_slices_IndexFunc_Flood_list_1_L1 _ _ h13)<|pn)
 ·obtain rfl := oi h; exact rf Tryz.func142 none [.sum [0, 1, 4, 7, 8] [] (.exit 0) [(4, .z)] []] (pc (k_slices_IndexFunc_Flood_list_1_L1 _ _ h13)<|pn)

theorem k_overlay_list {a1 : Api_Net} {a2 : Int} {a3 : Int} {r : Int} (h : overlay_list a1 a2 a3 = some r) :
  CallsOK Tryz.prog UU 61 [.agg (c31 a1), .j a2, .j a3] [] (.j r) [] := by
 unfold overlay_list at h
 obtain ⟨r4, h5, h⟩ := bo h
 obtain rfl := oi h; exact rf Tryz.func61 none [.callv (.j r4)] (pc (k_slices_IndexFunc_Flood_list_1 h5)<|pn)

theorem k_slices_Index_uint32_L1 {a1 : List Int} {a2 : Int} : LoopOK Tryz.prog UU 0 19 (subC (codeOf Tryz.f192) [1, 0, 1, 0, 0]) (ρ := Int ⊕ Unit) (slices_Index_uint32_L1 a1 a2)
  (fun v3 : Int => ([(0, .sl 33 a1), (1, .v (.int .u32 a2)), (4, .z), (7, .j (a1.length : Int)), (8, .j v3)] : Fr DD)) (fun v3 : Int => ([] : Heap DD)) (fun r => match r with | Sum.inl v9 => .ret | Sum.inr _ => .exit 0) (fun r => match r with | Sum.inl v9 => [(4, .j v9)] | Sum.inr _ => [(4, .z)]) (fun r => match r with | Sum.inl v9 => [] | Sum.inr _ => []) := by
 refine loop_sound3 (fun s q h => ?_) (fun r => ?_)
 ·replace h : slices_Index_uint32_L1 a1 a2 s = some q := h; revert h; revert s; intro v3 h
  unfold slices_Index_uint32_L1 at h
  obtain ⟨h4, h⟩|⟨h4, h⟩ := ite_out h
  ·obtain ⟨x5, h6, h⟩ := bo h
   obtain ⟨h7, h⟩|⟨h7, h⟩ := ite_out h
   ·obtain rfl := oi h; exact rl [4] [] [.t, .row (c33 x5), .t] (pc h4<|pc (ob33 h6)<|pc h7<|pn)
   ·obtain rfl := oi h; exact rl [0, 1, 4, 7, 8] [] [.t, .row (c33 x5), .f] (pc h4<|pc (ob33 h6)<|pc h7<|pn)
  ·obtain rfl := oi h; exact rl [4] [] [.f] (pc h4<|pn)
 ·rcases r with _ | _ <;> exact Ex.noConfusion

theorem k_slices_Index_uint32 {a1 : List Int} {a2 : Int} {r : Int} (h : slices_Index_uint32 a1 a2 = some r) :
  CallsOK Tryz.prog UU 192 [.sl 33 a1, .v (.int .u32 a2)] [] (.j r) [] := by
 unfold slices_Index_uint32 at h
 obtain ⟨r11, h10, h⟩ := bo h
 rcases r11 with v9 | _
 ·obtain rfl := oi h; exact rf Tryz.func192 none [.sum [0, 1, 4, 7, 8] [] .ret [(4, .j v9)] []] (pc (k_slices_Index_uint32_L1 _ _ h10)<|pn)
 ·obtain rfl := oi h; exact rf Tryz.func192 none [.sum [0, 1, 4, 7, 8] [] (.exit 0) [(4, .z)] []] (pc (k_slices_Index_uint32_L1 _ _ h10)<|pn)

theorem k_slices_Contains_uint32 {a1 : List Int} {a2 : Int} {r : Bool} (h : slices_Contains_uint32 a1 a2 = some r) :
  CallsOK Tryz.prog UU 123 [.sl 33 a1, .v (.int .u32 a2)] [] (.y r) [] := by
 unfold slices_Contains_uint32 at h
 obtain ⟨r3, h4, h⟩ := bo h
 obtain rfl := oi h; exact rf Tryz.func123 none [.callv (.j r3)] (pc (k_slices_Index_uint32 h4)<|pn)

theorem k_slices_Clone_Device {a1 : List Api_Device} {r : List Api_Device} (h : slices_Clone_Device a1 = some r) :
  CallsOK Tryz.prog UU 107 [.sl 56 a1] [] (.os 0 r.length) [.w 56 r] := by
 unfold slices_Clone_Device at h
 obtain ⟨h1, h⟩|⟨h1, h⟩ := ite_out h
 ·injection h with h; subst h
  refine sn_split ?_ (fun e => ?_)
  ·exact rf Tryz.func107 (some [1]) [.obj [] (.n 56), .obj [] (.w 56 a1)] (pc (bs_ob 56 [])<|pc (app_ob 56 (n := 0) (l := []) (xs := a1) h1)<|pn)
  ·subst e; exact rf Tryz.func107 (some [1]) [] (pn)
 ·cases h

theorem k_slices_Clone_Port {a1 : List Api_Port} {r : List Api_Port} (h : slices_Clone_Port a1 = some r) :
  CallsOK Tryz.prog UU 108 [.sl 110 a1] [] (.os 0 r.length) [.w 110 r] := by
 unfold slices_Clone_Port at h
 obtain ⟨h1, h⟩|⟨h1, h⟩ := ite_out h
 ·injection h with h; subst h
  refine sn_split ?_ (fun e => ?_)
  ·exact rf Tryz.func108 (some [1]) [.obj [] (.n 110), .obj [] (.w 110 a1)] (pc (bs_ob 110 [])<|pc (app_ob 110 (n := 0) (l := []) (xs := a1) h1)<|pn)
  ·subst e; exact rf Tryz.func108 (some [1]) [] (pn)
 ·cases h

theorem k_slices_Clone_Link {a1 : List Api_Link} {r : List Api_Link} (h : slices_Clone_Link a1 = some r) :
  CallsOK Tryz.prog UU 109 [.sl 174 a1] [] (.os 0 r.length) [.w 174 r] := by
 unfold slices_Clone_Link at h
 obtain ⟨h1, h⟩|⟨h1, h⟩ := ite_out h
 ·injection h with h; subst h
  refine sn_split ?_ (fun e => ?_)
  ·exact rf Tryz.func109 (some [1]) [.obj [] (.n 174), .obj [] (.w 174 a1)] (pc (bs_ob 174 [])<|pc (app_ob 174 (n := 0) (l := []) (xs := a1) h1)<|pn)
  ·subst e; exact rf Tryz.func109 (some [1]) [] (pn)
 ·cases h

theorem k_slices_Clone_Domain {a1 : List Api_Domain} {r : List Api_Domain} (h : slices_Clone_Domain a1 = some r) :
  CallsOK Tryz.prog UU 110 [.sl 90 a1] [] (.os 0 r.length) [.w 90 r] := by
 unfold slices_Clone_Domain at h
 obtain ⟨h1, h⟩|⟨h1, h⟩ := ite_out h
 ·injection h with h; subst h
  refine sn_split ?_ (fun e => ?_)
  ·exact rf Tryz.func110 (some [1]) [.obj [] (.n 90), .obj [] (.w 90 a1)] (pc (bs_ob 90 [])<|pc (app_ob 90 (n := 0) (l := []) (xs := a1) h1)<|pn)
  ·subst e; exact rf Tryz.func110 (some [1]) [] (pn)
 ·cases h

theorem k_slices_Clone_Static {a1 : List Api_Static} {r : List Api_Static} (h : slices_Clone_Static a1 = some r) :
  CallsOK Tryz.prog UU 111 [.sl 178 a1] [] (.os 0 r.length) [.w 178 r] := by
 unfold slices_Clone_Static at h
 obtain ⟨h1, h⟩|⟨h1, h⟩ := ite_out h
 ·injection h with h; subst h
  refine sn_split ?_ (fun e => ?_)
  ·exact rf Tryz.func111 (some [1]) [.obj [] (.n 178), .obj [] (.w 178 a1)] (pc (bs_ob 178 [])<|pc (app_ob 178 (n := 0) (l := []) (xs := a1) h1)<|pn)
  ·subst e; exact rf Tryz.func111 (some [1]) [] (pn)
 ·cases h

theorem k_slices_Clone_Flood {a1 : List Api_Flood} {r : List Api_Flood} (h : slices_Clone_Flood a1 = some r) :
  CallsOK Tryz.prog UU 112 [.sl 113 a1] [] (.os 0 r.length) [.w 113 r] := by
 unfold slices_Clone_Flood at h
 obtain ⟨h1, h⟩|⟨h1, h⟩ := ite_out h
 ·injection h with h; subst h
  refine sn_split ?_ (fun e => ?_)
  ·exact rf Tryz.func112 (some [1]) [.obj [] (.n 113), .obj [] (.w 113 a1)] (pc (bs_ob 113 [])<|pc (app_ob 113 (n := 0) (l := []) (xs := a1) h1)<|pn)
  ·subst e; exact rf Tryz.func112 (some [1]) [] (pn)
 ·cases h

theorem k_slices_Clone_Vrf {a1 : List Api_Vrf} {r : List Api_Vrf} (h : slices_Clone_Vrf a1 = some r) :
  CallsOK Tryz.prog UU 113 [.sl 88 a1] [] (.os 0 r.length) [.w 88 r] := by
 unfold slices_Clone_Vrf at h
 obtain ⟨h1, h⟩|⟨h1, h⟩ := ite_out h
 ·injection h with h; subst h
  refine sn_split ?_ (fun e => ?_)
  ·exact rf Tryz.func113 (some [1]) [.obj [] (.n 88), .obj [] (.w 88 a1)] (pc (bs_ob 88 [])<|pc (app_ob 88 (n := 0) (l := []) (xs := a1) h1)<|pn)
  ·subst e; exact rf Tryz.func113 (some [1]) [] (pn)
 ·cases h

theorem k_slices_Clone_Irb {a1 : List Api_Irb} {r : List Api_Irb} (h : slices_Clone_Irb a1 = some r) :
  CallsOK Tryz.prog UU 114 [.sl 105 a1] [] (.os 0 r.length) [.w 105 r] := by
 unfold slices_Clone_Irb at h
 obtain ⟨h1, h⟩|⟨h1, h⟩ := ite_out h
 ·injection h with h; subst h
  refine sn_split ?_ (fun e => ?_)
  ·exact rf Tryz.func114 (some [1]) [.obj [] (.n 105), .obj [] (.w 105 a1)] (pc (bs_ob 105 [])<|pc (app_ob 105 (n := 0) (l := []) (xs := a1) h1)<|pn)
  ·subst e; exact rf Tryz.func114 (some [1]) [] (pn)
 ·cases h

theorem k_slices_Clone_int {a1 : List Int} {r : List Int} (h : slices_Clone_int a1 = some r) :
  CallsOK Tryz.prog UU 44 [.sl 3 a1] [] (.os 0 r.length) [.w 3 r] := by
 unfold slices_Clone_int at h
 obtain ⟨h1, h⟩|⟨h1, h⟩ := ite_out h
 ·injection h with h; subst h
  refine sn_split ?_ (fun e => ?_)
  ·exact rf Tryz.func44 (some [1]) [.obj [] (.n 3), .obj [] (.w 3 a1)] (pc (bs_ob 3 [])<|pc (app_ob 3 (n := 0) (l := []) (xs := a1) h1)<|pn)
  ·subst e; exact rf Tryz.func44 (some [1]) [] (pn)
 ·cases h

theorem k_slices_Clone_uint32 {a1 : List Int} {r : List Int} (h : slices_Clone_uint32 a1 = some r) :
  CallsOK Tryz.prog UU 115 [.sl 33 a1] [] (.os 0 r.length) [.w 33 r] := by
 unfold slices_Clone_uint32 at h
 obtain ⟨h1, h⟩|⟨h1, h⟩ := ite_out h
 ·injection h with h; subst h
  refine sn_split ?_ (fun e => ?_)
  ·exact rf Tryz.func115 (some [1]) [.obj [] (.n 33), .obj [] (.w 33 a1)] (pc (bs_ob 33 [])<|pc (app_ob 33 (n := 0) (l := []) (xs := a1) h1)<|pn)
  ·subst e; exact rf Tryz.func115 (some [1]) [] (pn)
 ·cases h

end Go.Eng
