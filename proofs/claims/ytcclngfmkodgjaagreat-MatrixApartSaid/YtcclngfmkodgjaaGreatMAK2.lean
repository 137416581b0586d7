/- Part of the proof of MatrixApart: printed mirrors of the functions, or their contracts. No conditions. -/
import Derived.Test.YtcclngfmkodgjaaGreatMAK1
set_option linter.unusedVariables false
set_option maxRecDepth 100000
namespace Go.Eng
open Go Go.Proofs
theorem k_labels_hops_L1 {l5 : List Reach_Hop} : LoopOK Tryz.prog UU 0 23 (subC (codeOf Tryz.f207) [1, 1, 0, 1, 0, 0]) (fun s : (List Int) × Int => match s with | (l6, v7) => labels_hops_L1 l5 l6 v7)
  (fun s : (List Int) × Int => (match s with | (l6, v7) => [(4, .os 0 0), (5, .os 1 l6.length), (10, .os 2 l5.length), (11, .j (l5.length : Int)), (12, .j v7)] : Fr DD)) (fun s : (List Int) × Int => (match s with | (l6, v7) => [.n 3, .w 3 l6, .w 161 l5] : Heap DD)) (fun r => match r with | l15 => .exit 0) (fun r => match r with | l15 => [(4, .os 0 0), (5, .os 1 l15.length)]) (fun r => match r with | l15 => [.n 3, .w 3 l15]) := by
 refine loop_sound3 (fun s q h => ?_) (fun r => ?_)
 ·obtain ⟨l6, v7⟩ := s; replace h : labels_hops_L1 l5 l6 v7 = some q := h
  unfold labels_hops_L1 at h
  obtain ⟨h8, h⟩|⟨h8, h⟩ := ite_out h
  ·obtain ⟨h9, h⟩|⟨h9, h⟩ := ite_out h
   ·obtain ⟨x10, h11, h⟩ := bo h
    obtain ⟨h12, h⟩|⟨h12, h⟩ := ite_out h
    ·obtain rfl := oi h; exact rl [4, 5, 10, 11, 12] [0, 1, 2] [.t, .row (c161 x10), .obj [] (.w 3 [x10.domain]), .obj [] (.w 3 (l6 ++ [x10.domain]))] (pc h8<|pc (an l5.length (lin_ob h9))<|pc (an l5.length (obn161 h11))<|pc (bs_ob 3 [x10.domain])<|pc (app_ob 3 (n := l6.length) (l := l6) (xs := [x10.domain]) h12)<|pc (rn (List.length [x10.domain]))<|pn)
    ·cases h
   ·cases h
  ·obtain rfl := oi h; exact rl [4, 5] [0, 1] [.f] (pc h8<|pn)
 ·exact Ex.noConfusion

theorem k_labels_hops {a1 : Api_Net} {a2 : Int} {r : ((List Int))} (h : labels_hops a1 a2 = some r) :
  CallsOK Tryz.prog UU 207 [.agg (c31 a1), .j a2] [] ((fun r => match r with | l18 => .os 0 l18.length) r) ((fun r => match r with | l18 => [.w 3 l18]) r) := by
 unfold labels_hops at h
 obtain ⟨l5, h4, h⟩ := bo h
 obtain ⟨l15, h16, h⟩ := bo h
 obtain rfl := oi h; exact rf Tryz.func207 (some [1]) [.callo (.os 0 l5.length) [.w 161 l5], .sum [4, 5, 10, 11, 12] [1, 2, 3] (.exit 0) [(4, .os 0 0), (5, .os 1 l15.length)] [.n 3, .w 3 l15]] (pc (k_reach_Hops h4)<|pc (im161 l5)<|pc (rn l5.length)<|pc (k_labels_hops_L1 _ _ h16)<|pn)

theorem k_addr_Right {a1 : Api_Prefix} {r : Bool} (h : addr_Right a1 = some r) :
  CallsOK Tryz.prog UU 187 [.agg (c103 a1)] [] (.y r) [] := by
 unfold addr_Right at h
 obtain ⟨h2, h⟩|⟨h2, h⟩ := ite_out h
 ·obtain rfl := oi h; exact rf Tryz.func187 none [.t] (pc h2<|pn)
 ·obtain rfl := oi h; exact rf Tryz.func187 none [.f] (pc h2<|pn)

theorem k_addr_rest {a1 : Api_Prefix} {r : Int} (h : addr_rest a1 = some r) :
  CallsOK Tryz.prog UU 188 [.agg (c103 a1)] [] (.v (.int .u32 r)) [] := by
 unfold addr_rest at h
 obtain ⟨h2, h⟩|⟨h2, h⟩ := ite_out h
 ·obtain rfl := oi h; exact rf Tryz.func188 none [] (pc (of_decide_eq_true h2)<|pn)
 ·cases h

theorem k_addr_First {a1 : Api_Prefix} {r : Int} (h : addr_First a1 = some r) :
  CallsOK Tryz.prog UU 239 [.agg (c103 a1)] [] (.v (.int .u32 r)) [] := by
 unfold addr_First at h
 obtain ⟨r2, h3, h⟩ := bo h
 obtain ⟨h4, h⟩|⟨h4, h⟩ := ite_out h
 ·obtain rfl := oi h; exact rf Tryz.func239 none [.b r2, .t] (pc (k_addr_Right h3)<|pc h4<|pn)
 ·obtain ⟨r5, h6, h⟩ := bo h
  obtain rfl := oi h; exact rf Tryz.func239 none [.b r2, .f, .callv (.v (.int .u32 r5))] (pc (k_addr_Right h3)<|pc h4<|pc (k_addr_rest h6)<|pn)

theorem k_addr_Last {a1 : Api_Prefix} {r : Int} (h : addr_Last a1 = some r) :
  CallsOK Tryz.prog UU 240 [.agg (c103 a1)] [] (.v (.int .u32 r)) [] := by
 unfold addr_Last at h
 obtain ⟨r2, h3, h⟩ := bo h
 obtain ⟨h4, h⟩|⟨h4, h⟩ := ite_out h
 ·obtain rfl := oi h; exact rf Tryz.func240 none [.b r2, .t] (pc (k_addr_Right h3)<|pc h4<|pn)
 ·obtain ⟨r5, h6, h⟩ := bo h
  obtain rfl := oi h; exact rf Tryz.func240 none [.b r2, .f, .callv (.v (.int .u32 r5))] (pc (k_addr_Right h3)<|pc h4<|pc (k_addr_rest h6)<|pn)

theorem k_route_device {a1 : Api_Net} {a2 : Int} {r : Int} (h : route_device a1 a2 = some r) :
  CallsOK Tryz.prog UU 272 [.agg (c31 a1), .j a2] [] (.j r) [] := by
 unfold route_device at h
 obtain ⟨x3, h4, h⟩ := bo h
 obtain ⟨x5, h6, h⟩ := bo h
 obtain rfl := oi h; exact rf Tryz.func272 none [.row (c105 x3), .row (c90 x5)] (pc (ob105 h4)<|pc (ob90 h6)<|pn)

theorem k_addr_Has {a1 : Api_Prefix} {a2 : Int} {r : Bool} (h : addr_Has a1 a2 = some r) :
  CallsOK Tryz.prog UU 120 [.agg (c103 a1), .v (.int .u32 a2)] [] (.y r) [] := by
 unfold addr_Has at h
 obtain ⟨r3, h4, h⟩ := bo h
 obtain ⟨h5, h⟩|⟨h5, h⟩ := ite_out h
 ·obtain ⟨r6, h7, h⟩ := bo h
  obtain rfl := oi h; exact rf Tryz.func120 none [.b r3, .t, .callv (.v (.int .u32 r6))] (pc (k_addr_Right h4)<|pc h5<|pc (k_addr_rest h7)<|pn)
 ·obtain rfl := oi h; exact rf Tryz.func120 none [.b r3, .f] (pc (k_addr_Right h4)<|pc h5<|pn)

theorem k_vrfs_Leaks_1 {a1 : Int} {a2 : Api_Vrf} {r : Bool} (h : vrfs_Leaks_1 a1 a2 = some r) :
  CallsOK Tryz.prog UU 101 [.j a1, .rp (c88 a2) 0] [] (.y r) [] := by
 unfold vrfs_Leaks_1 at h
 obtain ⟨r3, h4, h⟩ := bo h
 obtain rfl := oi h; exact rf Tryz.func101 none [.b r3] (pc (k_slices_Contains_int h4)<|pn)

theorem k_slices_IndexFunc_int_Leaks_1_L1 {a1 : List Int} {a2 : Api_Vrf} : LoopOK Tryz.prog UU 0 19 (subC (codeOf Tryz.f178) [1, 0, 1, 0, 0]) (ρ := Int ⊕ Unit) (slices_IndexFunc_int_Leaks_1_L1 a1 a2)
  (fun v3 : Int => ([(0, .sl 3 a1), (1, .fn (.func 101) [] [.rp (c88 a2) 0]), (4, .z), (7, .j (a1.length : Int)), (8, .j v3)] : Fr DD)) (fun v3 : Int => ([] : Heap DD)) (fun r => match r with | Sum.inl v11 => .ret | Sum.inr _ => .exit 0) (fun r => match r with | Sum.inl v11 => [(4, .j v11)] | Sum.inr _ => [(4, .z)]) (fun r => match r with | Sum.inl v11 => [] | Sum.inr _ => []) := by
 refine loop_sound3 (fun s q h => ?_) (fun r => ?_)
 ·replace h : slices_IndexFunc_int_Leaks_1_L1 a1 a2 s = some q := h; revert h; revert s; intro v3 h
  unfold slices_IndexFunc_int_Leaks_1_L1 at h
  obtain ⟨h4, h⟩|⟨h4, h⟩ := ite_out h
  ·obtain ⟨x5, h6, h⟩ := bo h
   obtain ⟨r7, h8, h⟩ := bo h
   obtain ⟨h9, h⟩|⟨h9, h⟩ := ite_out h
   ·obtain rfl := oi h; exact rl [4] [] [.t, .row (c3 x5), .b r7, .t] (pc h4<|pc (ob3 h6)<|pc (k_vrfs_Leaks_1 h8)<|pc h9<|pn)
   ·obtain rfl := oi h; exact rl [0, 1, 4, 7, 8] [] [.t, .row (c3 x5), .b r7, .f] (pc h4<|pc (ob3 h6)<|pc (k_vrfs_Leaks_1 h8)<|pc h9<|pn)
  ·obtain rfl := oi h; exact rl [4] [] [.f] (pc h4<|pn)
 ·rcases r with _ | _ <;> exact Ex.noConfusion

theorem k_slices_IndexFunc_int_Leaks_1 {a1 : List Int} {a2 : Api_Vrf} {r : Int} (h : slices_IndexFunc_int_Leaks_1 a1 a2 = some r) :
  CallsOK Tryz.prog UU 178 [.sl 3 a1, .fn (.func 101) [] [.rp (c88 a2) 0]] [] (.j r) [] := by
 unfold slices_IndexFunc_int_Leaks_1 at h
 obtain ⟨r13, h12, h⟩ := bo h
 rcases r13 with v11 | _
 ·obtain rfl := oi h; exact rf Tryz.func178 none [.sum [0, 1, 4, 7, 8] [] .ret [(4, .j v11)] []] (pc (k_slices_IndexFunc_int_Leaks_1_L1 _ _ h12)<|pn)
 ·obtain rfl := oi h; exact rf Tryz.func178 none [.sum [0, 1, 4, 7, 8] [] (.exit 0) [(4, .z)] []] (pc (k_slices_IndexFunc_int_Leaks_1_L1 _ _ h12)<|pn)

theorem k_slices_ContainsFunc_int_Leaks_1 {a1 : List Int} {a2 : Api_Vrf} {r : Bool} (h : slices_ContainsFunc_int_Leaks_1 a1 a2 = some r) :
  CallsOK Tryz.prog UU 102 [.sl 3 a1, .fn (.func 101) [] [.rp (c88 a2) 0]] [] (.y r) [] := by
 unfold slices_ContainsFunc_int_Leaks_1 at h
 obtain ⟨r3, h4, h⟩ := bo h
 obtain rfl := oi h; exact rf Tryz.func102 none [.callv (.j r3)] (pc (k_slices_IndexFunc_int_Leaks_1 h4)<|pn)

theorem k_vrfs_Leaks {a1 : Api_Net} {a2 : Int} {a3 : Int} {r : Bool} (h : vrfs_Leaks a1 a2 a3 = some r) :
  CallsOK Tryz.prog UU 40 [.agg (c31 a1), .j a2, .j a3] [] (.y r) [] := by
 unfold vrfs_Leaks at h
 obtain ⟨h4, h⟩|⟨h4, h⟩ := ite_out h
 ·obtain rfl := oi h; exact rf Tryz.func40 none [.t] (pc h4<|pn)
 ·obtain ⟨h5, h⟩|⟨h5, h⟩ := ite_out h
  ·obtain rfl := oi h; exact rf Tryz.func40 none [.f, .t] (pc h4<|pc h5<|pn)
  ·obtain ⟨h6, h⟩|⟨h6, h⟩ := ite_out h
   ·obtain rfl := oi h; exact rf Tryz.func40 none [.f, .f, .t] (pc h4<|pc h5<|pc h6<|pn)
   ·obtain ⟨h7, h⟩|⟨h7, h⟩ := ite_out h
    ·obtain rfl := oi h; exact rf Tryz.func40 none [.f, .f, .f, .t] (pc h4<|pc h5<|pc h6<|pc h7<|pn)
    ·obtain ⟨r8, h9, h⟩ := bo h
     obtain ⟨h10, h⟩|⟨h10, h⟩ := ite_out h
     ·obtain rfl := oi h; exact rf Tryz.func40 none [.f, .f, .f, .f, .b r8, .t] (pc h4<|pc h5<|pc h6<|pc h7<|pc (k_names_Right h9)<|pc h10<|pn)
     ·obtain ⟨x11, h12, h⟩ := bo h
      obtain ⟨x13, h14, h⟩ := bo h
      obtain ⟨h15, h⟩|⟨h15, h⟩ := ite_out h
      ·obtain rfl := oi h; exact rf Tryz.func40 none [.f, .f, .f, .f, .b r8, .f, .row (c88 x11), .row (c88 x13), .t] (pc h4<|pc h5<|pc h6<|pc h7<|pc (k_names_Right h9)<|pc h10<|pc (ob88 h12)<|pc (ob88 h14)<|pc h15<|pn)
      ·obtain ⟨h16, h⟩|⟨h16, h⟩ := ite_out h
       ·obtain ⟨r17, h18, h⟩ := bo h
        obtain rfl := oi h; exact rf Tryz.func40 none [.f, .f, .f, .f, .b r8, .f, .row (c88 x11), .row (c88 x13), .f, .t, .b r17] (pc h4<|pc h5<|pc h6<|pc h7<|pc (k_names_Right h9)<|pc h10<|pc (ob88 h12)<|pc (ob88 h14)<|pc h15<|pc h16<|pc (k_slices_ContainsFunc_int_Leaks_1 h18)<|pn)
       ·obtain rfl := oi h; exact rf Tryz.func40 none [.f, .f, .f, .f, .b r8, .f, .row (c88 x11), .row (c88 x13), .f, .f] (pc h4<|pc h5<|pc h6<|pc h7<|pc (k_names_Right h9)<|pc h10<|pc (ob88 h12)<|pc (ob88 h14)<|pc h15<|pc h16<|pn)

theorem k_route_sees {a1 : Api_Net} {a2 : Int} {a3 : Int} {r : Bool} (h : route_sees a1 a2 a3 = some r) :
  CallsOK Tryz.prog UU 273 [.agg (c31 a1), .j a2, .j a3] [] (.y r) [] := by
 unfold route_sees at h
 obtain ⟨r4, h5, h⟩ := bo h
 obtain ⟨r6, h7, h⟩ := bo h
 obtain ⟨h8, h⟩|⟨h8, h⟩ := ite_out h
 ·obtain ⟨x9, h10, h⟩ := bo h
  obtain ⟨x11, h12, h⟩ := bo h
  obtain ⟨r13, h14, h⟩ := bo h
  obtain rfl := oi h; exact rf Tryz.func273 none [.callv (.j r4), .callv (.j r6), .t, .row (c105 x9), .row (c105 x11), .b r13] (pc (k_route_device h5)<|pc (k_route_device h7)<|pc h8<|pc (ob105 h10)<|pc (ob105 h12)<|pc (k_vrfs_Leaks h14)<|pn)
 ·obtain rfl := oi h; exact rf Tryz.func273 none [.callv (.j r4), .callv (.j r6), .f] (pc (k_route_device h5)<|pc (k_route_device h7)<|pc h8<|pn)

theorem k_route_lookup_1 {a1 : Int} {a2 : Api_Net} {a3 : Int} {r : Int} (h : route_lookup_1 a1 a2 a3 = some r) :
  CallsOK Tryz.prog UU 274 [.j a1, .rp (c31 a2) 0, .rp (c3 a3) 0] [] (.j r) [] := by
 unfold route_lookup_1 at h
 obtain ⟨x4, h5, h⟩ := bo h
 obtain ⟨x6, h7, h⟩ := bo h
 obtain ⟨h8, h⟩|⟨h8, h⟩ := ite_out h
 ·obtain rfl := oi h; exact rf Tryz.func274 none [.row (c105 x4), .row (c105 x6), .t] (pc (ob105 h5)<|pc (ob105 h7)<|pc h8<|pn)
 ·obtain rfl := oi h; exact rf Tryz.func274 none [.row (c105 x4), .row (c105 x6), .f] (pc (ob105 h5)<|pc (ob105 h7)<|pc h8<|pn)

theorem k_route_lookup_2 {a1 : Int} {a2 : Int} {a3 : Api_Net} {a4 : Api_Net} {a5 : Int} {r : Int} (h : route_lookup_2 a1 a2 a3 a4 a5 = some r) :
  CallsOK Tryz.prog UU 276 [.j a1, .j a2, .rp (c31 a3) 0, .rp [.fn (.func 274) [] [.rp (c31 a4) 0, .rp (c3 a5) 0]] 0] [] (.j r) [] := by
 unfold route_lookup_2 at h
 obtain ⟨x6, h7, h⟩ := bo h
 obtain ⟨x8, h9, h⟩ := bo h
 obtain ⟨h10, h⟩|⟨h10, h⟩ := ite_out h
 ·obtain rfl := oi h; exact rf Tryz.func276 none [.row (c105 x6), .row (c105 x8), .t] (pc (ob105 h7)<|pc (ob105 h9)<|pc h10<|pn)
 ·obtain ⟨r11, h12, h⟩ := bo h
  obtain ⟨r13, h14, h⟩ := bo h
  obtain rfl := oi h; exact rf Tryz.func276 none [.row (c105 x6), .row (c105 x8), .f, .callv (.j r11), .callv (.j r13)] (pc (ob105 h7)<|pc (ob105 h9)<|pc h10<|pc (k_route_lookup_1 h12)<|pc (k_route_lookup_1 h14)<|pn)

theorem k_slices_MaxFunc_int_lookup_2_L1 {a1 : List Int} {a2 : Api_Net} {a3 : Api_Net} {a4 : Int} : LoopOK Tryz.prog UU 0 33 (subC (codeOf Tryz.f275) [1, 1, 1, 0, 1, 0, 0]) (fun s : Int × Int => match s with | (v8, v9) => slices_MaxFunc_int_lookup_2_L1 a1 a2 a3 a4 v8 v9)
  (fun s : Int × Int => (match s with | (v8, v9) => [(0, .sl 3 a1), (1, .fn (.func 276) [] [.rp (c31 a2) 0, .rp [.fn (.func 274) [] [.rp (c31 a3) 0, .rp (c3 a4) 0]] 0]), (4, .z), (5, .j v8), (6, .j v9)] : Fr DD)) (fun s : Int × Int => (match s with | (v8, v9) => [] : Heap DD)) (fun r => match r with | v19 => .exit 0) (fun r => match r with | v19 => [(4, .z), (5, .j v19)]) (fun r => match r with | v19 => []) := by
 refine loop_sound3 (fun s q h => ?_) (fun r => ?_)
 ·obtain ⟨v8, v9⟩ := s; replace h : slices_MaxFunc_int_lookup_2_L1 a1 a2 a3 a4 v8 v9 = some q := h
  unfold slices_MaxFunc_int_lookup_2_L1 at h
  obtain ⟨h10, h⟩|⟨h10, h⟩ := ite_out h
  ·obtain ⟨x11, h12, h⟩ := bo h
   obtain ⟨r13, h14, h⟩ := bo h
   obtain ⟨h15, h⟩|⟨h15, h⟩ := ite_out h
   ·obtain ⟨x16, h17, h⟩ := bo h
    obtain rfl := oi h; exact rl [0, 1, 4, 5, 6] [] [.t, .row (c3 x11), .callv (.j r13), .t, .row (c3 x16)] (pc h10<|pc (ob3 h12)<|pc (k_route_lookup_2 h14)<|pc h15<|pc (ob3 h17)<|pn)
   ·obtain rfl := oi h; exact rl [0, 1, 4, 5, 6] [] [.t, .row (c3 x11), .callv (.j r13), .f] (pc h10<|pc (ob3 h12)<|pc (k_route_lookup_2 h14)<|pc h15<|pn)
  ·obtain rfl := oi h; exact rl [4, 5] [] [.f] (pc h10<|pn)
 ·exact Ex.noConfusion

theorem k_slices_MaxFunc_int_lookup_2 {a1 : List Int} {a2 : Api_Net} {a3 : Api_Net} {a4 : Int} {r : Int} (h : slices_MaxFunc_int_lookup_2 a1 a2 a3 a4 = some r) :
  CallsOK Tryz.prog UU 275 [.sl 3 a1, .fn (.func 276) [] [.rp (c31 a2) 0, .rp [.fn (.func 274) [] [.rp (c31 a3) 0, .rp (c3 a4) 0]] 0]] [] (.j r) [] := by
 unfold slices_MaxFunc_int_lookup_2 at h
 obtain ⟨h5, h⟩|⟨h5, h⟩ := ite_out h
 ·cases h
 ·obtain ⟨x6, h7, h⟩ := bo h
  obtain ⟨v19, h20, h⟩ := bo h
  obtain rfl := oi h; exact rf Tryz.func275 none [.f, .row (c3 x6), .sum [0, 1, 4, 5, 6] [] (.exit 0) [(4, .z), (5, .j v19)] []] (pc h5<|pc (ob3 h7)<|pc (k_slices_MaxFunc_int_lookup_2_L1 _ _ h20)<|pn)

theorem k_route_lookup_J2 {a1 : Api_Net} {a2 : Int} {a3 : Int} {l4 : List Int} {v5 : Int} {x7 : Api_Irb} {r : Unit ⊕ Unit} (h : route_lookup_J2 a1 a2 a3 l4 v5 x7 = some r) :
  ExecOK Tryz.prog UU 0 56 (subC (codeOf Tryz.f262) [1, 1, 0, 1, 0, 0, 1, 1, 0, 0, 1, 0]) [(2, .v (.int .u32 a3)), (3, .o 0), (4, .o 1), (6, .z), (7, .y false), (8, .os 2 l4.length), (9, .j v5), (10, .o 3), (13, .sl 105 a1.irbs), (14, .j (a1.irbs.length : Int)), (15, .j v5)] [.box 31 (c31 a1) false, .box 3 [.j a2] false, .w 3 l4, .box 105 (c105 x7) false] ((fun r => match r with | Sum.inl _ => .ret | Sum.inr _ => .nor) r) ((fun r => match r with | Sum.inl _ => [(6, .z), (7, .y false)] | Sum.inr _ => [(2, .v (.int .u32 a3)), (3, .o 0), (4, .o 1), (6, .z), (7, .y false), (8, .os 2 l4.length), (9, .j v5), (10, .o 3), (13, .sl 105 a1.irbs), (14, .j (a1.irbs.length : Int)), (15, .j v5)]) r) ((fun r => match r with | Sum.inl _ => [] | Sum.inr _ => [.box 31 (c31 a1) false, .box 3 [.j a2] false, .w 3 l4, .box 105 (c105 x7) false]) r) := by
 unfold route_lookup_J2 at h
 obtain ⟨r9, h10, h⟩ := bo h
 obtain ⟨r11, h12, h⟩ := bo h
 obtain ⟨h13, h⟩|⟨h13, h⟩ := ite_out h
 ·obtain ⟨h14, h⟩|⟨h14, h⟩ := ite_out h
  ·obtain rfl := oi h; exact rl [6, 7] [] [.callv (.j r9), .callv (.j r11), .t, .t] (pc (k_route_device h10)<|pc (k_route_device h12)<|pc h13<|pc h14<|pn)
  ·obtain rfl := oi h; exact rl [2, 3, 4, 6, 7, 8, 9, 10, 13, 14, 15] [0, 1, 2, 3] [.callv (.j r9), .callv (.j r11), .t, .f] (pc (k_route_device h10)<|pc (k_route_device h12)<|pc h13<|pc h14<|pn)
 ·obtain rfl := oi h; exact rl [2, 3, 4, 6, 7, 8, 9, 10, 13, 14, 15] [0, 1, 2, 3] [.callv (.j r9), .callv (.j r11), .f] (pc (k_route_device h10)<|pc (k_route_device h12)<|pc h13<|pn)

theorem k_route_lookup_L1 {a1 : Api_Net} {a2 : Int} {a3 : Int} : LoopOK Tryz.prog UU 0 56 (subC (codeOf Tryz.f262) [1, 1, 0, 1, 0, 0]) (fun s : (List Int) × Int => match s with | (l4, v5) => route_lookup_L1 a1 a2 a3 l4 v5)
  (fun s : (List Int) × Int => (match s with | (l4, v5) => [(2, .v (.int .u32 a3)), (3, .o 0), (4, .o 1), (6, .z), (7, .y false), (8, .os 2 l4.length), (13, .sl 105 a1.irbs), (14, .j (a1.irbs.length : Int)), (15, .j v5)] : Fr DD)) (fun s : (List Int) × Int => (match s with | (l4, v5) => [.box 31 (c31 a1) false, .box 3 [.j a2] false, .w 3 l4] : Heap DD)) (fun r => match r with | Sum.inl _ => .ret | Sum.inr l29 => .exit 0) (fun r => match r with | Sum.inl _ => [(6, .z), (7, .y false)] | Sum.inr l29 => [(3, .o 0), (4, .o 1), (6, .z), (7, .y false), (8, .os 2 l29.length)]) (fun r => match r with | Sum.inl _ => [] | Sum.inr l29 => [.box 31 (c31 a1) false, .box 3 [.j a2] false, .w 3 l29]) := by
 refine loop_sound3 (fun s q h => ?_) (fun r => ?_)
 ·obtain ⟨l4, v5⟩ := s; replace h : route_lookup_L1 a1 a2 a3 l4 v5 = some q := h
  unfold route_lookup_L1 at h
  obtain ⟨h6, h⟩|⟨h6, h⟩ := ite_out h
  ·obtain ⟨x7, h8, h⟩ := bo h
   obtain ⟨r16, h15, h⟩ := bo h
   rcases r16 with _ | _
   ·obtain rfl := oi h; exact rl [6, 7] [] [.t, .row (c105 x7), .cut [2, 3, 4, 6, 7, 8, 9, 10, 13, 14, 15] [0, 1, 2, 3] .ret [(6, .z), (7, .y false)] []] (pc h6<|pc (ob105 h8)<|pc (k_route_lookup_J2 h15)<|pn)
   ·obtain ⟨r17, h18, h⟩ := bo h
    obtain ⟨h19, h⟩|⟨h19, h⟩ := ite_out h
    ·obtain ⟨r20, h21, h⟩ := bo h
     obtain ⟨h22, h⟩|⟨h22, h⟩ := ite_out h
     ·obtain ⟨h23, h⟩|⟨h23, h⟩ := ite_out h
      ·obtain rfl := oi h; exact rl [2, 3, 4, 6, 7, 8, 13, 14, 15] [0, 1, 2] [.t, .row (c105 x7), .cut [2, 3, 4, 6, 7, 8, 9, 10, 13, 14, 15] [0, 1, 2, 3] .nor [(2, .v (.int .u32 a3)), (3, .o 0), (4, .o 1), (6, .z), (7, .y false), (8, .os 2 l4.length), (9, .j v5), (10, .o 3), (13, .sl 105 a1.irbs), (14, .j (a1.irbs.length : Int)), (15, .j v5)] [.box 31 (c31 a1) false, .box 3 [.j a2] false, .w 3 l4, .box 105 (c105 x7) false], .b r17, .t, .b r20, .t, .obj [] (.w 3 [v5]), .obj [] (.w 3 (l4 ++ [v5]))] (pc h6<|pc (ob105 h8)<|pc (k_route_lookup_J2 h15)<|pc (k_addr_Has h18)<|pc h19<|pc (k_route_sees h21)<|pc h22<|pc (bs_ob 3 [v5])<|pc (app_ob 3 (n := l4.length) (l := l4) (xs := [v5]) h23)<|pc (rn (List.length [v5]))<|pn)
      ·cases h
     ·obtain rfl := oi h; exact rl [2, 3, 4, 6, 7, 8, 13, 14, 15] [0, 1, 2] [.t, .row (c105 x7), .cut [2, 3, 4, 6, 7, 8, 9, 10, 13, 14, 15] [0, 1, 2, 3] .nor [(2, .v (.int .u32 a3)), (3, .o 0), (4, .o 1), (6, .z), (7, .y false), (8, .os 2 l4.length), (9, .j v5), (10, .o 3), (13, .sl 105 a1.irbs), (14, .j (a1.irbs.length : Int)), (15, .j v5)] [.box 31 (c31 a1) false, .box 3 [.j a2] false, .w 3 l4, .box 105 (c105 x7) false], .b r17, .t, .b r20, .f] (pc h6<|pc (ob105 h8)<|pc (k_route_lookup_J2 h15)<|pc (k_addr_Has h18)<|pc h19<|pc (k_route_sees h21)<|pc h22<|pn)
    ·obtain rfl := oi h; exact rl [2, 3, 4, 6, 7, 8, 13, 14, 15] [0, 1, 2] [.t, .row (c105 x7), .cut [2, 3, 4, 6, 7, 8, 9, 10, 13, 14, 15] [0, 1, 2, 3] .nor [(2, .v (.int .u32 a3)), (3, .o 0), (4, .o 1), (6, .z), (7, .y false), (8, .os 2 l4.length), (9, .j v5), (10, .o 3), (13, .sl 105 a1.irbs), (14, .j (a1.irbs.length : Int)), (15, .j v5)] [.box 31 (c31 a1) false, .box 3 [.j a2] false, .w 3 l4, .box 105 (c105 x7) false], .b r17, .f] (pc h6<|pc (ob105 h8)<|pc (k_route_lookup_J2 h15)<|pc (k_addr_Has h18)<|pc h19<|pn)
  ·obtain rfl := oi h; exact rl [3, 4, 6, 7, 8] [0, 1, 2] [.f] (pc h6<|pn)
 ·rcases r with _ | _ <;> exact Ex.noConfusion

theorem k_route_lookup {a1 : Api_Net} {a2 : Int} {a3 : Int} {r : Int × Bool} (h : route_lookup a1 a2 a3 = some r) :
  CallsOK Tryz.prog UU 262 [.agg (c31 a1), .j a2, .v (.int .u32 a3)] [] (.tup [.j r.1, .y r.2]) [] := by
 unfold route_lookup at h
 obtain ⟨r31, h30, h⟩ := bo h
 rcases r31 with _ | l29
 ·obtain rfl := oi h; exact rf Tryz.func262 none [.sum [2, 3, 4, 6, 7, 8, 13, 14, 15] [0, 1, 2] .ret [(6, .z), (7, .y false)] []] (pc (k_route_lookup_L1 _ _ h30)<|pn)
 ·obtain ⟨h32, h⟩|⟨h32, h⟩ := ite_out h
  ·obtain rfl := oi h; exact rf Tryz.func262 none [.sum [2, 3, 4, 6, 7, 8, 13, 14, 15] [0, 1, 2] (.exit 0) [(3, .o 0), (4, .o 1), (6, .z), (7, .y false), (8, .os 2 l29.length)] [.box 31 (c31 a1) false, .box 3 [.j a2] false, .w 3 l29], .t] (pc (k_route_lookup_L1 _ _ h30)<|pc (rn l29.length)<|pc h32<|pn)
  ·obtain ⟨r33, h34, h⟩ := bo h
   obtain rfl := oi h; exact rf Tryz.func262 none [.sum [2, 3, 4, 6, 7, 8, 13, 14, 15] [0, 1, 2] (.exit 0) [(3, .o 0), (4, .o 1), (6, .z), (7, .y false), (8, .os 2 l29.length)] [.box 31 (c31 a1) false, .box 3 [.j a2] false, .w 3 l29], .f, .callv (.j r33)] (pc (k_route_lookup_L1 _ _ h30)<|pc (rn l29.length)<|pc h32<|pc (k_slices_MaxFunc_int_lookup_2 h34)<|pc (rn l29.length)<|pn)

theorem k_route_Lookup {a1 : Api_Net} {a2 : Int} {a3 : Int} {r : Int × Bool} (h : route_Lookup a1 a2 a3 = some r) :
  CallsOK Tryz.prog UU 241 [.agg (c31 a1), .j a2, .v (.int .u32 a3)] [] (.tup [.j r.1, .y r.2]) [] := by
 unfold route_Lookup at h
 obtain ⟨h4, h⟩|⟨h4, h⟩ := ite_out h
 ·obtain rfl := oi h; exact rf Tryz.func241 none [.t] (pc h4<|pn)
 ·obtain ⟨h5, h⟩|⟨h5, h⟩ := ite_out h
  ·obtain rfl := oi h; exact rf Tryz.func241 none [.f, .t] (pc h4<|pc h5<|pn)
  ·obtain ⟨r6, h7, h⟩ := bo h
   obtain ⟨h8, h⟩|⟨h8, h⟩ := ite_out h
   ·obtain rfl := oi h; exact rf Tryz.func241 none [.f, .f, .b r6, .t] (pc h4<|pc h5<|pc (k_names_Right h7)<|pc h8<|pn)
   ·obtain ⟨r9, h10, h⟩ := bo h
    obtain rfl := oi h; exact rf Tryz.func241 none [.f, .f, .b r6, .f, .callv (.tup [.j r9.1, .y r9.2])] (pc h4<|pc h5<|pc (k_names_Right h7)<|pc h8<|pc (k_route_lookup h10)<|pn)

theorem k_choose_Address_1 {a1 : Api_Irb} {a2 : Int} {r : Bool} (h : choose_Address_1 a1 a2 = some r) :
  CallsOK Tryz.prog UU 242 [.agg (c105 a1), .rp (c33 a2) 0] [] (.y r) [] := by
 unfold choose_Address_1 at h
 obtain rfl := oi h; exact rf Tryz.func242 none [] (pn)

theorem k_slices_IndexFunc_Irb_Address_1_L1 {a1 : List Api_Irb} {a2 : Int} : LoopOK Tryz.prog UU 0 19 (subC (codeOf Tryz.f119) [1, 0, 1, 0, 0]) (ρ := Int ⊕ Unit) (slices_IndexFunc_Irb_Address_1_L1 a1 a2)
  (fun v3 : Int => ([(0, .sl 105 a1), (1, .fn (.func 242) [] [.rp (c33 a2) 0]), (4, .z), (7, .j (a1.length : Int)), (8, .j v3)] : Fr DD)) (fun v3 : Int => ([] : Heap DD)) (fun r => match r with | Sum.inl v11 => .ret | Sum.inr _ => .exit 0) (fun r => match r with | Sum.inl v11 => [(4, .j v11)] | Sum.inr _ => [(4, .z)]) (fun r => match r with | Sum.inl v11 => [] | Sum.inr _ => []) := by
 refine loop_sound3 (fun s q h => ?_) (fun r => ?_)
 ·replace h : slices_IndexFunc_Irb_Address_1_L1 a1 a2 s = some q := h; revert h; revert s; intro v3 h
  unfold slices_IndexFunc_Irb_Address_1_L1 at h
  obtain ⟨h4, h⟩|⟨h4, h⟩ := ite_out h
  ·obtain ⟨x5, h6, h⟩ := bo h
   obtain ⟨r7, h8, h⟩ := bo h
   obtain ⟨h9, h⟩|⟨h9, h⟩ := ite_out h
   ·obtain rfl := oi h; exact rl [4] [] [.t, .row (c105 x5), .b r7, .t] (pc h4<|pc (ob105 h6)<|pc (k_choose_Address_1 h8)<|pc h9<|pn)
   ·obtain rfl := oi h; exact rl [0, 1, 4, 7, 8] [] [.t, .row (c105 x5), .b r7, .f] (pc h4<|pc (ob105 h6)<|pc (k_choose_Address_1 h8)<|pc h9<|pn)
  ·obtain rfl := oi h; exact rl [4] [] [.f] (pc h4<|pn)
 ·rcases r with _ | _ <;> exact Ex.noConfusion

theorem k_slices_IndexFunc_Irb_Address_1 {a1 : List Api_Irb} {a2 : Int} {r : Int} (h : slices_IndexFunc_Irb_Address_1 a1 a2 = some r) :
  CallsOK Tryz.prog UU 119 [.sl 105 a1, .fn (.func 242) [] [.rp (c33 a2) 0]] [] (.j r) [] := by
 unfold slices_IndexFunc_Irb_Address_1 at h
 obtain ⟨r13, h12, h⟩ := bo h
 rcases r13 with v11 | _
 ·obtain rfl := oi h; exact rf Tryz.func119 none [.sum [0, 1, 4, 7, 8] [] .ret [(4, .j v11)] []] (pc (k_slices_IndexFunc_Irb_Address_1_L1 _ _ h12)<|pn)
 ·obtain rfl := oi h; exact rf Tryz.func119 none [.sum [0, 1, 4, 7, 8] [] (.exit 0) [(4, .z)] []] (pc (k_slices_IndexFunc_Irb_Address_1_L1 _ _ h12)<|pn)

theorem k_slices_ContainsFunc_Irb_Address_1 {a1 : List Api_Irb} {a2 : Int} {r : Bool} (h : slices_ContainsFunc_Irb_Address_1 a1 a2 = some r) :
  CallsOK Tryz.prog UU 50 [.sl 105 a1, .fn (.func 242) [] [.rp (c33 a2) 0]] [] (.y r) [] := by
 unfold slices_ContainsFunc_Irb_Address_1 at h
 obtain ⟨r3, h4, h⟩ := bo h
 obtain rfl := oi h; exact rf Tryz.func50 none [.callv (.j r3)] (pc (k_slices_IndexFunc_Irb_Address_1 h4)<|pn)

theorem k_choose_past_1 {a1 : Api_Irb} {a2 : Int} {r : Bool} (h : choose_past_1 a1 a2 = some r) :
  CallsOK Tryz.prog UU 263 [.agg (c105 a1), .rp (c33 a2) 0] [] (.y r) [] := by
 unfold choose_past_1 at h
 obtain rfl := oi h; exact rf Tryz.func263 none [] (pn)

theorem k_slices_IndexFunc_Irb_past_1_L1 {a1 : List Api_Irb} {a2 : Int} : LoopOK Tryz.prog UU 0 19 (subC (codeOf Tryz.f119) [1, 0, 1, 0, 0]) (ρ := Int ⊕ Unit) (slices_IndexFunc_Irb_past_1_L1 a1 a2)
  (fun v3 : Int => ([(0, .sl 105 a1), (1, .fn (.func 263) [] [.rp (c33 a2) 0]), (4, .z), (7, .j (a1.length : Int)), (8, .j v3)] : Fr DD)) (fun v3 : Int => ([] : Heap DD)) (fun r => match r with | Sum.inl v11 => .ret | Sum.inr _ => .exit 0) (fun r => match r with | Sum.inl v11 => [(4, .j v11)] | Sum.inr _ => [(4, .z)]) (fun r => match r with | Sum.inl v11 => [] | Sum.inr _ => []) := by
 refine loop_sound3 (fun s q h => ?_) (fun r => ?_)
 ·replace h : slices_IndexFunc_Irb_past_1_L1 a1 a2 s = some q := h; revert h; revert s; intro v3 h
  unfold slices_IndexFunc_Irb_past_1_L1 at h
  obtain ⟨h4, h⟩|⟨h4, h⟩ := ite_out h
  ·obtain ⟨x5, h6, h⟩ := bo h
   obtain ⟨r7, h8, h⟩ := bo h
   obtain ⟨h9, h⟩|⟨h9, h⟩ := ite_out h
   ·obtain rfl := oi h; exact rl [4] [] [.t, .row (c105 x5), .b r7, .t] (pc h4<|pc (ob105 h6)<|pc (k_choose_past_1 h8)<|pc h9<|pn)
   ·obtain rfl := oi h; exact rl [0, 1, 4, 7, 8] [] [.t, .row (c105 x5), .b r7, .f] (pc h4<|pc (ob105 h6)<|pc (k_choose_past_1 h8)<|pc h9<|pn)
  ·obtain rfl := oi h; exact rl [4] [] [.f] (pc h4<|pn)
 ·rcases r with _ | _ <;> exact Ex.noConfusion

theorem k_slices_IndexFunc_Irb_past_1 {a1 : List Api_Irb} {a2 : Int} {r : Int} (h : slices_IndexFunc_Irb_past_1 a1 a2 = some r) :
  CallsOK Tryz.prog UU 119 [.sl 105 a1, .fn (.func 263) [] [.rp (c33 a2) 0]] [] (.j r) [] := by
 unfold slices_IndexFunc_Irb_past_1 at h
 obtain ⟨r13, h12, h⟩ := bo h
 rcases r13 with v11 | _
 ·obtain rfl := oi h; exact rf Tryz.func119 none [.sum [0, 1, 4, 7, 8] [] .ret [(4, .j v11)] []] (pc (k_slices_IndexFunc_Irb_past_1_L1 _ _ h12)<|pn)
 ·obtain rfl := oi h; exact rf Tryz.func119 none [.sum [0, 1, 4, 7, 8] [] (.exit 0) [(4, .z)] []] (pc (k_slices_IndexFunc_Irb_past_1_L1 _ _ h12)<|pn)

theorem k_slices_ContainsFunc_Irb_past_1 {a1 : List Api_Irb} {a2 : Int} {r : Bool} (h : slices_ContainsFunc_Irb_past_1 a1 a2 = some r) :
  CallsOK Tryz.prog UU 50 [.sl 105 a1, .fn (.func 263) [] [.rp (c33 a2) 0]] [] (.y r) [] := by
 unfold slices_ContainsFunc_Irb_past_1 at h
 obtain ⟨r3, h4, h⟩ := bo h
 obtain rfl := oi h; exact rf Tryz.func50 none [.callv (.j r3)] (pc (k_slices_IndexFunc_Irb_past_1 h4)<|pn)

theorem k_choose_past {a1 : Api_Net} {a2 : Int} {a3 : Int} {r : Int} (h : choose_past a1 a2 a3 = some r) :
  CallsOK Tryz.prog UU 243 [.agg (c31 a1), .v (.int .u32 a2), .j a3] [] (.j r) [] := by
 unfold choose_past at h
 obtain ⟨r4, h5, h⟩ := bo h
 obtain ⟨h6, h⟩|⟨h6, h⟩ := ite_out h
 ·obtain rfl := oi h; exact rf Tryz.func243 none [.b r4, .t] (pc (k_slices_ContainsFunc_Irb_past_1 h5)<|pc h6<|pn)
 ·obtain ⟨x7, h8, h⟩ := bo h
  obtain ⟨r9, h10, h⟩ := bo h
  obtain rfl := oi h; exact rf Tryz.func243 none [.b r4, .f, .row (c105 x7), .callv (.v (.int .u32 r9))] (pc (k_slices_ContainsFunc_Irb_past_1 h5)<|pc h6<|pc (ob105 h8)<|pc (k_addr_Last h10)<|pn)

theorem k_choose_Address_L1 {a1 : Api_Net} {a2 : Int} {a3 : Int} {r15 : Int} : LoopOK Tryz.prog UU 0 91 (subC (codeOf Tryz.f214) [1, 0, 1, 1, 1, 1, 0, 0, 0]) (ρ := Int ⊕ Unit) (choose_Address_L1 a1 a2 a3 r15)
  (fun v17 : Int => ([(1, .j a2), (2, .j a3), (3, .o 0), (6, .v (.int .u32 0)), (7, .y false), (9, .j v17), (10, .j (wr_i64 r15))] : Fr DD)) (fun v17 : Int => ([.box 31 (c31 a1) false] : Heap DD)) (fun r => match r with | Sum.inl v44 => .ret | Sum.inr _ => .exit 0) (fun r => match r with | Sum.inl v44 => [(6, .v (.int .u32 v44)), (7, .y true)] | Sum.inr _ => [(6, .v (.int .u32 0)), (7, .y false)]) (fun r => match r with | Sum.inl v44 => [] | Sum.inr _ => []) := by
 refine loop_sound3 (fun s q h => ?_) (fun r => ?_)
 ·replace h : choose_Address_L1 a1 a2 a3 r15 s = some q := h; revert h; revert s; intro v17 h
  unfold choose_Address_L1 at h
  obtain ⟨h18, h⟩|⟨h18, h⟩ := ite_out h
  ·obtain ⟨r19, h20, h⟩ := bo h
   obtain ⟨r21, h22, h⟩ := bo h
   obtain ⟨h23, h⟩|⟨h23, h⟩ := ite_out h
   ·obtain ⟨h24, h⟩|⟨h24, h⟩ := ite_out h
    ·obtain ⟨h25, h⟩|⟨h25, h⟩ := ite_out h
     ·obtain rfl := oi h; exact rl [6, 7] [] [.t, .callv (.tup [.j r19.1, .y r19.2]), .b r21, .t, .t, .t] (pc h18<|pc (k_route_Lookup h20)<|pc (k_slices_ContainsFunc_Irb_Address_1 h22)<|pc h23<|pc h24<|pc h25<|pn)
     ·obtain ⟨h26, h⟩|⟨h26, h⟩ := ite_out h
      ·obtain ⟨r27, h28, h⟩ := bo h
       obtain rfl := oi h; exact rl [1, 2, 3, 6, 7, 9, 10] [0] [.t, .callv (.tup [.j r19.1, .y r19.2]), .b r21, .t, .t, .f, .t, .f, .callv (.j r27)] (pc h18<|pc (k_route_Lookup h20)<|pc (k_slices_ContainsFunc_Irb_Address_1 h22)<|pc h23<|pc h24<|pc h25<|pc h26<|pc h25<|pc (k_choose_past h28)<|pn)
      ·obtain ⟨r29, h30, h⟩ := bo h
       obtain rfl := oi h; exact rl [1, 2, 3, 6, 7, 9, 10] [0] [.t, .callv (.tup [.j r19.1, .y r19.2]), .b r21, .t, .t, .f, .f, .callv (.j r29)] (pc h18<|pc (k_route_Lookup h20)<|pc (k_slices_ContainsFunc_Irb_Address_1 h22)<|pc h23<|pc h24<|pc h25<|pc h26<|pc (k_choose_past h30)<|pn)
    ·obtain ⟨h31, h⟩|⟨h31, h⟩ := ite_out h
     ·obtain ⟨h32, h⟩|⟨h32, h⟩ := ite_out h
      ·obtain rfl := oi h; exact rl [6, 7] [] [.t, .callv (.tup [.j r19.1, .y r19.2]), .b r21, .t, .f, .t, .t] (pc h18<|pc (k_route_Lookup h20)<|pc (k_slices_ContainsFunc_Irb_Address_1 h22)<|pc h23<|pc h24<|pc h31<|pc h32<|pn)
      ·obtain ⟨r33, h34, h⟩ := bo h
       obtain rfl := oi h; exact rl [1, 2, 3, 6, 7, 9, 10] [0] [.t, .callv (.tup [.j r19.1, .y r19.2]), .b r21, .t, .f, .t, .f, .callv (.j r33)] (pc h18<|pc (k_route_Lookup h20)<|pc (k_slices_ContainsFunc_Irb_Address_1 h22)<|pc h23<|pc h24<|pc h31<|pc h32<|pc (k_choose_past h34)<|pn)
     ·obtain ⟨r35, h36, h⟩ := bo h
      obtain rfl := oi h; exact rl [1, 2, 3, 6, 7, 9, 10] [0] [.t, .callv (.tup [.j r19.1, .y r19.2]), .b r21, .t, .f, .f, .callv (.j r35)] (pc h18<|pc (k_route_Lookup h20)<|pc (k_slices_ContainsFunc_Irb_Address_1 h22)<|pc h23<|pc h24<|pc h31<|pc (k_choose_past h36)<|pn)
   ·obtain ⟨h37, h⟩|⟨h37, h⟩ := ite_out h
    ·obtain ⟨h38, h⟩|⟨h38, h⟩ := ite_out h
     ·obtain rfl := oi h; exact rl [6, 7] [] [.t, .callv (.tup [.j r19.1, .y r19.2]), .b r21, .f, .t, .t] (pc h18<|pc (k_route_Lookup h20)<|pc (k_slices_ContainsFunc_Irb_Address_1 h22)<|pc h23<|pc h37<|pc h38<|pn)
     ·obtain ⟨r39, h40, h⟩ := bo h
      obtain rfl := oi h; exact rl [1, 2, 3, 6, 7, 9, 10] [0] [.t, .callv (.tup [.j r19.1, .y r19.2]), .b r21, .f, .t, .f, .callv (.j r39)] (pc h18<|pc (k_route_Lookup h20)<|pc (k_slices_ContainsFunc_Irb_Address_1 h22)<|pc h23<|pc h37<|pc h38<|pc (k_choose_past h40)<|pn)
    ·obtain ⟨r41, h42, h⟩ := bo h
     obtain rfl := oi h; exact rl [1, 2, 3, 6, 7, 9, 10] [0] [.t, .callv (.tup [.j r19.1, .y r19.2]), .b r21, .f, .f, .callv (.j r41)] (pc h18<|pc (k_route_Lookup h20)<|pc (k_slices_ContainsFunc_Irb_Address_1 h22)<|pc h23<|pc h37<|pc (k_choose_past h42)<|pn)
  ·obtain rfl := oi h; exact rl [6, 7] [] [.f] (pc h18<|pn)
 ·rcases r with _ | _ <;> exact Ex.noConfusion

theorem k_choose_Address {a1 : Api_Net} {a2 : Int} {a3 : Int} {r : Int × Bool} (h : choose_Address a1 a2 a3 = some r) :
  CallsOK Tryz.prog UU 214 [.agg (c31 a1), .j a2, .j a3] [] (.tup [.v (.int .u32 r.1), .y r.2]) [] := by
 unfold choose_Address at h
 obtain ⟨h4, h⟩|⟨h4, h⟩ := ite_out h
 ·obtain rfl := oi h; exact rf Tryz.func214 none [.t] (pc h4<|pn)
 ·obtain ⟨h5, h⟩|⟨h5, h⟩ := ite_out h
  ·obtain rfl := oi h; exact rf Tryz.func214 none [.f, .t] (pc h4<|pc h5<|pn)
  ·obtain ⟨h6, h⟩|⟨h6, h⟩ := ite_out h
   ·obtain rfl := oi h; exact rf Tryz.func214 none [.f, .f, .t] (pc h4<|pc h5<|pc h6<|pn)
   ·obtain ⟨h7, h⟩|⟨h7, h⟩ := ite_out h
    ·obtain rfl := oi h; exact rf Tryz.func214 none [.f, .f, .f, .t] (pc h4<|pc h5<|pc h6<|pc h7<|pn)
    ·obtain ⟨r8, h9, h⟩ := bo h
     obtain ⟨h10, h⟩|⟨h10, h⟩ := ite_out h
     ·obtain rfl := oi h; exact rf Tryz.func214 none [.f, .f, .f, .f, .b r8, .t] (pc h4<|pc h5<|pc h6<|pc h7<|pc (k_names_Right h9)<|pc h10<|pn)
     ·obtain ⟨x11, h12, h⟩ := bo h
      obtain ⟨r13, h14, h⟩ := bo h
      obtain ⟨r15, h16, h⟩ := bo h
      obtain ⟨r46, h45, h⟩ := bo h
      rcases r46 with v44 | _
      ·obtain rfl := oi h; exact rf Tryz.func214 none [.f, .f, .f, .f, .b r8, .f, .row (c105 x11), .callv (.v (.int .u32 r13)), .callv (.v (.int .u32 r15)), .sum [1, 2, 3, 6, 7, 9, 10] [0] .ret [(6, .v (.int .u32 v44)), (7, .y true)] []] (pc h4<|pc h5<|pc h6<|pc h7<|pc (k_names_Right h9)<|pc h10<|pc (ob105 h12)<|pc (k_addr_First h14)<|pc (k_addr_Last h16)<|pc (k_choose_Address_L1 _ _ h45)<|pn)
      ·obtain rfl := oi h; exact rf Tryz.func214 none [.f, .f, .f, .f, .b r8, .f, .row (c105 x11), .callv (.v (.int .u32 r13)), .callv (.v (.int .u32 r15)), .sum [1, 2, 3, 6, 7, 9, 10] [0] (.exit 0) [(6, .v (.int .u32 0)), (7, .y false)] []] (pc h4<|pc h5<|pc h6<|pc h7<|pc (k_names_Right h9)<|pc h10<|pc (ob105 h12)<|pc (k_addr_First h14)<|pc (k_addr_Last h16)<|pc (k_choose_Address_L1 _ _ h45)<|pn)

theorem k_choose_Routes_L1 {a1 : Api_Net} {a2 : Int} : LoopOK Tryz.prog UU 0 64 (subC (codeOf Tryz.f177) [1, 1, 1, 0, 1, 0, 0]) (fun s : (List Choose_Lead) × Int => match s with | (l11, v12) => choose_Routes_L1 a1 a2 l11 v12)
  (fun s : (List Choose_Lead) × Int => (match s with | (l11, v12) => [(1, .j a2), (2, .o 0), (4, .os 1 0), (5, .os 2 l11.length), (34, .sl 105 a1.irbs), (35, .j (a1.irbs.length : Int)), (36, .j v12)] : Fr DD)) (fun s : (List Choose_Lead) × Int => (match s with | (l11, v12) => [.box 31 (c31 a1) false, .n 242, .w 242 l11] : Heap DD)) (fun r => match r with | l24 => .exit 0) (fun r => match r with | l24 => [(4, .os 0 0), (5, .os 1 l24.length)]) (fun r => match r with | l24 => [.n 242, .w 242 l24]) := by
 refine loop_sound3 (fun s q h => ?_) (fun r => ?_)
 ·obtain ⟨l11, v12⟩ := s; replace h : choose_Routes_L1 a1 a2 l11 v12 = some q := h
  unfold choose_Routes_L1 at h
  obtain ⟨h13, h⟩|⟨h13, h⟩ := ite_out h
  ·obtain ⟨x14, h15, h⟩ := bo h
   obtain ⟨x16, h17, h⟩ := bo h
   obtain ⟨r18, h19, h⟩ := bo h
   obtain ⟨h20, h⟩|⟨h20, h⟩ := ite_out h
   ·obtain ⟨h21, h⟩|⟨h21, h⟩ := ite_out h
    ·obtain rfl := oi h; exact rl [1, 2, 4, 5, 34, 35, 36] [0, 1, 2] [.t, .row (c105 x14), .row (c90 x16), .callv (.tup [.v (.int .u32 r18.1), .y r18.2]), .t, .obj [] (.w 242 [(⟨v12, x14.domain, r18.1⟩ : Choose_Lead)]), .obj [] (.w 242 (l11 ++ [(⟨v12, x14.domain, r18.1⟩ : Choose_Lead)]))] (pc h13<|pc (ob105 h15)<|pc (ob90 h17)<|pc (k_choose_Address h19)<|pc h20<|pc (bs_ob 242 [(⟨v12, x14.domain, r18.1⟩ : Choose_Lead)])<|pc (app_ob 242 (n := l11.length) (l := l11) (xs := [(⟨v12, x14.domain, r18.1⟩ : Choose_Lead)]) h21)<|pc (rn (List.length [(⟨v12, x14.domain, r18.1⟩ : Choose_Lead)]))<|pn)
    ·cases h
   ·obtain rfl := oi h; exact rl [1, 2, 4, 5, 34, 35, 36] [0, 1, 2] [.t, .row (c105 x14), .row (c90 x16), .callv (.tup [.v (.int .u32 r18.1), .y r18.2]), .f] (pc h13<|pc (ob105 h15)<|pc (ob90 h17)<|pc (k_choose_Address h19)<|pc h20<|pn)
  ·obtain rfl := oi h; exact rl [4, 5] [1, 2] [.f] (pc h13<|pn)
 ·exact Ex.noConfusion

theorem k_choose_Routes {a1 : Api_Net} {a2 : Int} {r : ((List Choose_Lead))} (h : choose_Routes a1 a2 = some r) :
  CallsOK Tryz.prog UU 177 [.agg (c31 a1), .j a2] [] ((fun r => match r with | l27 => .os 0 l27.length) r) ((fun r => match r with | l27 => [.w 242 l27]) r) := by
 unfold choose_Routes at h
 obtain ⟨h3, h⟩|⟨h3, h⟩ := ite_out h
 ·obtain rfl := oi h; exact rf Tryz.func177 (some [2]) [.t] (pc h3<|pn)
 ·obtain ⟨h4, h⟩|⟨h4, h⟩ := ite_out h
  ·obtain rfl := oi h; exact rf Tryz.func177 (some [2]) [.f, .t] (pc h3<|pc h4<|pn)
  ·obtain ⟨x5, h6, h⟩ := bo h
   obtain ⟨h7, h⟩|⟨h7, h⟩ := ite_out h
   ·obtain rfl := oi h; exact rf Tryz.func177 (some [2]) [.f, .f, .row (c90 x5), .t] (pc h3<|pc h4<|pc (ob90 h6)<|pc h7<|pn)
   ·obtain ⟨r8, h9, h⟩ := bo h
    obtain ⟨h10, h⟩|⟨h10, h⟩ := ite_out h
    ·obtain rfl := oi h; exact rf Tryz.func177 (some [2]) [.f, .f, .row (c90 x5), .f, .b r8, .t] (pc h3<|pc h4<|pc (ob90 h6)<|pc h7<|pc (k_names_Right h9)<|pc h10<|pn)
    ·obtain ⟨l24, h25, h⟩ := bo h
     obtain rfl := oi h; exact rf Tryz.func177 (some [1]) [.f, .f, .row (c90 x5), .f, .b r8, .f, .sum [1, 2, 4, 5, 34, 35, 36] [0, 1, 2] (.exit 0) [(4, .os 0 0), (5, .os 1 l24.length)] [.n 242, .w 242 l24]] (pc h3<|pc h4<|pc (ob90 h6)<|pc h7<|pc (k_names_Right h9)<|pc h10<|pc (k_choose_Routes_L1 _ _ h25)<|pn)

theorem k_labels_routes_L1 {l5 : List Choose_Lead} : LoopOK Tryz.prog UU 0 23 (subC (codeOf Tryz.f208) [1, 1, 0, 1, 0, 0]) (fun s : (List Int) × Int => match s with | (l6, v7) => labels_routes_L1 l5 l6 v7)
  (fun s : (List Int) × Int => (match s with | (l6, v7) => [(4, .os 0 0), (5, .os 1 l6.length), (10, .os 2 l5.length), (11, .j (l5.length : Int)), (12, .j v7)] : Fr DD)) (fun s : (List Int) × Int => (match s with | (l6, v7) => [.n 3, .w 3 l6, .w 242 l5] : Heap DD)) (fun r => match r with | l15 => .exit 0) (fun r => match r with | l15 => [(4, .os 0 0), (5, .os 1 l15.length)]) (fun r => match r with | l15 => [.n 3, .w 3 l15]) := by
 refine loop_sound3 (fun s q h => ?_) (fun r => ?_)
 ·obtain ⟨l6, v7⟩ := s; replace h : labels_routes_L1 l5 l6 v7 = some q := h
  unfold labels_routes_L1 at h
  obtain ⟨h8, h⟩|⟨h8, h⟩ := ite_out h
  ·obtain ⟨h9, h⟩|⟨h9, h⟩ := ite_out h
   ·obtain ⟨x10, h11, h⟩ := bo h
    obtain ⟨h12, h⟩|⟨h12, h⟩ := ite_out h
    ·obtain rfl := oi h; exact rl [4, 5, 10, 11, 12] [0, 1, 2] [.t, .row (c242 x10), .obj [] (.w 3 [x10.domain]), .obj [] (.w 3 (l6 ++ [x10.domain]))] (pc h8<|pc (an l5.length (lin_ob h9))<|pc (an l5.length (obn242 h11))<|pc (bs_ob 3 [x10.domain])<|pc (app_ob 3 (n := l6.length) (l := l6) (xs := [x10.domain]) h12)<|pc (rn (List.length [x10.domain]))<|pn)
    ·cases h
   ·cases h
  ·obtain rfl := oi h; exact rl [4, 5] [0, 1] [.f] (pc h8<|pn)
 ·exact Ex.noConfusion

theorem k_labels_routes {a1 : Api_Net} {a2 : Int} {r : ((List Int))} (h : labels_routes a1 a2 = some r) :
  CallsOK Tryz.prog UU 208 [.agg (c31 a1), .j a2] [] ((fun r => match r with | l18 => .os 0 l18.length) r) ((fun r => match r with | l18 => [.w 3 l18]) r) := by
 unfold labels_routes at h
 obtain ⟨l5, h4, h⟩ := bo h
 obtain ⟨l15, h16, h⟩ := bo h
 obtain rfl := oi h; exact rf Tryz.func208 (some [1]) [.callo (.os 0 l5.length) [.w 242 l5], .sum [4, 5, 10, 11, 12] [1, 2, 3] (.exit 0) [(4, .os 0 0), (5, .os 1 l15.length)] [.n 3, .w 3 l15]] (pc (k_choose_Routes h4)<|pc (im242 l5)<|pc (rn l5.length)<|pc (k_labels_routes_L1 _ _ h16)<|pn)

theorem k_labels_begin_L1 {a1 : Api_Net} : LoopOK Tryz.prog UU 0 44 (subC (codeOf Tryz.f161) [1, 1, 0, 1, 0, 0]) (fun s : (List (List Int)) × (List (List Int)) × Int => match s with | (l3, l4, v5) => labels_begin_L1 a1 l3 l4 v5)
  (fun s : (List (List Int)) × (List (List Int)) × Int => (match s with | (l3, l4, v5) => [(1, .o 0), (2, .v (.pointer none)), (3, .o 1), (14, .j (a1.domains.length : Int)), (15, .j v5)] : Fr DD)) (fun s : (List (List Int)) × (List (List Int)) × Int => (match s with | (l3, l4, v5) => [.box 31 (c31 a1) false, .box 229 [.sl 56 a1.devices, .sl 110 a1.ports, .sl 174 a1.links, .sl 90 a1.domains, .sl 178 a1.statics, .sl 113 a1.floods, .sl 88 a1.vrfs, .sl 105 a1.irbs, .os 2 (Int.toNat (a1.domains.length : Int)), .os 3 0, .os 4 l3.length, .os 5 l4.length] false, .arr 214 (List.replicate (Int.toNat (a1.domains.length : Int)) (⟨0, 0⟩ : Labels_Label)) (Int.toNat (a1.domains.length : Int)) false, .n 272, .w 34 l3, .w 34 l4] : Heap DD)) (fun r => match r with | (l19, l20) => .exit 0) (fun r => match r with | (l19, l20) => [(2, .v (.pointer none)), (3, .o 0)]) (fun r => match r with | (l19, l20) => [.box 229 [.sl 56 a1.devices, .sl 110 a1.ports, .sl 174 a1.links, .sl 90 a1.domains, .sl 178 a1.statics, .sl 113 a1.floods, .sl 88 a1.vrfs, .sl 105 a1.irbs, .os 1 (Int.toNat (a1.domains.length : Int)), .os 2 0, .os 3 l19.length, .os 4 l20.length] false, .arr 214 (List.replicate (Int.toNat (a1.domains.length : Int)) (⟨0, 0⟩ : Labels_Label)) (Int.toNat (a1.domains.length : Int)) false, .n 272, .w 34 l19, .w 34 l20]) := by
 refine loop_sound3 (fun s q h => ?_) (fun r => ?_)
 ·obtain ⟨l3, l4, v5⟩ := s; replace h : labels_begin_L1 a1 l3 l4 v5 = some q := h
  unfold labels_begin_L1 at h
  obtain ⟨h6, h⟩|⟨h6, h⟩ := ite_out h
  ·obtain ⟨l9, h8, h⟩ := bo h
   obtain ⟨h10, h⟩|⟨h10, h⟩ := ite_out h
   ·obtain ⟨l13, h12, h⟩ := bo h
    obtain ⟨h14, h⟩|⟨h14, h⟩ := ite_out h
    ·obtain rfl := oi h; exact rl [1, 2, 3, 14, 15] [0, 1, 2, 3, 4, 5] [.t, .sum [7] [] .nor [] [.box 31 (c31 a1) false, .box 229 [.sl 56 a1.devices, .sl 110 a1.ports, .sl 174 a1.links, .sl 90 a1.domains, .sl 178 a1.statics, .sl 113 a1.floods, .sl 88 a1.vrfs, .sl 105 a1.irbs, .os 2 (Int.toNat (a1.domains.length : Int)), .os 3 0, .os 4 l3.length, .os 5 l4.length] false, .arr 214 (List.replicate (Int.toNat (a1.domains.length : Int)) (⟨0, 0⟩ : Labels_Label)) (Int.toNat (a1.domains.length : Int)) false, .n 272, .w 34 l3, .w 34 l4, .w 3 l9], .sum [8] [] .nor [] [.box 31 (c31 a1) false, .box 229 [.sl 56 a1.devices, .sl 110 a1.ports, .sl 174 a1.links, .sl 90 a1.domains, .sl 178 a1.statics, .sl 113 a1.floods, .sl 88 a1.vrfs, .sl 105 a1.irbs, .os 2 (Int.toNat (a1.domains.length : Int)), .os 3 0, .os 4 l3.length, .os 5 l4.length] false, .arr 214 (List.replicate (Int.toNat (a1.domains.length : Int)) (⟨0, 0⟩ : Labels_Label)) (Int.toNat (a1.domains.length : Int)) false, .n 272, .w 34 l3, .w 34 l4, .wt 3 l9, .w 34 [l9]], .sum [9] [] .nor [] [.box 31 (c31 a1) false, .box 229 [.sl 56 a1.devices, .sl 110 a1.ports, .sl 174 a1.links, .sl 90 a1.domains, .sl 178 a1.statics, .sl 113 a1.floods, .sl 88 a1.vrfs, .sl 105 a1.irbs, .os 2 (Int.toNat (a1.domains.length : Int)), .os 3 0, .os 4 l3.length, .os 5 l4.length] false, .arr 214 (List.replicate (Int.toNat (a1.domains.length : Int)) (⟨0, 0⟩ : Labels_Label)) (Int.toNat (a1.domains.length : Int)) false, .n 272, .w 34 (l3 ++ [l9]), .w 34 l4, .wt 3 l9, .w 34 [l9]], .callo (.os 0 l9.length) [.w 3 l9], .obj [6] (.w 34 [l9]), .obj [] (.w 34 (l3 ++ [l9])), .sum [7] [] .nor [] [.box 31 (c31 a1) false, .box 229 [.sl 56 a1.devices, .sl 110 a1.ports, .sl 174 a1.links, .sl 90 a1.domains, .sl 178 a1.statics, .sl 113 a1.floods, .sl 88 a1.vrfs, .sl 105 a1.irbs, .os 2 (Int.toNat (a1.domains.length : Int)), .os 3 0, .os 4 (List.length (l3 ++ [l9])), .os 5 l4.length] false, .arr 214 (List.replicate (Int.toNat (a1.domains.length : Int)) (⟨0, 0⟩ : Labels_Label)) (Int.toNat (a1.domains.length : Int)) false, .n 272, .w 34 (l3 ++ [l9]), .w 34 l4, .wt 3 l9, .w 34 [l9], .w 3 l13], .sum [8] [] .nor [] [.box 31 (c31 a1) false, .box 229 [.sl 56 a1.devices, .sl 110 a1.ports, .sl 174 a1.links, .sl 90 a1.domains, .sl 178 a1.statics, .sl 113 a1.floods, .sl 88 a1.vrfs, .sl 105 a1.irbs, .os 2 (Int.toNat (a1.domains.length : Int)), .os 3 0, .os 4 (List.length (l3 ++ [l9])), .os 5 l4.length] false, .arr 214 (List.replicate (Int.toNat (a1.domains.length : Int)) (⟨0, 0⟩ : Labels_Label)) (Int.toNat (a1.domains.length : Int)) false, .n 272, .w 34 (l3 ++ [l9]), .w 34 l4, .wt 3 l9, .w 34 [l9], .wt 3 l13, .w 34 [l13]], .sum [9] [] .nor [] [.box 31 (c31 a1) false, .box 229 [.sl 56 a1.devices, .sl 110 a1.ports, .sl 174 a1.links, .sl 90 a1.domains, .sl 178 a1.statics, .sl 113 a1.floods, .sl 88 a1.vrfs, .sl 105 a1.irbs, .os 2 (Int.toNat (a1.domains.length : Int)), .os 3 0, .os 4 (List.length (l3 ++ [l9])), .os 5 l4.length] false, .arr 214 (List.replicate (Int.toNat (a1.domains.length : Int)) (⟨0, 0⟩ : Labels_Label)) (Int.toNat (a1.domains.length : Int)) false, .n 272, .w 34 (l3 ++ [l9]), .w 34 (l4 ++ [l13]), .wt 3 l9, .w 34 [l9], .wt 3 l13, .w 34 [l13]], .callo (.os 0 l13.length) [.w 3 l13], .obj [8] (.w 34 [l13]), .obj [] (.w 34 (l4 ++ [l13]))] (pc h6<|pd (rr (.o 1))<|pd (rr (.o 1))<|pd (rr (.o 1))<|pc (rr (.o 1))<|pd (rr (.op 1 1 0 10))<|pd (rr (.os 4 l3.length))<|pc (rh [.box 31 (c31 a1) false, .box 229 [.sl 56 a1.devices, .sl 110 a1.ports, .sl 174 a1.links, .sl 90 a1.domains, .sl 178 a1.statics, .sl 113 a1.floods, .sl 88 a1.vrfs, .sl 105 a1.irbs, .os 2 (Int.toNat (a1.domains.length : Int)), .os 3 0, .os 4 l3.length, .os 5 l4.length] false, .arr 214 (List.replicate (Int.toNat (a1.domains.length : Int)) (⟨0, 0⟩ : Labels_Label)) (Int.toNat (a1.domains.length : Int)) false, .n 272, .w 34 l3, .w 34 l4, .w 3 l9])<|pc (k_labels_hops h8)<|pc (im3 l9)<|pc (rh [.box 31 (c31 a1) false, .box 229 [.sl 56 a1.devices, .sl 110 a1.ports, .sl 174 a1.links, .sl 90 a1.domains, .sl 178 a1.statics, .sl 113 a1.floods, .sl 88 a1.vrfs, .sl 105 a1.irbs, .os 2 (Int.toNat (a1.domains.length : Int)), .os 3 0, .os 4 l3.length, .os 5 l4.length] false, .arr 214 (List.replicate (Int.toNat (a1.domains.length : Int)) (⟨0, 0⟩ : Labels_Label)) (Int.toNat (a1.domains.length : Int)) false, .n 272, .w 34 l3, .w 34 l4, .wt 3 l9, .w 34 [l9]])<|pc (bs_ob 34 [l9])<|pc (rn l9.length)<|pc (rh [.box 31 (c31 a1) false, .box 229 [.sl 56 a1.devices, .sl 110 a1.ports, .sl 174 a1.links, .sl 90 a1.domains, .sl 178 a1.statics, .sl 113 a1.floods, .sl 88 a1.vrfs, .sl 105 a1.irbs, .os 2 (Int.toNat (a1.domains.length : Int)), .os 3 0, .os 4 l3.length, .os 5 l4.length] false, .arr 214 (List.replicate (Int.toNat (a1.domains.length : Int)) (⟨0, 0⟩ : Labels_Label)) (Int.toNat (a1.domains.length : Int)) false, .n 272, .w 34 (l3 ++ [l9]), .w 34 l4, .wt 3 l9, .w 34 [l9]])<|pc (app_ob 34 (n := l3.length) (l := l3) (xs := [l9]) h10)<|pc (rn (List.length [l9]))<|pd (rr (.o 1))<|pd (rr (.o 1))<|pd (rr (.o 1))<|pc (rr (.o 1))<|pd (rr (.op 1 1 0 11))<|pd (rr (.os 5 l4.length))<|pc (rh [.box 31 (c31 a1) false, .box 229 [.sl 56 a1.devices, .sl 110 a1.ports, .sl 174 a1.links, .sl 90 a1.domains, .sl 178 a1.statics, .sl 113 a1.floods, .sl 88 a1.vrfs, .sl 105 a1.irbs, .os 2 (Int.toNat (a1.domains.length : Int)), .os 3 0, .os 4 (List.length (l3 ++ [l9])), .os 5 l4.length] false, .arr 214 (List.replicate (Int.toNat (a1.domains.length : Int)) (⟨0, 0⟩ : Labels_Label)) (Int.toNat (a1.domains.length : Int)) false, .n 272, .w 34 (l3 ++ [l9]), .w 34 l4, .wt 3 l9, .w 34 [l9], .w 3 l13])<|pc (k_labels_routes h12)<|pc (im3 l13)<|pc (rh [.box 31 (c31 a1) false, .box 229 [.sl 56 a1.devices, .sl 110 a1.ports, .sl 174 a1.links, .sl 90 a1.domains, .sl 178 a1.statics, .sl 113 a1.floods, .sl 88 a1.vrfs, .sl 105 a1.irbs, .os 2 (Int.toNat (a1.domains.length : Int)), .os 3 0, .os 4 (List.length (l3 ++ [l9])), .os 5 l4.length] false, .arr 214 (List.replicate (Int.toNat (a1.domains.length : Int)) (⟨0, 0⟩ : Labels_Label)) (Int.toNat (a1.domains.length : Int)) false, .n 272, .w 34 (l3 ++ [l9]), .w 34 l4, .wt 3 l9, .w 34 [l9], .wt 3 l13, .w 34 [l13]])<|pc (bs_ob 34 [l13])<|pc (rn l13.length)<|pc (rh [.box 31 (c31 a1) false, .box 229 [.sl 56 a1.devices, .sl 110 a1.ports, .sl 174 a1.links, .sl 90 a1.domains, .sl 178 a1.statics, .sl 113 a1.floods, .sl 88 a1.vrfs, .sl 105 a1.irbs, .os 2 (Int.toNat (a1.domains.length : Int)), .os 3 0, .os 4 (List.length (l3 ++ [l9])), .os 5 l4.length] false, .arr 214 (List.replicate (Int.toNat (a1.domains.length : Int)) (⟨0, 0⟩ : Labels_Label)) (Int.toNat (a1.domains.length : Int)) false, .n 272, .w 34 (l3 ++ [l9]), .w 34 (l4 ++ [l13]), .wt 3 l9, .w 34 [l9], .wt 3 l13, .w 34 [l13]])<|pc (app_ob 34 (n := l4.length) (l := l4) (xs := [l13]) h14)<|pc (rn (List.length [l13]))<|pn)
    ·cases h
   ·cases h
  ·obtain rfl := oi h; exact rl [2, 3] [1, 2, 3, 4, 5] [.f] (pc h6<|pn)
 ·exact Ex.noConfusion

def b0_k_labels_begin (a1 : Api_Net) : List (AObj DD) := [.box 31 (c31 a1) false, .arr 214 (List.replicate (Int.toNat (a1.domains.length : Int)) (⟨0, 0⟩ : Labels_Label)) (Int.toNat (a1.domains.length : Int)) false]
theorem k_labels_begin {a1 : Api_Net} {r : ((List (List Int)) × (List (List Int)))} (h : labels_begin a1 = some r) :
  CallsOK Tryz.prog UU 161 [.agg (c31 a1)] [] ((fun r => match r with | (l23, l24) => .o 0) r) ((fun r => match r with | (l23, l24) => [.box 229 [.sl 56 a1.devices, .sl 110 a1.ports, .sl 174 a1.links, .sl 90 a1.domains, .sl 178 a1.statics, .sl 113 a1.floods, .sl 88 a1.vrfs, .sl 105 a1.irbs, .os 1 (Int.toNat (a1.domains.length : Int)), .os 2 0, .os 3 l23.length, .os 4 l24.length] false, .arr 214 (List.replicate (Int.toNat (a1.domains.length : Int)) (⟨0, 0⟩ : Labels_Label)) (Int.toNat (a1.domains.length : Int)) false, .n 272, .w 34 l23, .w 34 l24]) r) := by
 unfold labels_begin at h
 obtain ⟨h2, h⟩|⟨h2, h⟩ := ite_out h
 ·obtain ⟨r22, h21, h⟩ := bo h
  obtain ⟨l19, l20⟩ := r22
  obtain rfl := oi h; exact rf Tryz.func161 (some [0, 1, 2, 3, 4]) [.sum [4] [] .nor [] (b0_k_labels_begin a1), .obj [] (.arr 214 (List.replicate (Int.toNat (a1.domains.length : Int)) (⟨0, 0⟩ : Labels_Label)) (Int.toNat (a1.domains.length : Int)) false), .sum [1, 2, 3, 14, 15] [0, 5, 1, 2, 3, 4] (.exit 0) [(2, .v (.pointer none)), (3, .o 0)] [.box 229 [.sl 56 a1.devices, .sl 110 a1.ports, .sl 174 a1.links, .sl 90 a1.domains, .sl 178 a1.statics, .sl 113 a1.floods, .sl 88 a1.vrfs, .sl 105 a1.irbs, .os 1 (Int.toNat (a1.domains.length : Int)), .os 2 0, .os 3 l19.length, .os 4 l20.length] false, .arr 214 (List.replicate (Int.toNat (a1.domains.length : Int)) (⟨0, 0⟩ : Labels_Label)) (Int.toNat (a1.domains.length : Int)) false, .n 272, .w 34 l19, .w 34 l20]] (pc (rr (.agg [.sl 56 a1.devices, .sl 110 a1.ports, .sl 174 a1.links, .sl 90 a1.domains, .sl 178 a1.statics, .sl 113 a1.floods, .sl 88 a1.vrfs, .sl 105 a1.irbs]))<|pc (rh (b0_k_labels_begin a1))<|pc (mk_ob 214 (⟨0, 0⟩ : Labels_Label) h2)<|pc (rn (Int.toNat (a1.domains.length : Int)))<|pc (k_labels_begin_L1 _ _ h21)<|pn)
 ·cases h

theorem k_labels_spread_grow_own {a1 : List Api_Device} {a2 : List Api_Port} {a3 : List Api_Link} {a4 : List Api_Domain} {a5 : List Api_Static} {a6 : List Api_Flood} {a7 : List Api_Vrf} {a8 : List Api_Irb} {a9 : List Labels_Label} {n10 : Nat} {a11 : List Labels_queued} {a12 : List (List Int)} {a13 : List (List Int)} {a14 : Int} {a15 : Labels_Label} {r : ((List Labels_Label) × (List Labels_queued))} (h : labels_spread_grow_own a1 a2 a3 a4 a5 a6 a7 a8 a9 n10 a11 a12 a13 a14 a15 = some r) :
  CallsOK Tryz.prog UU 162 [.o 0, .j a14, .agg (c214 a15)] [.box 229 [.sl 56 a1, .sl 110 a2, .sl 174 a3, .sl 90 a4, .sl 178 a5, .sl 113 a6, .sl 88 a7, .sl 105 a8, .os 1 n10, .os 2 a11.length, .os 3 a12.length, .os 4 a13.length] false, .arr 214 a9 n10 false, .w 272 a11, .w 34 a12, .w 34 a13] ((fun r => match r with | (l23, l24) => .tup []) r) ((fun r => match r with | (l23, l24) => [.box 229 [.sl 56 a1, .sl 110 a2, .sl 174 a3, .sl 90 a4, .sl 178 a5, .sl 113 a6, .sl 88 a7, .sl 105 a8, .os 1 n10, .os 2 l24.length, .os 3 a12.length, .os 4 a13.length] false, .arr 214 l23 n10 false, .w 272 l24, .w 34 a12, .w 34 a13]) r) := by
 unfold labels_spread_grow_own at h
 obtain ⟨h16, h⟩|⟨h16, h⟩ := ite_out h
 ·obtain ⟨x17, h18, h⟩ := bo h
  obtain ⟨h19, h⟩|⟨h19, h⟩ := ite_out h
  ·obtain ⟨x20, h21, h⟩ := bo h
   obtain ⟨h22, h⟩|⟨h22, h⟩ := ite_out h
   ·obtain rfl := oi h; exact rf Tryz.func162 (some [0, 1, 2, 3, 4]) [.row (c214 x17), .t, .row (c214 x20), .obj [] (.arr 214 (List.set a9 a14.toNat (⟨bits_or .i64 x17.plain a15.plain, bits_or .i64 x17.led a15.led⟩ : Labels_Label)) n10 false), .obj [] (.w 272 [(⟨(⟨a14⟩ : Labels_task), false⟩ : Labels_queued)]), .obj [] (.w 272 (a11 ++ [(⟨(⟨a14⟩ : Labels_task), false⟩ : Labels_queued)]))] (pc (an n10 (lin_ob h16))<|pc (an n10 (obn214 h18))<|pc h19<|pc (an n10 (lin_ob h16))<|pc (st_ob (e := 214) (n := n10) (l := a9) (i := a14.toNat) (⟨bits_or .i64 x17.plain a15.plain, bits_or .i64 x17.led a15.led⟩ : Labels_Label) [.j (bits_or .i64 x17.plain a15.plain), .j (bits_or .i64 x17.led a15.led)] (obn214 h21) rfl)<|pc (bs_ob 272 [(⟨(⟨a14⟩ : Labels_task), false⟩ : Labels_queued)])<|pc (app_ob 272 (n := a11.length) (l := a11) (xs := [(⟨(⟨a14⟩ : Labels_task), false⟩ : Labels_queued)]) h22)<|pc (rn (List.length [(⟨(⟨a14⟩ : Labels_task), false⟩ : Labels_queued)]))<|pn)
   ·cases h
  ·obtain rfl := oi h; exact rf Tryz.func162 (some [0, 1, 2, 3, 4]) [.row (c214 x17), .f] (pc (an n10 (lin_ob h16))<|pc (an n10 (obn214 h18))<|pc h19<|pn)
 ·cases h

theorem k_labels_spread_grow_ownx {a1 : List Api_Device} {a2 : List Api_Port} {a3 : List Api_Link} {a4 : List Api_Domain} {a5 : List Api_Static} {a6 : List Api_Flood} {a7 : List Api_Vrf} {a8 : List Api_Irb} {a9 : List Labels_Label} {n10 : Nat} {a11 : List Labels_queued} {n12 : Nat} {a13 : List (List Int)} {a14 : List (List Int)} {a15 : Int} {a16 : Labels_Label} {r : ((List Labels_Label) × (List Labels_queued) × Nat)} (h : labels_spread_grow_ownx a1 a2 a3 a4 a5 a6 a7 a8 a9 n10 a11 n12 a13 a14 a15 a16 = some r) :
  CallsOK Tryz.prog UU 162 [.o 0, .j a15, .agg (c214 a16)] [.box 229 [.sl 56 a1, .sl 110 a2, .sl 174 a3, .sl 90 a4, .sl 178 a5, .sl 113 a6, .sl 88 a7, .sl 105 a8, .os 1 n10, .os 2 n12, .os 3 a13.length, .os 4 a14.length] false, .arr 214 a9 n10 false, .arr 272 a11 n12 false, .w 34 a13, .w 34 a14] ((fun r => match r with | (l24, l25, n26) => .tup []) r) ((fun r => match r with | (l24, l25, n26) => [.box 229 [.sl 56 a1, .sl 110 a2, .sl 174 a3, .sl 90 a4, .sl 178 a5, .sl 113 a6, .sl 88 a7, .sl 105 a8, .os 1 n10, .os 2 n26, .os 3 a13.length, .os 4 a14.length] false, .arr 214 l24 n10 false, .arr 272 l25 n26 false, .w 34 a13, .w 34 a14]) r) := by
 unfold labels_spread_grow_ownx at h
 obtain ⟨h17, h⟩|⟨h17, h⟩ := ite_out h
 ·obtain ⟨x18, h19, h⟩ := bo h
  obtain ⟨h20, h⟩|⟨h20, h⟩ := ite_out h
  ·obtain ⟨x21, h22, h⟩ := bo h
   obtain ⟨h23, h⟩|⟨h23, h⟩ := ite_out h
   ·obtain rfl := oi h; exact rf Tryz.func162 (some [0, 1, 2, 3, 4]) [.row (c214 x18), .t, .row (c214 x21), .obj [] (.arr 214 (List.set a9 a15.toNat (⟨bits_or .i64 x18.plain a16.plain, bits_or .i64 x18.led a16.led⟩ : Labels_Label)) n10 false), .obj [] (.w 272 [(⟨(⟨a15⟩ : Labels_task), false⟩ : Labels_queued)]), .obj [] (.w 272 (a11 ++ [(⟨(⟨a15⟩ : Labels_task), false⟩ : Labels_queued)]))] (pc (an n10 (lin_ob h17))<|pc (an n10 (obn214 h19))<|pc h20<|pc (an n10 (lin_ob h17))<|pc (st_ob (e := 214) (n := n10) (l := a9) (i := a15.toNat) (⟨bits_or .i64 x18.plain a16.plain, bits_or .i64 x18.led a16.led⟩ : Labels_Label) [.j (bits_or .i64 x18.plain a16.plain), .j (bits_or .i64 x18.led a16.led)] (obn214 h22) rfl)<|pc (bs_ob 272 [(⟨(⟨a15⟩ : Labels_task), false⟩ : Labels_queued)])<|pc (app_ob 272 (n := n12) (l := a11) (xs := [(⟨(⟨a15⟩ : Labels_task), false⟩ : Labels_queued)]) h23)<|pc (rn (List.length [(⟨(⟨a15⟩ : Labels_task), false⟩ : Labels_queued)]))<|pn)
   ·cases h
  ·obtain rfl := oi h; exact rf Tryz.func162 (some [0, 1, 2, 3, 4]) [.row (c214 x18), .f] (pc (an n10 (lin_ob h17))<|pc (an n10 (obn214 h19))<|pc h20<|pn)
 ·cases h

theorem k_labels_spread_run_own_L2 {a1 : List Api_Device} {a2 : List Api_Port} {a3 : List Api_Link} {a4 : List Api_Domain} {a5 : List Api_Static} {a6 : List Api_Flood} {a7 : List Api_Vrf} {a8 : List Api_Irb} {n10 : Nat} {a12 : List (List Int)} {a13 : List (List Int)} {v17 : Int} {x26 : Labels_queued} {x29 : Labels_Label} {x32 : List Int} : LoopOK Tryz.prog UU 5 85 (subC (codeOf Tryz.f163) [1, 0, 0, 1, 0, 0, 1, 1, 1, 1, 0, 1, 0, 0]) (fun s : (List Labels_Label) × (List Labels_queued) × Nat × Int => match s with | (l34, l35, n36, v37) => labels_spread_run_own_L2 a1 a2 a3 a4 a5 a6 a7 a8 n10 a12 a13 v17 x26 x29 x32 l34 l35 n36 v37)
  (fun s : (List Labels_Label) × (List Labels_queued) × Nat × Int => (match s with | (l34, l35, n36, v37) => [(0, .o 0), (2, .j v17), (3, .j x26.task.domain), (4, .o 5), (55, .sl 3 x32), (56, .j (x32.length : Int)), (57, .j v37)] : Fr DD)) (fun s : (List Labels_Label) × (List Labels_queued) × Nat × Int => (match s with | (l34, l35, n36, v37) => [.box 229 [.sl 56 a1, .sl 110 a2, .sl 174 a3, .sl 90 a4, .sl 178 a5, .sl 113 a6, .sl 88 a7, .sl 105 a8, .os 1 n10, .os 2 n36, .os 3 a12.length, .os 4 a13.length] false, .arr 214 l34 n10 false, .arr 272 l35 n36 false, .w 34 a12, .w 34 a13, .box 214 (c214 x29) false] : Heap DD)) (fun r => match r with | (l58, l59, n60) => .exit 2) (fun r => match r with | (l58, l59, n60) => [(0, .o 0), (2, .j v17), (3, .j x26.task.domain), (4, .o 5)]) (fun r => match r with | (l58, l59, n60) => [.box 229 [.sl 56 a1, .sl 110 a2, .sl 174 a3, .sl 90 a4, .sl 178 a5, .sl 113 a6, .sl 88 a7, .sl 105 a8, .os 1 n10, .os 2 n60, .os 3 a12.length, .os 4 a13.length] false, .arr 214 l58 n10 false, .arr 272 l59 n60 false, .w 34 a12, .w 34 a13, .box 214 (c214 x29) false]) := by
 refine loop_sound3 (fun s q h => ?_) (fun r => ?_)
 ·obtain ⟨l34, l35, n36, v37⟩ := s; replace h : labels_spread_run_own_L2 a1 a2 a3 a4 a5 a6 a7 a8 n10 a12 a13 v17 x26 x29 x32 l34 l35 n36 v37 = some q := h
  unfold labels_spread_run_own_L2 at h
  obtain ⟨h38, h⟩|⟨h38, h⟩ := ite_out h
  ·obtain ⟨x39, h40, h⟩ := bo h
   obtain ⟨r41, h42, h⟩ := bo h
   obtain ⟨l43, l44, n45⟩ := r41
   obtain rfl := oi h; exact rl [0, 2, 3, 4, 55, 56, 57] [0, 1, 2, 3, 4, 5] [.t, .row (c3 x39), .callm [0, 1, 2, 3, 4] (.tup []) [.box 229 [.sl 56 a1, .sl 110 a2, .sl 174 a3, .sl 90 a4, .sl 178 a5, .sl 113 a6, .sl 88 a7, .sl 105 a8, .os 1 n10, .os 2 n45, .os 3 a12.length, .os 4 a13.length] false, .arr 214 l43 n10 false, .arr 272 l44 n45 false, .w 34 a12, .w 34 a13]] (pc h38<|pc (ob3 h40)<|pc (k_labels_spread_grow_ownx h42)<|pn)
  ·obtain rfl := oi h; exact rl [0, 2, 3, 4] [0, 1, 2, 3, 4, 5] [.f] (pc h38<|pn)
 ·exact Ex.noConfusion

theorem k_labels_spread_run_own_L3 {a1 : List Api_Device} {a2 : List Api_Port} {a3 : List Api_Link} {a4 : List Api_Domain} {a5 : List Api_Static} {a6 : List Api_Flood} {a7 : List Api_Vrf} {a8 : List Api_Irb} {n10 : Nat} {a12 : List (List Int)} {a13 : List (List Int)} {v17 : Int} {x29 : Labels_Label} {x64 : List Int} : LoopOK Tryz.prog UU 5 85 (subC (codeOf Tryz.f163) [1, 0, 0, 1, 0, 0, 1, 1, 1, 1, 1, 1, 0, 0]) (fun s : (List Labels_Label) × (List Labels_queued) × Nat × Int => match s with | (l66, l67, n68, v69) => labels_spread_run_own_L3 a1 a2 a3 a4 a5 a6 a7 a8 n10 a12 a13 v17 x29 x64 l66 l67 n68 v69)
  (fun s : (List Labels_Label) × (List Labels_queued) × Nat × Int => (match s with | (l66, l67, n68, v69) => [(0, .o 0), (2, .j v17), (4, .o 5), (72, .sl 3 x64), (73, .j (x64.length : Int)), (74, .j v69)] : Fr DD)) (fun s : (List Labels_Label) × (List Labels_queued) × Nat × Int => (match s with | (l66, l67, n68, v69) => [.box 229 [.sl 56 a1, .sl 110 a2, .sl 174 a3, .sl 90 a4, .sl 178 a5, .sl 113 a6, .sl 88 a7, .sl 105 a8, .os 1 n10, .os 2 n68, .os 3 a12.length, .os 4 a13.length] false, .arr 214 l66 n10 false, .arr 272 l67 n68 false, .w 34 a12, .w 34 a13, .box 214 (c214 x29) false] : Heap DD)) (fun r => match r with | (l84, l85, n86) => .exit 4) (fun r => match r with | (l84, l85, n86) => [(0, .o 0), (2, .j v17)]) (fun r => match r with | (l84, l85, n86) => [.box 229 [.sl 56 a1, .sl 110 a2, .sl 174 a3, .sl 90 a4, .sl 178 a5, .sl 113 a6, .sl 88 a7, .sl 105 a8, .os 1 n10, .os 2 n86, .os 3 a12.length, .os 4 a13.length] false, .arr 214 l84 n10 false, .arr 272 l85 n86 false, .w 34 a12, .w 34 a13]) := by
 refine loop_sound3 (fun s q h => ?_) (fun r => ?_)
 ·obtain ⟨l66, l67, n68, v69⟩ := s; replace h : labels_spread_run_own_L3 a1 a2 a3 a4 a5 a6 a7 a8 n10 a12 a13 v17 x29 x64 l66 l67 n68 v69 = some q := h
  unfold labels_spread_run_own_L3 at h
  obtain ⟨h70, h⟩|⟨h70, h⟩ := ite_out h
  ·obtain ⟨x71, h72, h⟩ := bo h
   obtain ⟨r73, h74, h⟩ := bo h
   obtain ⟨l75, l76, n77⟩ := r73
   obtain rfl := oi h; exact rl [0, 2, 4, 72, 73, 74] [0, 1, 2, 3, 4, 5] [.t, .row (c3 x71), .callm [0, 1, 2, 3, 4] (.tup []) [.box 229 [.sl 56 a1, .sl 110 a2, .sl 174 a3, .sl 90 a4, .sl 178 a5, .sl 113 a6, .sl 88 a7, .sl 105 a8, .os 1 n10, .os 2 n77, .os 3 a12.length, .os 4 a13.length] false, .arr 214 l75 n10 false, .arr 272 l76 n77 false, .w 34 a12, .w 34 a13]] (pc h70<|pc (ob3 h72)<|pc (k_labels_spread_grow_ownx h74)<|pn)
  ·obtain rfl := oi h; exact rl [0, 2] [0, 1, 2, 3, 4] [.f] (pc h70<|pn)
 ·exact Ex.noConfusion

theorem k_labels_spread_run_own_L1 {a1 : List Api_Device} {a2 : List Api_Port} {a3 : List Api_Link} {a4 : List Api_Domain} {a5 : List Api_Static} {a6 : List Api_Flood} {a7 : List Api_Vrf} {a8 : List Api_Irb} {n10 : Nat} {a12 : List (List Int)} {a13 : List (List Int)} : LoopOK Tryz.prog UU 5 85 (subC (codeOf Tryz.f163) [1, 0, 0]) (fun s : (List Labels_Label) × (List Labels_queued) × Nat × Int => match s with | (l14, l15, n16, v17) => labels_spread_run_own_L1 a1 a2 a3 a4 a5 a6 a7 a8 n10 a12 a13 l14 l15 n16 v17)
  (fun s : (List Labels_Label) × (List Labels_queued) × Nat × Int => (match s with | (l14, l15, n16, v17) => [(0, .o 0), (2, .j v17)] : Fr DD)) (fun s : (List Labels_Label) × (List Labels_queued) × Nat × Int => (match s with | (l14, l15, n16, v17) => [.box 229 [.sl 56 a1, .sl 110 a2, .sl 174 a3, .sl 90 a4, .sl 178 a5, .sl 113 a6, .sl 88 a7, .sl 105 a8, .os 1 n10, .os 2 n16, .os 3 a12.length, .os 4 a13.length] false, .arr 214 l14 n10 false, .arr 272 l15 n16 false, .w 34 a12, .w 34 a13] : Heap DD)) (fun r => match r with | (l89, l90, n91) => .exit 0) (fun r => match r with | (l89, l90, n91) => []) (fun r => match r with | (l89, l90, n91) => [.box 229 [.sl 56 a1, .sl 110 a2, .sl 174 a3, .sl 90 a4, .sl 178 a5, .sl 113 a6, .sl 88 a7, .sl 105 a8, .os 1 n10, .os 2 n91, .os 3 a12.length, .os 4 a13.length] false, .arr 214 l89 n10 false, .arr 272 l90 n91 false, .w 34 a12, .w 34 a13]) := by
 refine loop_sound3 (fun s q h => ?_) (fun r => ?_)
 ·obtain ⟨l14, l15, n16, v17⟩ := s; replace h : labels_spread_run_own_L1 a1 a2 a3 a4 a5 a6 a7 a8 n10 a12 a13 l14 l15 n16 v17 = some q := h
  unfold labels_spread_run_own_L1 at h
  obtain ⟨h18, h⟩|⟨h18, h⟩ := ite_out h
  ·obtain ⟨h19, h⟩|⟨h19, h⟩ := ite_out h
   ·obtain ⟨x20, h21, h⟩ := bo h
    obtain ⟨h22, h⟩|⟨h22, h⟩ := ite_out h
    ·obtain rfl := oi h; exact rl [0, 2] [0, 1, 2, 3, 4] [.t, .row (c272 x20), .t] (pc (rn n16)<|pc h18<|pc (an n16 (lin_ob h19))<|pc (rn n16)<|pc (an n16 (obn272 h21))<|pc h22<|pn)
    ·obtain ⟨x23, h24, h⟩ := bo h
     obtain ⟨h25, h⟩|⟨h25, h⟩ := ite_out h
     ·obtain ⟨x26, h27, h⟩ := bo h
      obtain ⟨h28, h⟩|⟨h28, h⟩ := ite_out h
      ·obtain ⟨x29, h30, h⟩ := bo h
       obtain ⟨h31, h⟩|⟨h31, h⟩ := ite_out h
       ·obtain ⟨x32, h33, h⟩ := bo h
        obtain ⟨r62, h61, h⟩ := bo h
        obtain ⟨l58, l59, n60⟩ := r62
        obtain ⟨h63, h⟩|⟨h63, h⟩ := ite_out h
        ·obtain ⟨x64, h65, h⟩ := bo h
         obtain ⟨r88, h87, h⟩ := bo h
         obtain ⟨l84, l85, n86⟩ := r88
         obtain rfl := oi h; exact rl [0, 2] [0, 1, 2, 3, 4] [.t, .row (c272 x20), .f, .row (c272 x23), .obj [] (.arr 272 (List.set l15 v17.toNat (⟨x23.task, true⟩ : Labels_queued)) n16 false), .row (c272 x26), .row (c214 x29), .row (c34 x32), .sum [0, 2, 3, 4, 55, 56, 57] [0, 1, 2, 3, 4, 5] (.exit 2) [(0, .o 0), (2, .j v17), (3, .j x26.task.domain), (4, .o 5)] [.box 229 [.sl 56 a1, .sl 110 a2, .sl 174 a3, .sl 90 a4, .sl 178 a5, .sl 113 a6, .sl 88 a7, .sl 105 a8, .os 1 n10, .os 2 n60, .os 3 a12.length, .os 4 a13.length] false, .arr 214 l58 n10 false, .arr 272 l59 n60 false, .w 34 a12, .w 34 a13, .box 214 (c214 x29) false], .row (c34 x64), .sum [0, 2, 4, 72, 73, 74] [0, 1, 2, 3, 4, 5] (.exit 4) [(0, .o 0), (2, .j v17)] [.box 229 [.sl 56 a1, .sl 110 a2, .sl 174 a3, .sl 90 a4, .sl 178 a5, .sl 113 a6, .sl 88 a7, .sl 105 a8, .os 1 n10, .os 2 n86, .os 3 a12.length, .os 4 a13.length] false, .arr 214 l84 n10 false, .arr 272 l85 n86 false, .w 34 a12, .w 34 a13]] (pc (rn n16)<|pc h18<|pc (an n16 (lin_ob h19))<|pc (rn n16)<|pc (an n16 (obn272 h21))<|pc h22<|pc (an n16 (lin_ob h19))<|pc (rn n16)<|pc (st_ob (e := 272) (n := n16) (l := l15) (i := v17.toNat) (⟨x23.task, true⟩ : Labels_queued) [.j x23.task.domain, .y true] (obn272 h24) rfl)<|pc (an n16 (lin_ob h25))<|pd (rn n16)<|pc (an n16 (obn272 h27))<|pc (an n10 (lin_ob h28))<|pc (an n10 (obn214 h30))<|pc (an a12.length (lin_ob h31))<|pc (an a12.length (obn34 h33))<|pc (k_labels_spread_run_own_L2 _ _ h61)<|pc (an a13.length (lin_ob h63))<|pc (an a13.length (obn34 h65))<|pc (k_labels_spread_run_own_L3 _ _ h87)<|pn)
        ·cases h
       ·cases h
      ·cases h
     ·cases h
   ·cases h
  ·obtain rfl := oi h; exact rl [] [0, 1, 2, 3, 4] [.f] (pc (rn n16)<|pc h18<|pn)
 ·exact Ex.noConfusion

theorem k_labels_spread_run_own {a1 : List Api_Device} {a2 : List Api_Port} {a3 : List Api_Link} {a4 : List Api_Domain} {a5 : List Api_Static} {a6 : List Api_Flood} {a7 : List Api_Vrf} {a8 : List Api_Irb} {a9 : List Labels_Label} {n10 : Nat} {a11 : List Labels_queued} {a12 : List (List Int)} {a13 : List (List Int)} {r : ((List Labels_Label) × (List Labels_queued) × Nat)} (h : labels_spread_run_own a1 a2 a3 a4 a5 a6 a7 a8 a9 n10 a11 a12 a13 = some r) :
  CallsOK Tryz.prog UU 163 [.o 0] [.box 229 [.sl 56 a1, .sl 110 a2, .sl 174 a3, .sl 90 a4, .sl 178 a5, .sl 113 a6, .sl 88 a7, .sl 105 a8, .os 1 n10, .os 2 a11.length, .os 3 a12.length, .os 4 a13.length] false, .arr 214 a9 n10 false, .w 272 a11, .w 34 a12, .w 34 a13] ((fun r => match r with | (l94, l95, n96) => .tup []) r) ((fun r => match r with | (l94, l95, n96) => [.box 229 [.sl 56 a1, .sl 110 a2, .sl 174 a3, .sl 90 a4, .sl 178 a5, .sl 113 a6, .sl 88 a7, .sl 105 a8, .os 1 n10, .os 2 n96, .os 3 a12.length, .os 4 a13.length] false, .arr 214 l94 n10 false, .arr 272 l95 n96 false, .w 34 a12, .w 34 a13]) r) := by
 unfold labels_spread_run_own at h
 obtain ⟨r93, h92, h⟩ := bo h
 obtain ⟨l89, l90, n91⟩ := r93
 obtain rfl := oi h; exact rf Tryz.func163 (some [0, 1, 2, 3, 4]) [.sum [0, 2] [0, 1, 2, 3, 4] (.exit 0) [] [.box 229 [.sl 56 a1, .sl 110 a2, .sl 174 a3, .sl 90 a4, .sl 178 a5, .sl 113 a6, .sl 88 a7, .sl 105 a8, .os 1 n10, .os 2 n91, .os 3 a12.length, .os 4 a13.length] false, .arr 214 l89 n10 false, .arr 272 l90 n91 false, .w 34 a12, .w 34 a13]] (pc (k_labels_spread_run_own_L1 _ _ h92)<|pn)

theorem k_labels_All_L2 {a1 : Api_Net} {a2 : List Int} {l8 : List (List Int)} {l9 : List (List Int)} {v12 : Int} {l16 : List Int} : LoopOK Tryz.prog UU 0 52 (subC (codeOf Tryz.f80) [1, 1, 1, 0, 1, 0, 0, 1, 1, 0, 0, 1, 1, 0, 0]) (fun s : (List Labels_Label) × (List Labels_queued) × Int => match s with | (l17, l18, v19) => labels_All_L2 a1 a2 l8 l9 v12 l16 l17 l18 v19)
  (fun s : (List Labels_Label) × (List Labels_queued) × Int => (match s with | (l17, l18, v19) => [(1, .sl 3 a2), (2, .o 0), (4, .os 1 0), (5, .y false), (6, .o 2), (7, .j v12), (18, .j (a1.domains.length : Int)), (19, .j v12), (24, .os 7 l16.length), (25, .j (l16.length : Int)), (26, .j v19)] : Fr DD)) (fun s : (List Labels_Label) × (List Labels_queued) × Int => (match s with | (l17, l18, v19) => [.box 31 (c31 a1) false, .n 214, .box 229 [.sl 56 a1.devices, .sl 110 a1.ports, .sl 174 a1.links, .sl 90 a1.domains, .sl 178 a1.statics, .sl 113 a1.floods, .sl 88 a1.vrfs, .sl 105 a1.irbs, .os 3 (Int.toNat (a1.domains.length : Int)), .os 4 l18.length, .os 5 l8.length, .os 6 l9.length] false, .arr 214 l17 (Int.toNat (a1.domains.length : Int)) false, .w 272 l18, .w 34 l8, .w 34 l9, .w 3 l16] : Heap DD)) (fun r => match r with | (l48, l49) => .exit 2) (fun r => match r with | (l48, l49) => [(1, .sl 3 a2), (2, .o 0), (4, .os 1 0), (5, .y false), (6, .o 2), (18, .j (a1.domains.length : Int)), (19, .j v12)]) (fun r => match r with | (l48, l49) => [.box 31 (c31 a1) false, .n 214, .box 229 [.sl 56 a1.devices, .sl 110 a1.ports, .sl 174 a1.links, .sl 90 a1.domains, .sl 178 a1.statics, .sl 113 a1.floods, .sl 88 a1.vrfs, .sl 105 a1.irbs, .os 3 (Int.toNat (a1.domains.length : Int)), .os 4 l49.length, .os 5 l8.length, .os 6 l9.length] false, .arr 214 l48 (Int.toNat (a1.domains.length : Int)) false, .w 272 l49, .w 34 l8, .w 34 l9]) := by
 refine loop_sound3 (fun s q h => ?_) (fun r => ?_)
 ·obtain ⟨l17, l18, v19⟩ := s; replace h : labels_All_L2 a1 a2 l8 l9 v12 l16 l17 l18 v19 = some q := h
  unfold labels_All_L2 at h
  obtain ⟨h20, h⟩|⟨h20, h⟩ := ite_out h
  ·obtain ⟨h21, h⟩|⟨h21, h⟩ := ite_out h
   ·obtain ⟨x22, h23, h⟩ := bo h
    obtain ⟨x24, h25, h⟩ := bo h
    obtain ⟨h26, h⟩|⟨h26, h⟩ := ite_out h
    ·obtain ⟨x27, h28, h⟩ := bo h
     obtain ⟨h29, h⟩|⟨h29, h⟩ := ite_out h
     ·obtain ⟨r30, h31, h⟩ := bo h
      obtain ⟨l32, l33⟩ := r30
      obtain rfl := oi h; exact rl [1, 2, 4, 5, 6, 7, 18, 19, 24, 25, 26] [0, 1, 2, 3, 4, 5, 6, 7] [.t, .row (c3 x22), .row (c3 x24), .t, .row (c3 x27), .callm [2, 3, 4, 5, 6] (.tup []) [.box 229 [.sl 56 a1.devices, .sl 110 a1.ports, .sl 174 a1.links, .sl 90 a1.domains, .sl 178 a1.statics, .sl 113 a1.floods, .sl 88 a1.vrfs, .sl 105 a1.irbs, .os 1 (Int.toNat (a1.domains.length : Int)), .os 2 l33.length, .os 3 l8.length, .os 4 l9.length] false, .arr 214 l32 (Int.toNat (a1.domains.length : Int)) false, .w 272 l33, .w 34 l8, .w 34 l9]] (pc h20<|pc (an l16.length (lin_ob h21))<|pc (an l16.length (obn3 h23))<|pc (ob3 h25)<|pc h26<|pc (ob3 h28)<|pc (of_decide_eq_true h29)<|pc (k_labels_spread_grow_own h31)<|pn)
     ·cases h
    ·obtain rfl := oi h; exact rl [1, 2, 4, 5, 6, 7, 18, 19, 24, 25, 26] [0, 1, 2, 3, 4, 5, 6, 7] [.t, .row (c3 x22), .row (c3 x24), .f] (pc h20<|pc (an l16.length (lin_ob h21))<|pc (an l16.length (obn3 h23))<|pc (ob3 h25)<|pc h26<|pn)
   ·cases h
  ·obtain rfl := oi h; exact rl [1, 2, 4, 5, 6, 18, 19] [0, 1, 2, 3, 4, 5, 6] [.f] (pc h20<|pn)
 ·exact Ex.noConfusion

theorem k_labels_All_L1 {a1 : Api_Net} {a2 : List Int} {l8 : List (List Int)} {l9 : List (List Int)} : LoopOK Tryz.prog UU 0 52 (subC (codeOf Tryz.f80) [1, 1, 1, 0, 1, 0, 0]) (fun s : (List Labels_Label) × (List Labels_queued) × Int => match s with | (l10, l11, v12) => labels_All_L1 a1 a2 l8 l9 l10 l11 v12)
  (fun s : (List Labels_Label) × (List Labels_queued) × Int => (match s with | (l10, l11, v12) => [(1, .sl 3 a2), (2, .o 0), (4, .os 1 0), (5, .y false), (6, .o 2), (18, .j (a1.domains.length : Int)), (19, .j v12)] : Fr DD)) (fun s : (List Labels_Label) × (List Labels_queued) × Int => (match s with | (l10, l11, v12) => [.box 31 (c31 a1) false, .n 214, .box 229 [.sl 56 a1.devices, .sl 110 a1.ports, .sl 174 a1.links, .sl 90 a1.domains, .sl 178 a1.statics, .sl 113 a1.floods, .sl 88 a1.vrfs, .sl 105 a1.irbs, .os 3 (Int.toNat (a1.domains.length : Int)), .os 4 l11.length, .os 5 l8.length, .os 6 l9.length] false, .arr 214 l10 (Int.toNat (a1.domains.length : Int)) false, .w 272 l11, .w 34 l8, .w 34 l9] : Heap DD)) (fun r => match r with | (l58, l59) => .exit 0) (fun r => match r with | (l58, l59) => [(4, .os 0 0), (5, .y false), (6, .o 1)]) (fun r => match r with | (l58, l59) => [.n 214, .box 229 [.sl 56 a1.devices, .sl 110 a1.ports, .sl 174 a1.links, .sl 90 a1.domains, .sl 178 a1.statics, .sl 113 a1.floods, .sl 88 a1.vrfs, .sl 105 a1.irbs, .os 2 (Int.toNat (a1.domains.length : Int)), .os 3 l59.length, .os 4 l8.length, .os 5 l9.length] false, .arr 214 l58 (Int.toNat (a1.domains.length : Int)) false, .w 272 l59, .w 34 l8, .w 34 l9]) := by
 refine loop_sound3 (fun s q h => ?_) (fun r => ?_)
 ·obtain ⟨l10, l11, v12⟩ := s; replace h : labels_All_L1 a1 a2 l8 l9 l10 l11 v12 = some q := h
  unfold labels_All_L1 at h
  obtain ⟨h13, h⟩|⟨h13, h⟩ := ite_out h
  ·obtain ⟨l16, h15, h⟩ := bo h
   obtain ⟨r51, h50, h⟩ := bo h
   obtain ⟨l48, l49⟩ := r51
   obtain rfl := oi h; exact rl [1, 2, 4, 5, 6, 18, 19] [0, 1, 2, 3, 4, 5, 6] [.t, .callo (.os 0 l16.length) [.w 3 l16], .sum [1, 2, 4, 5, 6, 7, 18, 19, 24, 25, 26] [0, 1, 2, 3, 4, 5, 6, 7] (.exit 2) [(1, .sl 3 a2), (2, .o 0), (4, .os 1 0), (5, .y false), (6, .o 2), (18, .j (a1.domains.length : Int)), (19, .j v12)] [.box 31 (c31 a1) false, .n 214, .box 229 [.sl 56 a1.devices, .sl 110 a1.ports, .sl 174 a1.links, .sl 90 a1.domains, .sl 178 a1.statics, .sl 113 a1.floods, .sl 88 a1.vrfs, .sl 105 a1.irbs, .os 3 (Int.toNat (a1.domains.length : Int)), .os 4 l49.length, .os 5 l8.length, .os 6 l9.length] false, .arr 214 l48 (Int.toNat (a1.domains.length : Int)) false, .w 272 l49, .w 34 l8, .w 34 l9]] (pc h13<|pc (k_names_Members h15)<|pc (im3 l16)<|pc (rn l16.length)<|pc (k_labels_All_L2 _ _ h50)<|pn)
  ·obtain rfl := oi h; exact rl [4, 5, 6] [1, 2, 3, 4, 5, 6] [.f] (pc h13<|pn)
 ·exact Ex.noConfusion

theorem k_labels_All {a1 : Api_Net} {a2 : List Int} {r : ((List Labels_Label) × Nat × Bool)} (h : labels_All a1 a2 = some r) :
  CallsOK Tryz.prog UU 80 [.agg (c31 a1), .sl 3 a2] [] ((fun r => match r with | (l67, n68, v69) => .tup [.os 0 n68, .y v69]) r) ((fun r => match r with | (l67, n68, v69) => [.arr 214 l67 n68 false]) r) := by
 unfold labels_All at h
 obtain ⟨r3, h4, h⟩ := bo h
 obtain ⟨h5, h⟩|⟨h5, h⟩ := ite_out h
 ·obtain rfl := oi h; exact rf Tryz.func80 (some [2]) [.b r3, .t] (pc (k_owners_Right h4)<|pc h5<|pn)
 ·obtain ⟨r6, h7, h⟩ := bo h
  obtain ⟨l8, l9⟩ := r6
  obtain ⟨r61, h60, h⟩ := bo h
  obtain ⟨l58, l59⟩ := r61
  obtain ⟨r62, h63, h⟩ := bo h
  obtain ⟨l64, l65, n66⟩ := r62
  obtain rfl := oi h; exact rf Tryz.func80 (some [2]) [.b r3, .f, .callm [] (.o 0) [.box 229 [.sl 56 a1.devices, .sl 110 a1.ports, .sl 174 a1.links, .sl 90 a1.domains, .sl 178 a1.statics, .sl 113 a1.floods, .sl 88 a1.vrfs, .sl 105 a1.irbs, .os 1 (Int.toNat (a1.domains.length : Int)), .os 2 0, .os 3 l8.length, .os 4 l9.length] false, .arr 214 (List.replicate (Int.toNat (a1.domains.length : Int)) (⟨0, 0⟩ : Labels_Label)) (Int.toNat (a1.domains.length : Int)) false, .n 272, .w 34 l8, .w 34 l9], .sum [1, 2, 4, 5, 6, 18, 19] [0, 1, 2, 3, 4, 5, 6] (.exit 0) [(4, .os 0 0), (5, .y false), (6, .o 1)] [.n 214, .box 229 [.sl 56 a1.devices, .sl 110 a1.ports, .sl 174 a1.links, .sl 90 a1.domains, .sl 178 a1.statics, .sl 113 a1.floods, .sl 88 a1.vrfs, .sl 105 a1.irbs, .os 2 (Int.toNat (a1.domains.length : Int)), .os 3 l59.length, .os 4 l8.length, .os 5 l9.length] false, .arr 214 l58 (Int.toNat (a1.domains.length : Int)) false, .w 272 l59, .w 34 l8, .w 34 l9], .callm [1, 2, 3, 4, 5] (.tup []) [.box 229 [.sl 56 a1.devices, .sl 110 a1.ports, .sl 174 a1.links, .sl 90 a1.domains, .sl 178 a1.statics, .sl 113 a1.floods, .sl 88 a1.vrfs, .sl 105 a1.irbs, .os 1 (Int.toNat (a1.domains.length : Int)), .os 2 n66, .os 3 l8.length, .os 4 l9.length] false, .arr 214 l64 (Int.toNat (a1.domains.length : Int)) false, .arr 272 l65 n66 false, .w 34 l8, .w 34 l9]] (pc (k_owners_Right h4)<|pc h5<|pc (k_labels_begin h7)<|pc (k_labels_All_L1 _ _ h60)<|pc (k_labels_spread_run_own h63)<|pn)

theorem k_labels_Ports_L2 {a1 : Api_Net} {a2 : List Int} {l5 : List Labels_Label} {n6 : Nat} {v11 : Int} {x14 : Labels_Label} {l18 : List Int} : LoopOK Tryz.prog UU 0 59 (subC (codeOf Tryz.f72) [1, 1, 1, 1, 0, 1, 0, 0, 1, 1, 0, 0, 1, 1, 0, 0]) (fun s : (List Int) × Int => match s with | (l19, v20) => labels_Ports_L2 a1 a2 l5 n6 v11 x14 l18 l19 v20)
  (fun s : (List Int) × Int => (match s with | (l19, v20) => [(1, .sl 3 a2), (2, .o 0), (4, .os 1 0), (5, .y false), (8, .os 2 (Int.toNat (a1.ports.length : Int))), (10, .o 3), (25, .os 4 n6), (26, .j (n6 : Int)), (27, .j v11), (34, .os 5 l18.length), (35, .j (l18.length : Int)), (36, .j v20)] : Fr DD)) (fun s : (List Int) × Int => (match s with | (l19, v20) => [.box 31 (c31 a1) false, .n 3, .arr 3 l19 (Int.toNat (a1.ports.length : Int)) false, .box 214 (c214 x14) false, .arr 214 l5 n6 false, .w 3 l18] : Heap DD)) (fun r => match r with | l41 => .exit 2) (fun r => match r with | l41 => [(1, .sl 3 a2), (2, .o 0), (4, .os 1 0), (5, .y false), (8, .os 2 (Int.toNat (a1.ports.length : Int))), (25, .os 3 n6), (26, .j (n6 : Int)), (27, .j v11)]) (fun r => match r with | l41 => [.box 31 (c31 a1) false, .n 3, .arr 3 l41 (Int.toNat (a1.ports.length : Int)) false, .arr 214 l5 n6 false]) := by
 refine loop_sound3 (fun s q h => ?_) (fun r => ?_)
 ·obtain ⟨l19, v20⟩ := s; replace h : labels_Ports_L2 a1 a2 l5 n6 v11 x14 l18 l19 v20 = some q := h
  unfold labels_Ports_L2 at h
  obtain ⟨h21, h⟩|⟨h21, h⟩ := ite_out h
  ·obtain ⟨h22, h⟩|⟨h22, h⟩ := ite_out h
   ·obtain ⟨x23, h24, h⟩ := bo h
    obtain ⟨x25, h26, h⟩ := bo h
    obtain ⟨h27, h⟩|⟨h27, h⟩ := ite_out h
    ·obtain ⟨h28, h⟩|⟨h28, h⟩ := ite_out h
     ·obtain ⟨x29, h30, h⟩ := bo h
      obtain ⟨x31, h32, h⟩ := bo h
      obtain rfl := oi h; exact rl [1, 2, 4, 5, 8, 10, 25, 26, 27, 34, 35, 36] [0, 1, 2, 3, 4, 5] [.t, .row (c3 x23), .row (c3 x25), .t, .row (c3 x29), .row (c3 x31), .obj [] (.arr 3 (List.set l19 x23.toNat (bits_or .i64 x29 (bits_or .i64 x14.plain x14.led) : Int)) (Int.toNat (a1.ports.length : Int)) false)] (pc h21<|pc (an l18.length (lin_ob h22))<|pc (an l18.length (obn3 h24))<|pc (ob3 h26)<|pc h27<|pc (an (Int.toNat (a1.ports.length : Int)) (lin_ob h28))<|pc (an (Int.toNat (a1.ports.length : Int)) (obn3 h30))<|pc (an (Int.toNat (a1.ports.length : Int)) (lin_ob h28))<|pc (st_ob (e := 3) (n := (Int.toNat (a1.ports.length : Int))) (l := l19) (i := x23.toNat) (bits_or .i64 x29 (bits_or .i64 x14.plain x14.led) : Int) [.j (bits_or .i64 x29 (bits_or .i64 x14.plain x14.led))] (obn3 h32) rfl)<|pn)
     ·cases h
    ·obtain rfl := oi h; exact rl [1, 2, 4, 5, 8, 10, 25, 26, 27, 34, 35, 36] [0, 1, 2, 3, 4, 5] [.t, .row (c3 x23), .row (c3 x25), .f] (pc h21<|pc (an l18.length (lin_ob h22))<|pc (an l18.length (obn3 h24))<|pc (ob3 h26)<|pc h27<|pn)
   ·cases h
  ·obtain rfl := oi h; exact rl [1, 2, 4, 5, 8, 25, 26, 27] [0, 1, 2, 4] [.f] (pc h21<|pn)
 ·exact Ex.noConfusion

theorem k_labels_Ports_L1 {a1 : Api_Net} {a2 : List Int} {l5 : List Labels_Label} {n6 : Nat} : LoopOK Tryz.prog UU 0 59 (subC (codeOf Tryz.f72) [1, 1, 1, 1, 0, 1, 0, 0]) (fun s : (List Int) × Int => match s with | (l10, v11) => labels_Ports_L1 a1 a2 l5 n6 l10 v11)
  (fun s : (List Int) × Int => (match s with | (l10, v11) => [(1, .sl 3 a2), (2, .o 0), (4, .os 1 0), (5, .y false), (8, .os 2 (Int.toNat (a1.ports.length : Int))), (25, .os 3 n6), (26, .j (n6 : Int)), (27, .j v11)] : Fr DD)) (fun s : (List Int) × Int => (match s with | (l10, v11) => [.box 31 (c31 a1) false, .n 3, .arr 3 l10 (Int.toNat (a1.ports.length : Int)) false, .arr 214 l5 n6 false] : Heap DD)) (fun r => match r with | l47 => .exit 0) (fun r => match r with | l47 => [(4, .os 0 0), (5, .y false), (8, .os 1 (Int.toNat (a1.ports.length : Int)))]) (fun r => match r with | l47 => [.n 3, .arr 3 l47 (Int.toNat (a1.ports.length : Int)) false]) := by
 refine loop_sound3 (fun s q h => ?_) (fun r => ?_)
 ·obtain ⟨l10, v11⟩ := s; replace h : labels_Ports_L1 a1 a2 l5 n6 l10 v11 = some q := h
  unfold labels_Ports_L1 at h
  obtain ⟨h12, h⟩|⟨h12, h⟩ := ite_out h
  ·obtain ⟨h13, h⟩|⟨h13, h⟩ := ite_out h
   ·obtain ⟨x14, h15, h⟩ := bo h
    obtain ⟨l18, h17, h⟩ := bo h
    obtain ⟨l41, h42, h⟩ := bo h
    obtain rfl := oi h; exact rl [1, 2, 4, 5, 8, 25, 26, 27] [0, 1, 2, 3] [.t, .row (c214 x14), .callo (.os 0 l18.length) [.w 3 l18], .sum [1, 2, 4, 5, 8, 10, 25, 26, 27, 34, 35, 36] [0, 1, 2, 4, 3, 5] (.exit 2) [(1, .sl 3 a2), (2, .o 0), (4, .os 1 0), (5, .y false), (8, .os 2 (Int.toNat (a1.ports.length : Int))), (25, .os 3 n6), (26, .j (n6 : Int)), (27, .j v11)] [.box 31 (c31 a1) false, .n 3, .arr 3 l41 (Int.toNat (a1.ports.length : Int)) false, .arr 214 l5 n6 false]] (pc h12<|pc (an n6 (lin_ob h13))<|pc (an n6 (obn214 h15))<|pc (k_names_Members h17)<|pc (im3 l18)<|pc (rn l18.length)<|pc (k_labels_Ports_L2 _ _ h42)<|pn)
   ·cases h
  ·obtain rfl := oi h; exact rl [4, 5, 8] [1, 2] [.f] (pc h12<|pn)
 ·exact Ex.noConfusion

theorem k_labels_Ports {a1 : Api_Net} {a2 : List Int} {r : ((List Int) × Nat × Bool)} (h : labels_Ports a1 a2 = some r) :
  CallsOK Tryz.prog UU 72 [.agg (c31 a1), .sl 3 a2] [] ((fun r => match r with | (l50, n51, v52) => .tup [.os 0 n51, .y v52]) r) ((fun r => match r with | (l50, n51, v52) => [.arr 3 l50 n51 false]) r) := by
 unfold labels_Ports at h
 obtain ⟨r3, h4, h⟩ := bo h
 obtain ⟨l5, n6, v7⟩ := r3
 obtain ⟨h8, h⟩|⟨h8, h⟩ := ite_out h
 ·obtain rfl := oi h; exact rf Tryz.func72 (some [3]) [.callo (.tup [.os 0 n6, .y v7]) [.arr 214 l5 n6 false], .t] (pc (k_labels_All h4)<|pc (im214 l5)<|pc h8<|pn)
 ·obtain ⟨h9, h⟩|⟨h9, h⟩ := ite_out h
  ·obtain ⟨l47, h48, h⟩ := bo h
   obtain rfl := oi h; exact rf Tryz.func72 (some [1]) [.callo (.tup [.os 0 n6, .y v7]) [.arr 214 l5 n6 false], .f, .obj [] (.arr 3 (List.replicate (Int.toNat (a1.ports.length : Int)) (0 : Int)) (Int.toNat (a1.ports.length : Int)) false), .sum [1, 2, 4, 5, 8, 25, 26, 27] [0, 1, 3, 2] (.exit 0) [(4, .os 0 0), (5, .y false), (8, .os 1 (Int.toNat (a1.ports.length : Int)))] [.n 3, .arr 3 l47 (Int.toNat (a1.ports.length : Int)) false]] (pc (k_labels_All h4)<|pc (im214 l5)<|pc h8<|pc (mk_ob 3 (0 : Int) h9)<|pc (rn (Int.toNat (a1.ports.length : Int)))<|pc (rn n6)<|pc (k_labels_Ports_L1 _ _ h48)<|pn)
  ·cases h

theorem k_matrix_none {r : Matrix_Cell} (h : matrix_none = some r) :
  CallsOK Tryz.prog UU 74 [] [] (.agg (c79 r)) [] := by
 unfold matrix_none at h
 obtain rfl := oi h; exact rf Tryz.func74 none [] (pn)

theorem k_math_bits_Mul64 {a1 : Int} {a2 : Int} {r : Int × Int} (h : math_bits_Mul64 a1 a2 = some r) :
  CallsOK Tryz.prog UU 204 [.v (.int .u64 a1), .v (.int .u64 a2)] [] (.tup [.v (.int .u64 r.1), .v (.int .u64 r.2)]) [] := by
 unfold math_bits_Mul64 at h
 obtain rfl := oi h; exact rf Tryz.func204 none [] (pd (show (0 : Int) ≤ 32 from by decide)<|pd (show (0 : Int) ≤ 32 from by decide)<|pc (show (0 : Int) ≤ 32 from by decide)<|pn)

theorem k_math_bits_Mul {a1 : Int} {a2 : Int} {r : Int × Int} (h : math_bits_Mul a1 a2 = some r) :
  CallsOK Tryz.prog UU 155 [.v (.int .u64 a1), .v (.int .u64 a2)] [] (.tup [.v (.int .u64 r.1), .v (.int .u64 r.2)]) [] := by
 unfold math_bits_Mul at h
 obtain ⟨r3, h4, h⟩ := bo h
 obtain rfl := oi h; exact rf Tryz.func155 none [.callv (.tup [.v (.int .u64 r3.1), .v (.int .u64 r3.2)])] (pc (k_math_bits_Mul64 h4)<|pn)

end Go.Eng
