/- Part of the proof of OverlayMeshes: printed mirrors of the functions, or their contracts. No conditions. -/
import Derived.Test.YtcclngfmkodgjaaGreatMAK5
set_option linter.unusedVariables false
set_option maxRecDepth 100000
namespace Go.Eng
open Go Go.Proofs
theorem k_palingref19_Owner_L1 {a1 : Api_Net} {a2 : Int} : LoopOK Tryz.prog UU 0 22 (subC (codeOf Tryz.f66) [1, 0, 1, 0, 0]) (ρ := Int ⊕ Unit) (palingref19_Owner_L1 a1 a2)
  (fun v3 : Int => ([(1, .v (.int .u32 a2)), (2, .o 0), (4, .z), (5, .j v3)] : Fr DD)) (fun v3 : Int => ([.box 31 (c31 a1) false] : Heap DD)) (fun r => match r with | Sum.inl v9 => .ret | Sum.inr _ => .exit 0) (fun r => match r with | Sum.inl v9 => [(4, .j v9)] | Sum.inr _ => [(4, .z)]) (fun r => match r with | Sum.inl v9 => [] | Sum.inr _ => []) := by
 refine loop_sound3 (fun s q h => ?_) (fun r => ?_)
 ·replace h : palingref19_Owner_L1 a1 a2 s = some q := h; revert h; revert s; intro v3 h
  unfold palingref19_Owner_L1 at h
  obtain ⟨h4, h⟩|⟨h4, h⟩ := ite_out h
  ·obtain ⟨x5, h6, h⟩ := bo h
   obtain ⟨h7, h⟩|⟨h7, h⟩ := ite_out h
   ·obtain rfl := oi h; exact rl [4] [] [.t, .row (c56 x5), .t] (pc h4<|pc (ob56 h6)<|pc h7<|pn)
   ·obtain rfl := oi h; exact rl [1, 2, 4, 5] [0] [.t, .row (c56 x5), .f] (pc h4<|pc (ob56 h6)<|pc h7<|pn)
  ·obtain rfl := oi h; exact rl [4] [] [.f] (pc h4<|pn)
 ·rcases r with _ | _ <;> exact Ex.noConfusion

theorem k_palingref19_Owner {a1 : Api_Net} {a2 : Int} {r : Int} (h : palingref19_Owner a1 a2 = some r) :
  CallsOK Tryz.prog UU 66 [.agg (c31 a1), .v (.int .u32 a2)] [] (.j r) [] := by
 unfold palingref19_Owner at h
 obtain ⟨r11, h10, h⟩ := bo h
 rcases r11 with v9 | _
 ·obtain rfl := oi h; exact rf Tryz.func66 none [.sum [1, 2, 4, 5] [0] .ret [(4, .j v9)] []] (pc (k_palingref19_Owner_L1 _ _ h10)<|pn)
 ·obtain rfl := oi h; exact rf Tryz.func66 none [.sum [1, 2, 4, 5] [0] (.exit 0) [(4, .z)] []] (pc (k_palingref19_Owner_L1 _ _ h10)<|pn)

theorem k_palingref19_list_L1 {a1 : Api_Net} {a2 : Int} {a3 : Int} : LoopOK Tryz.prog UU 0 34 (subC (codeOf Tryz.f65) [1, 0, 1, 0, 0]) (ρ := Int ⊕ Unit) (palingref19_list_L1 a1 a2 a3)
  (fun v4 : Int => ([(1, .j a2), (2, .j a3), (3, .o 0), (6, .z), (7, .j v4)] : Fr DD)) (fun v4 : Int => ([.box 31 (c31 a1) false] : Heap DD)) (fun r => match r with | Sum.inl v13 => .ret | Sum.inr _ => .exit 0) (fun r => match r with | Sum.inl v13 => [(6, .j v13)] | Sum.inr _ => [(6, .z)]) (fun r => match r with | Sum.inl v13 => [] | Sum.inr _ => []) := by
 refine loop_sound3 (fun s q h => ?_) (fun r => ?_)
 ·replace h : palingref19_list_L1 a1 a2 a3 s = some q := h; revert h; revert s; intro v4 h
  unfold palingref19_list_L1 at h
  obtain ⟨h5, h⟩|⟨h5, h⟩ := ite_out h
  ·obtain ⟨x6, h7, h⟩ := bo h
   obtain ⟨h8, h⟩|⟨h8, h⟩ := ite_out h
   ·obtain ⟨x9, h10, h⟩ := bo h
    obtain ⟨h11, h⟩|⟨h11, h⟩ := ite_out h
    ·obtain rfl := oi h; exact rl [6] [] [.t, .row (c113 x6), .t, .row (c113 x9), .t] (pc h5<|pc (ob113 h7)<|pc h8<|pc (ob113 h10)<|pc h11<|pn)
    ·obtain rfl := oi h; exact rl [1, 2, 3, 6, 7] [0] [.t, .row (c113 x6), .t, .row (c113 x9), .f] (pc h5<|pc (ob113 h7)<|pc h8<|pc (ob113 h10)<|pc h11<|pn)
   ·obtain rfl := oi h; exact rl [1, 2, 3, 6, 7] [0] [.t, .row (c113 x6), .f] (pc h5<|pc (ob113 h7)<|pc h8<|pn)
  ·obtain rfl := oi h; exact rl [6] [] [.f] (pc h5<|pn)
 ·rcases r with _ | _ <;> exact Ex.noConfusion

theorem k_palingref19_list {a1 : Api_Net} {a2 : Int} {a3 : Int} {r : Int} (h : palingref19_list a1 a2 a3 = some r) :
  CallsOK Tryz.prog UU 65 [.agg (c31 a1), .j a2, .j a3] [] (.j r) [] := by
 unfold palingref19_list at h
 obtain ⟨r15, h14, h⟩ := bo h
 rcases r15 with v13 | _
 ·obtain rfl := oi h; exact rf Tryz.func65 none [.sum [1, 2, 3, 6, 7] [0] .ret [(6, .j v13)] []] (pc (k_palingref19_list_L1 _ _ h14)<|pn)
 ·obtain rfl := oi h; exact rf Tryz.func65 none [.sum [1, 2, 3, 6, 7] [0] (.exit 0) [(6, .z)] []] (pc (k_palingref19_list_L1 _ _ h14)<|pn)

theorem k_palingref19_has_L1 {a1 : List Int} {a2 : Int} : LoopOK Tryz.prog UU 0 18 (subC (codeOf Tryz.f148) [1, 0, 1, 0, 0]) (ρ := Unit ⊕ Unit) (palingref19_has_L1 a1 a2)
  (fun v3 : Int => ([(0, .sl 33 a1), (1, .v (.int .u32 a2)), (4, .y false), (5, .j v3)] : Fr DD)) (fun v3 : Int => ([] : Heap DD)) (fun r => match r with | Sum.inl _ => .ret | Sum.inr _ => .exit 0) (fun r => match r with | Sum.inl _ => [(4, .y true)] | Sum.inr _ => [(4, .y false)]) (fun r => match r with | Sum.inl _ => [] | Sum.inr _ => []) := by
 refine loop_sound3 (fun s q h => ?_) (fun r => ?_)
 ·replace h : palingref19_has_L1 a1 a2 s = some q := h; revert h; revert s; intro v3 h
  unfold palingref19_has_L1 at h
  obtain ⟨h4, h⟩|⟨h4, h⟩ := ite_out h
  ·obtain ⟨x5, h6, h⟩ := bo h
   obtain ⟨h7, h⟩|⟨h7, h⟩ := ite_out h
   ·obtain rfl := oi h; exact rl [4] [] [.t, .row (c33 x5), .t] (pc h4<|pc (ob33 h6)<|pc h7<|pn)
   ·obtain rfl := oi h; exact rl [0, 1, 4, 5] [] [.t, .row (c33 x5), .f] (pc h4<|pc (ob33 h6)<|pc h7<|pn)
  ·obtain rfl := oi h; exact rl [4] [] [.f] (pc h4<|pn)
 ·rcases r with _ | _ <;> exact Ex.noConfusion

theorem k_palingref19_has {a1 : List Int} {a2 : Int} {r : Bool} (h : palingref19_has a1 a2 = some r) :
  CallsOK Tryz.prog UU 148 [.sl 33 a1, .v (.int .u32 a2)] [] (.y r) [] := by
 unfold palingref19_has at h
 obtain ⟨r9, h8, h⟩ := bo h
 rcases r9 with _ | _
 ·obtain rfl := oi h; exact rf Tryz.func148 none [.sum [0, 1, 4, 5] [] .ret [(4, .y true)] []] (pc (k_palingref19_has_L1 _ _ h8)<|pn)
 ·obtain rfl := oi h; exact rf Tryz.func148 none [.sum [0, 1, 4, 5] [] (.exit 0) [(4, .y false)] []] (pc (k_palingref19_has_L1 _ _ h8)<|pn)

theorem k_palingref19_agrees_L2 {a1 : Api_Net} {a2 : Api_Flood} {v6 : Int} {x24 : Api_Flood} : LoopOK Tryz.prog UU 0 104 (subC (codeOf Tryz.f64) [1, 1, 0, 1, 0, 0, 1, 0, 0, 1, 1, 1, 1, 1, 0, 0]) (ρ := Unit ⊕ Unit) (palingref19_agrees_L2 a1 a2 v6 x24)
  (fun v31 : Int => ([(2, .o 0), (3, .o 1), (4, .y false), (5, .j v6), (7, .sl 33 x24.addrs), (8, .j v31)] : Fr DD)) (fun v31 : Int => ([.box 31 (c31 a1) false, .box 113 (c113 a2) false] : Heap DD)) (fun r => match r with | Sum.inl _ => .ret | Sum.inr _ => .exit 2) (fun r => match r with | Sum.inl _ => [(4, .y false)] | Sum.inr _ => [(2, .o 0), (3, .o 1), (4, .y false), (5, .j v6)]) (fun r => match r with | Sum.inl _ => [] | Sum.inr _ => [.box 31 (c31 a1) false, .box 113 (c113 a2) false]) := by
 refine loop_sound3 (fun s q h => ?_) (fun r => ?_)
 ·replace h : palingref19_agrees_L2 a1 a2 v6 x24 s = some q := h; revert h; revert s; intro v31 h
  unfold palingref19_agrees_L2 at h
  obtain ⟨h32, h⟩|⟨h32, h⟩ := ite_out h
  ·obtain ⟨x33, h34, h⟩ := bo h
   obtain ⟨x35, h36, h⟩ := bo h
   obtain ⟨h37, h⟩|⟨h37, h⟩ := ite_out h
   ·obtain ⟨x38, h39, h⟩ := bo h
    obtain ⟨r40, h41, h⟩ := bo h
    obtain ⟨h42, h⟩|⟨h42, h⟩ := ite_out h
    ·obtain rfl := oi h; exact rl [4] [] [.t, .row (c33 x33), .row (c33 x35), .t, .row (c33 x38), .b r40, .t] (pc h32<|pc (ob33 h34)<|pc (ob33 h36)<|pc h37<|pc (ob33 h39)<|pc (k_palingref19_has h41)<|pc h42<|pn)
    ·obtain rfl := oi h; exact rl [2, 3, 4, 5, 7, 8] [0, 1] [.t, .row (c33 x33), .row (c33 x35), .t, .row (c33 x38), .b r40, .f] (pc h32<|pc (ob33 h34)<|pc (ob33 h36)<|pc h37<|pc (ob33 h39)<|pc (k_palingref19_has h41)<|pc h42<|pn)
   ·obtain rfl := oi h; exact rl [2, 3, 4, 5, 7, 8] [0, 1] [.t, .row (c33 x33), .row (c33 x35), .f] (pc h32<|pc (ob33 h34)<|pc (ob33 h36)<|pc h37<|pn)
  ·obtain rfl := oi h; exact rl [2, 3, 4, 5] [0, 1] [.f] (pc h32<|pn)
 ·rcases r with _ | _ <;> exact Ex.noConfusion

theorem k_palingref19_agrees_L1 {a1 : Api_Net} {a2 : Api_Flood} : LoopOK Tryz.prog UU 0 104 (subC (codeOf Tryz.f64) [1, 1, 0, 1, 0, 0]) (ρ := Unit ⊕ Unit) (palingref19_agrees_L1 a1 a2)
  (fun v6 : Int => ([(2, .o 0), (3, .o 1), (4, .y false), (5, .j v6)] : Fr DD)) (fun v6 : Int => ([.box 31 (c31 a1) false, .box 113 (c113 a2) false] : Heap DD)) (fun r => match r with | Sum.inl _ => .ret | Sum.inr _ => .exit 0) (fun r => match r with | Sum.inl _ => [(4, .y false)] | Sum.inr _ => [(4, .y false)]) (fun r => match r with | Sum.inl _ => [] | Sum.inr _ => []) := by
 refine loop_sound3 (fun s q h => ?_) (fun r => ?_)
 ·replace h : palingref19_agrees_L1 a1 a2 s = some q := h; revert h; revert s; intro v6 h
  unfold palingref19_agrees_L1 at h
  obtain ⟨h7, h⟩|⟨h7, h⟩ := ite_out h
  ·obtain ⟨x8, h9, h⟩ := bo h
   obtain ⟨r10, h11, h⟩ := bo h
   obtain ⟨x12, h13, h⟩ := bo h
   obtain ⟨h14, h⟩|⟨h14, h⟩ := ite_out h
   ·obtain rfl := oi h; exact rl [4] [] [.t, .row (c33 x8), .callv (.j r10), .row (c33 x12), .t] (pc h7<|pc (ob33 h9)<|pc (k_palingref19_Owner h11)<|pc (ob33 h13)<|pc h14<|pn)
   ·obtain ⟨h15, h⟩|⟨h15, h⟩ := ite_out h
    ·obtain rfl := oi h; exact rl [4] [] [.t, .row (c33 x8), .callv (.j r10), .row (c33 x12), .f, .t] (pc h7<|pc (ob33 h9)<|pc (k_palingref19_Owner h11)<|pc (ob33 h13)<|pc h14<|pc h15<|pn)
    ·obtain ⟨r16, h17, h⟩ := bo h
     obtain ⟨h18, h⟩|⟨h18, h⟩ := ite_out h
     ·obtain rfl := oi h; exact rl [4] [] [.t, .row (c33 x8), .callv (.j r10), .row (c33 x12), .f, .f, .callv (.j r16), .t] (pc h7<|pc (ob33 h9)<|pc (k_palingref19_Owner h11)<|pc (ob33 h13)<|pc h14<|pc h15<|pc (k_palingref19_Find h17)<|pc h18<|pn)
     ·obtain ⟨r19, h20, h⟩ := bo h
      obtain ⟨h21, h⟩|⟨h21, h⟩ := ite_out h
      ·obtain rfl := oi h; exact rl [4] [] [.t, .row (c33 x8), .callv (.j r10), .row (c33 x12), .f, .f, .callv (.j r16), .f, .callv (.j r19), .t] (pc h7<|pc (ob33 h9)<|pc (k_palingref19_Owner h11)<|pc (ob33 h13)<|pc h14<|pc h15<|pc (k_palingref19_Find h17)<|pc h18<|pc (k_palingref19_list h20)<|pc h21<|pn)
      ·obtain ⟨r22, h23, h⟩ := bo h
       obtain ⟨x24, h25, h⟩ := bo h
       obtain ⟨x26, h27, h⟩ := bo h
       obtain ⟨r28, h29, h⟩ := bo h
       obtain ⟨h30, h⟩|⟨h30, h⟩ := ite_out h
       ·obtain rfl := oi h; exact rl [4] [] [.t, .row (c33 x8), .callv (.j r10), .row (c33 x12), .f, .f, .callv (.j r16), .f, .callv (.j r19), .f, .callv (.j r22), .row (c113 x24), .row (c56 x26), .b r28, .t] (pc h7<|pc (ob33 h9)<|pc (k_palingref19_Owner h11)<|pc (ob33 h13)<|pc h14<|pc h15<|pc (k_palingref19_Find h17)<|pc h18<|pc (k_palingref19_list h20)<|pc h21<|pc (k_palingref19_list h23)<|pc (ob113 h25)<|pc (ob56 h27)<|pc (k_palingref19_has h29)<|pc h30<|pn)
       ·obtain ⟨r44, h43, h⟩ := bo h
        rcases r44 with _ | _
        ·obtain rfl := oi h; exact rl [4] [] [.t, .row (c33 x8), .callv (.j r10), .row (c33 x12), .f, .f, .callv (.j r16), .f, .callv (.j r19), .f, .callv (.j r22), .row (c113 x24), .row (c56 x26), .b r28, .f, .sum [2, 3, 4, 5, 7, 8] [0, 1] .ret [(4, .y false)] []] (pc h7<|pc (ob33 h9)<|pc (k_palingref19_Owner h11)<|pc (ob33 h13)<|pc h14<|pc h15<|pc (k_palingref19_Find h17)<|pc h18<|pc (k_palingref19_list h20)<|pc h21<|pc (k_palingref19_list h23)<|pc (ob113 h25)<|pc (ob56 h27)<|pc (k_palingref19_has h29)<|pc h30<|pc (k_palingref19_agrees_L2 _ _ h43)<|pn)
        ·obtain rfl := oi h; exact rl [2, 3, 4, 5] [0, 1] [.t, .row (c33 x8), .callv (.j r10), .row (c33 x12), .f, .f, .callv (.j r16), .f, .callv (.j r19), .f, .callv (.j r22), .row (c113 x24), .row (c56 x26), .b r28, .f, .sum [2, 3, 4, 5, 7, 8] [0, 1] (.exit 2) [(2, .o 0), (3, .o 1), (4, .y false), (5, .j v6)] [.box 31 (c31 a1) false, .box 113 (c113 a2) false]] (pc h7<|pc (ob33 h9)<|pc (k_palingref19_Owner h11)<|pc (ob33 h13)<|pc h14<|pc h15<|pc (k_palingref19_Find h17)<|pc h18<|pc (k_palingref19_list h20)<|pc h21<|pc (k_palingref19_list h23)<|pc (ob113 h25)<|pc (ob56 h27)<|pc (k_palingref19_has h29)<|pc h30<|pc (k_palingref19_agrees_L2 _ _ h43)<|pn)
  ·obtain rfl := oi h; exact rl [4] [] [.f] (pc h7<|pn)
 ·rcases r with _ | _ <;> exact Ex.noConfusion

theorem k_palingref19_agrees {a1 : Api_Net} {a2 : Api_Flood} {r : Bool} (h : palingref19_agrees a1 a2 = some r) :
  CallsOK Tryz.prog UU 64 [.agg (c31 a1), .agg (c113 a2)] [] (.y r) [] := by
 unfold palingref19_agrees at h
 obtain ⟨r3, h4, h⟩ := bo h
 obtain ⟨h5, h⟩|⟨h5, h⟩ := ite_out h
 ·obtain rfl := oi h; exact rf Tryz.func64 none [.callv (.j r3), .t] (pc (k_palingref19_Find h4)<|pc h5<|pn)
 ·obtain ⟨r46, h45, h⟩ := bo h
  rcases r46 with _ | _
  ·obtain rfl := oi h; exact rf Tryz.func64 none [.callv (.j r3), .f, .sum [2, 3, 4, 5] [0, 1] .ret [(4, .y false)] []] (pc (k_palingref19_Find h4)<|pc h5<|pc (k_palingref19_agrees_L1 _ _ h45)<|pn)
  ·obtain rfl := oi h; exact rf Tryz.func64 none [.callv (.j r3), .f, .sum [2, 3, 4, 5] [0, 1] (.exit 0) [(4, .y false)] []] (pc (k_palingref19_Find h4)<|pc h5<|pc (k_palingref19_agrees_L1 _ _ h45)<|pn)

def b0_k_palingref15_Copy_L1 (a1 : Api_Net) : AObj DD := .box 31 [.os 10 a1.devices.length, .os 11 a1.ports.length, .os 12 a1.links.length, .os 13 a1.domains.length, .os 14 a1.statics.length, .os 15 a1.floods.length, .os 16 a1.vrfs.length, .os 17 a1.irbs.length] false
def b1_k_palingref15_Copy_L1 : AObj DD := .box 31 [.os 1 0, .os 2 0, .os 3 0, .os 4 0, .os 5 0, .os 6 0, .os 7 0, .os 8 0] false
theorem k_palingref15_Copy_L1 {a1 : Api_Net} : LoopOK Tryz.prog UU 0 142 (subC (codeOf Tryz.f48) [1, 1, 1, 1, 1, 1, 1, 1, 1, 1, 0, 1, 0, 0]) (fun s : (List Api_Port) × Int => match s with | (l10, v11) => palingref15_Copy_L1 a1 l10 v11)
  (fun s : (List Api_Port) × Int => (match s with | (l10, v11) => [(2, .o 0), (3, .o 9), (4, .j v11)] : Fr DD)) (fun s : (List Api_Port) × Int => (match s with | (l10, v11) => [b1_k_palingref15_Copy_L1, .n 56, .n 110, .n 174, .n 90, .n 178, .n 113, .n 88, .n 105, (b0_k_palingref15_Copy_L1 a1), .w 56 a1.devices, .arr 110 l10 a1.ports.length false, .w 174 a1.links, .w 90 a1.domains, .w 178 a1.statics, .w 113 a1.floods, .w 88 a1.vrfs, .w 105 a1.irbs] : Heap DD)) (fun r => match r with | l21 => .exit 0) (fun r => match r with | l21 => [(2, .o 0), (3, .o 9)]) (fun r => match r with | l21 => [b1_k_palingref15_Copy_L1, .n 56, .n 110, .n 174, .n 90, .n 178, .n 113, .n 88, .n 105, (b0_k_palingref15_Copy_L1 a1), .w 56 a1.devices, .arr 110 l21 a1.ports.length false, .w 174 a1.links, .w 90 a1.domains, .w 178 a1.statics, .w 113 a1.floods, .w 88 a1.vrfs, .w 105 a1.irbs]) := by
 refine loop_sound3 (fun s q h => ?_) (fun r => ?_)
 ·obtain ⟨l10, v11⟩ := s; replace h : palingref15_Copy_L1 a1 l10 v11 = some q := h
  unfold palingref15_Copy_L1 at h
  obtain ⟨h12, h⟩|⟨h12, h⟩ := ite_out h
  ·obtain ⟨h13, h⟩|⟨h13, h⟩ := ite_out h
   ·obtain ⟨x14, h15, h⟩ := bo h
    obtain ⟨h16, h⟩|⟨h16, h⟩ := ite_out h
    ·obtain ⟨x17, h18, h⟩ := bo h
     obtain rfl := oi h; exact rl [2, 3, 4] [0, 1, 2, 3, 4, 5, 6, 7, 8, 9, 10, 11, 12, 13, 14, 15, 16, 17] [.t, .sum [3] [] .nor [] [b1_k_palingref15_Copy_L1, .n 56, .n 110, .n 174, .n 90, .n 178, .n 113, .n 88, .n 105, (b0_k_palingref15_Copy_L1 a1), .w 56 a1.devices, .arr 110 l10 a1.ports.length false, .w 174 a1.links, .w 90 a1.domains, .w 178 a1.statics, .w 113 a1.floods, .w 88 a1.vrfs, .w 105 a1.irbs, .n 3], .sum [10] [] .nor [] [b1_k_palingref15_Copy_L1, .n 56, .n 110, .n 174, .n 90, .n 178, .n 113, .n 88, .n 105, (b0_k_palingref15_Copy_L1 a1), .w 56 a1.devices, .arr 110 l10 a1.ports.length false, .w 174 a1.links, .w 90 a1.domains, .w 178 a1.statics, .w 113 a1.floods, .w 88 a1.vrfs, .w 105 a1.irbs, .w 3 x14.tagged], .obj [] (.n 3), .row (c110 x14), .obj [] (.w 3 (x14.tagged)), .row (c110 x17), .obj [18] (.arr 110 (List.set l10 v11.toNat (⟨x17.row, x17.dev, x17.native, x17.cost, x17.link, x17.name, x14.tagged⟩ : Api_Port)) a1.ports.length false)] (pc (rn a1.ports.length)<|pc h12<|pd (rr (.op 9 1 0 1))<|pd (rr (.os 11 a1.ports.length))<|pd (rr (.j v11))<|pc (rh [b1_k_palingref15_Copy_L1, .n 56, .n 110, .n 174, .n 90, .n 178, .n 113, .n 88, .n 105, (b0_k_palingref15_Copy_L1 a1), .w 56 a1.devices, .arr 110 l10 a1.ports.length false, .w 174 a1.links, .w 90 a1.domains, .w 178 a1.statics, .w 113 a1.floods, .w 88 a1.vrfs, .w 105 a1.irbs, .n 3])<|pc (bs_ob 3 [])<|pc (rr (.op 9 1 0 1))<|pc (rr (.os 11 a1.ports.length))<|pc (rr (.j v11))<|pd (an a1.ports.length (lin_ob h13))<|pc (rr (.op 11 a1.ports.length v11.toNat 0))<|pd (rn a1.ports.length)<|pc (rr (.op 11 a1.ports.length v11.toNat 6))<|pd (an a1.ports.length (obn110 h15))<|pc (rr (.sl 3 x14.tagged))<|pc (rh [b1_k_palingref15_Copy_L1, .n 56, .n 110, .n 174, .n 90, .n 178, .n 113, .n 88, .n 105, (b0_k_palingref15_Copy_L1 a1), .w 56 a1.devices, .arr 110 l10 a1.ports.length false, .w 174 a1.links, .w 90 a1.domains, .w 178 a1.statics, .w 113 a1.floods, .w 88 a1.vrfs, .w 105 a1.irbs, .w 3 x14.tagged])<|pc (app_ob 3 (n := 0) (l := []) (xs := x14.tagged) h16)<|pc (an a1.ports.length (lin_ob h13))<|pc (rn a1.ports.length)<|pc (st_ob (e := 110) (n := a1.ports.length) (l := l10) (i := v11.toNat) (⟨x17.row, x17.dev, x17.native, x17.cost, x17.link, x17.name, x14.tagged⟩ : Api_Port) [.j x17.row, .j x17.dev, .j x17.native, .j x17.cost, .j x17.link, .x x17.name, .sl 3 x14.tagged] (obn110 h18) rfl)<|pc (rn x14.tagged.length)<|pn)
    ·cases h
   ·cases h
  ·obtain rfl := oi h; exact rl [2, 3] [0, 1, 2, 3, 4, 5, 6, 7, 8, 9, 10, 11, 12, 13, 14, 15, 16, 17] [.f] (pc (rn a1.ports.length)<|pc h12<|pn)
 ·exact Ex.noConfusion

def b0_k_palingref15_Copy_L2 (a1 : Api_Net) : AObj DD := .box 31 [.os 10 a1.devices.length, .os 11 a1.ports.length, .os 12 a1.links.length, .os 13 a1.domains.length, .os 14 a1.statics.length, .os 15 a1.floods.length, .os 16 a1.vrfs.length, .os 17 a1.irbs.length] false
def b1_k_palingref15_Copy_L2 : AObj DD := .box 31 [.os 1 0, .os 2 0, .os 3 0, .os 4 0, .os 5 0, .os 6 0, .os 7 0, .os 8 0] false
theorem k_palingref15_Copy_L2 {a1 : Api_Net} {l21 : List Api_Port} : LoopOK Tryz.prog UU 0 142 (subC (codeOf Tryz.f48) [1, 1, 1, 1, 1, 1, 1, 1, 1, 1, 1, 0, 1, 0, 0]) (fun s : (List Api_Domain) × Int => match s with | (l24, v25) => palingref15_Copy_L2 a1 l21 l24 v25)
  (fun s : (List Api_Domain) × Int => (match s with | (l24, v25) => [(2, .o 0), (3, .o 9), (5, .j v25)] : Fr DD)) (fun s : (List Api_Domain) × Int => (match s with | (l24, v25) => [b1_k_palingref15_Copy_L2, .n 56, .n 110, .n 174, .n 90, .n 178, .n 113, .n 88, .n 105, (b0_k_palingref15_Copy_L2 a1), .w 56 a1.devices, .arr 110 l21 a1.ports.length false, .w 174 a1.links, .arr 90 l24 a1.domains.length false, .w 178 a1.statics, .w 113 a1.floods, .w 88 a1.vrfs, .w 105 a1.irbs] : Heap DD)) (fun r => match r with | l35 => .exit 2) (fun r => match r with | l35 => [(2, .o 0), (3, .o 9)]) (fun r => match r with | l35 => [b1_k_palingref15_Copy_L2, .n 56, .n 110, .n 174, .n 90, .n 178, .n 113, .n 88, .n 105, (b0_k_palingref15_Copy_L2 a1), .w 56 a1.devices, .arr 110 l21 a1.ports.length false, .w 174 a1.links, .arr 90 l35 a1.domains.length false, .w 178 a1.statics, .w 113 a1.floods, .w 88 a1.vrfs, .w 105 a1.irbs]) := by
 refine loop_sound3 (fun s q h => ?_) (fun r => ?_)
 ·obtain ⟨l24, v25⟩ := s; replace h : palingref15_Copy_L2 a1 l21 l24 v25 = some q := h
  unfold palingref15_Copy_L2 at h
  obtain ⟨h26, h⟩|⟨h26, h⟩ := ite_out h
  ·obtain ⟨h27, h⟩|⟨h27, h⟩ := ite_out h
   ·obtain ⟨x28, h29, h⟩ := bo h
    obtain ⟨h30, h⟩|⟨h30, h⟩ := ite_out h
    ·obtain ⟨x31, h32, h⟩ := bo h
     obtain rfl := oi h; exact rl [2, 3, 5] [0, 1, 2, 3, 4, 5, 6, 7, 8, 9, 10, 11, 12, 13, 14, 15, 16, 17] [.t, .sum [3] [] .nor [] [b1_k_palingref15_Copy_L2, .n 56, .n 110, .n 174, .n 90, .n 178, .n 113, .n 88, .n 105, (b0_k_palingref15_Copy_L2 a1), .w 56 a1.devices, .arr 110 l21 a1.ports.length false, .w 174 a1.links, .arr 90 l24 a1.domains.length false, .w 178 a1.statics, .w 113 a1.floods, .w 88 a1.vrfs, .w 105 a1.irbs, .n 3], .sum [10] [] .nor [] [b1_k_palingref15_Copy_L2, .n 56, .n 110, .n 174, .n 90, .n 178, .n 113, .n 88, .n 105, (b0_k_palingref15_Copy_L2 a1), .w 56 a1.devices, .arr 110 l21 a1.ports.length false, .w 174 a1.links, .arr 90 l24 a1.domains.length false, .w 178 a1.statics, .w 113 a1.floods, .w 88 a1.vrfs, .w 105 a1.irbs, .w 3 x28.peers], .obj [] (.n 3), .row (c90 x28), .obj [] (.w 3 (x28.peers)), .row (c90 x31), .obj [18] (.arr 90 (List.set l24 v25.toNat (⟨x31.dev, x31.vlan, x31.vni, x31.irb, x31.row, x28.peers⟩ : Api_Domain)) a1.domains.length false)] (pc (rn a1.domains.length)<|pc h26<|pd (rr (.op 9 1 0 3))<|pd (rr (.os 13 a1.domains.length))<|pd (rr (.j v25))<|pc (rh [b1_k_palingref15_Copy_L2, .n 56, .n 110, .n 174, .n 90, .n 178, .n 113, .n 88, .n 105, (b0_k_palingref15_Copy_L2 a1), .w 56 a1.devices, .arr 110 l21 a1.ports.length false, .w 174 a1.links, .arr 90 l24 a1.domains.length false, .w 178 a1.statics, .w 113 a1.floods, .w 88 a1.vrfs, .w 105 a1.irbs, .n 3])<|pc (bs_ob 3 [])<|pc (rr (.op 9 1 0 3))<|pc (rr (.os 13 a1.domains.length))<|pc (rr (.j v25))<|pd (an a1.domains.length (lin_ob h27))<|pc (rr (.op 13 a1.domains.length v25.toNat 0))<|pd (rn a1.domains.length)<|pc (rr (.op 13 a1.domains.length v25.toNat 5))<|pd (an a1.domains.length (obn90 h29))<|pc (rr (.sl 3 x28.peers))<|pc (rh [b1_k_palingref15_Copy_L2, .n 56, .n 110, .n 174, .n 90, .n 178, .n 113, .n 88, .n 105, (b0_k_palingref15_Copy_L2 a1), .w 56 a1.devices, .arr 110 l21 a1.ports.length false, .w 174 a1.links, .arr 90 l24 a1.domains.length false, .w 178 a1.statics, .w 113 a1.floods, .w 88 a1.vrfs, .w 105 a1.irbs, .w 3 x28.peers])<|pc (app_ob 3 (n := 0) (l := []) (xs := x28.peers) h30)<|pc (an a1.domains.length (lin_ob h27))<|pc (rn a1.domains.length)<|pc (st_ob (e := 90) (n := a1.domains.length) (l := l24) (i := v25.toNat) (⟨x31.dev, x31.vlan, x31.vni, x31.irb, x31.row, x28.peers⟩ : Api_Domain) [.j x31.dev, .j x31.vlan, .j x31.vni, .j x31.irb, .j x31.row, .sl 3 x28.peers] (obn90 h32) rfl)<|pc (rn x28.peers.length)<|pn)
    ·cases h
   ·cases h
  ·obtain rfl := oi h; exact rl [2, 3] [0, 1, 2, 3, 4, 5, 6, 7, 8, 9, 10, 11, 12, 13, 14, 15, 16, 17] [.f] (pc (rn a1.domains.length)<|pc h26<|pn)
 ·exact Ex.noConfusion

def b0_k_palingref15_Copy_L3 (a1 : Api_Net) : AObj DD := .box 31 [.os 10 a1.devices.length, .os 11 a1.ports.length, .os 12 a1.links.length, .os 13 a1.domains.length, .os 14 a1.statics.length, .os 15 a1.floods.length, .os 16 a1.vrfs.length, .os 17 a1.irbs.length] false
def b1_k_palingref15_Copy_L3 : AObj DD := .box 31 [.os 1 0, .os 2 0, .os 3 0, .os 4 0, .os 5 0, .os 6 0, .os 7 0, .os 8 0] false
theorem k_palingref15_Copy_L3 {a1 : Api_Net} {l21 : List Api_Port} {l35 : List Api_Domain} : LoopOK Tryz.prog UU 0 142 (subC (codeOf Tryz.f48) [1, 1, 1, 1, 1, 1, 1, 1, 1, 1, 1, 1, 0, 1, 0, 0]) (fun s : (List Api_Flood) × Int => match s with | (l38, v39) => palingref15_Copy_L3 a1 l21 l35 l38 v39)
  (fun s : (List Api_Flood) × Int => (match s with | (l38, v39) => [(2, .o 0), (3, .o 9), (6, .j v39)] : Fr DD)) (fun s : (List Api_Flood) × Int => (match s with | (l38, v39) => [b1_k_palingref15_Copy_L3, .n 56, .n 110, .n 174, .n 90, .n 178, .n 113, .n 88, .n 105, (b0_k_palingref15_Copy_L3 a1), .w 56 a1.devices, .arr 110 l21 a1.ports.length false, .w 174 a1.links, .arr 90 l35 a1.domains.length false, .w 178 a1.statics, .arr 113 l38 a1.floods.length false, .w 88 a1.vrfs, .w 105 a1.irbs] : Heap DD)) (fun r => match r with | l49 => .exit 4) (fun r => match r with | l49 => [(2, .o 0), (3, .o 9)]) (fun r => match r with | l49 => [b1_k_palingref15_Copy_L3, .n 56, .n 110, .n 174, .n 90, .n 178, .n 113, .n 88, .n 105, (b0_k_palingref15_Copy_L3 a1), .w 56 a1.devices, .arr 110 l21 a1.ports.length false, .w 174 a1.links, .arr 90 l35 a1.domains.length false, .w 178 a1.statics, .arr 113 l49 a1.floods.length false, .w 88 a1.vrfs, .w 105 a1.irbs]) := by
 refine loop_sound3 (fun s q h => ?_) (fun r => ?_)
 ·obtain ⟨l38, v39⟩ := s; replace h : palingref15_Copy_L3 a1 l21 l35 l38 v39 = some q := h
  unfold palingref15_Copy_L3 at h
  obtain ⟨h40, h⟩|⟨h40, h⟩ := ite_out h
  ·obtain ⟨h41, h⟩|⟨h41, h⟩ := ite_out h
   ·obtain ⟨x42, h43, h⟩ := bo h
    obtain ⟨h44, h⟩|⟨h44, h⟩ := ite_out h
    ·obtain ⟨x45, h46, h⟩ := bo h
     obtain rfl := oi h; exact rl [2, 3, 6] [0, 1, 2, 3, 4, 5, 6, 7, 8, 9, 10, 11, 12, 13, 14, 15, 16, 17] [.t, .sum [3] [] .nor [] [b1_k_palingref15_Copy_L3, .n 56, .n 110, .n 174, .n 90, .n 178, .n 113, .n 88, .n 105, (b0_k_palingref15_Copy_L3 a1), .w 56 a1.devices, .arr 110 l21 a1.ports.length false, .w 174 a1.links, .arr 90 l35 a1.domains.length false, .w 178 a1.statics, .arr 113 l38 a1.floods.length false, .w 88 a1.vrfs, .w 105 a1.irbs, .n 33], .sum [10] [] .nor [] [b1_k_palingref15_Copy_L3, .n 56, .n 110, .n 174, .n 90, .n 178, .n 113, .n 88, .n 105, (b0_k_palingref15_Copy_L3 a1), .w 56 a1.devices, .arr 110 l21 a1.ports.length false, .w 174 a1.links, .arr 90 l35 a1.domains.length false, .w 178 a1.statics, .arr 113 l38 a1.floods.length false, .w 88 a1.vrfs, .w 105 a1.irbs, .w 33 x42.addrs], .obj [] (.n 33), .row (c113 x42), .obj [] (.w 33 (x42.addrs)), .row (c113 x45), .obj [18] (.arr 113 (List.set l38 v39.toNat (⟨x45.row, x45.dev, x45.vni, x42.addrs⟩ : Api_Flood)) a1.floods.length false)] (pc (rn a1.floods.length)<|pc h40<|pd (rr (.op 9 1 0 5))<|pd (rr (.os 15 a1.floods.length))<|pd (rr (.j v39))<|pc (rh [b1_k_palingref15_Copy_L3, .n 56, .n 110, .n 174, .n 90, .n 178, .n 113, .n 88, .n 105, (b0_k_palingref15_Copy_L3 a1), .w 56 a1.devices, .arr 110 l21 a1.ports.length false, .w 174 a1.links, .arr 90 l35 a1.domains.length false, .w 178 a1.statics, .arr 113 l38 a1.floods.length false, .w 88 a1.vrfs, .w 105 a1.irbs, .n 33])<|pc (bs_ob 33 [])<|pc (rr (.op 9 1 0 5))<|pc (rr (.os 15 a1.floods.length))<|pc (rr (.j v39))<|pd (an a1.floods.length (lin_ob h41))<|pc (rr (.op 15 a1.floods.length v39.toNat 0))<|pd (rn a1.floods.length)<|pc (rr (.op 15 a1.floods.length v39.toNat 3))<|pd (an a1.floods.length (obn113 h43))<|pc (rr (.sl 33 x42.addrs))<|pc (rh [b1_k_palingref15_Copy_L3, .n 56, .n 110, .n 174, .n 90, .n 178, .n 113, .n 88, .n 105, (b0_k_palingref15_Copy_L3 a1), .w 56 a1.devices, .arr 110 l21 a1.ports.length false, .w 174 a1.links, .arr 90 l35 a1.domains.length false, .w 178 a1.statics, .arr 113 l38 a1.floods.length false, .w 88 a1.vrfs, .w 105 a1.irbs, .w 33 x42.addrs])<|pc (app_ob 33 (n := 0) (l := []) (xs := x42.addrs) h44)<|pc (an a1.floods.length (lin_ob h41))<|pc (rn a1.floods.length)<|pc (st_ob (e := 113) (n := a1.floods.length) (l := l38) (i := v39.toNat) (⟨x45.row, x45.dev, x45.vni, x42.addrs⟩ : Api_Flood) [.j x45.row, .j x45.dev, .j x45.vni, .sl 33 x42.addrs] (obn113 h46) rfl)<|pc (rn x42.addrs.length)<|pn)
    ·cases h
   ·cases h
  ·obtain rfl := oi h; exact rl [2, 3] [0, 1, 2, 3, 4, 5, 6, 7, 8, 9, 10, 11, 12, 13, 14, 15, 16, 17] [.f] (pc (rn a1.floods.length)<|pc h40<|pn)
 ·exact Ex.noConfusion

def b0_k_palingref15_Copy_L4 (a1 : Api_Net) : AObj DD := .box 31 [.os 10 a1.devices.length, .os 11 a1.ports.length, .os 12 a1.links.length, .os 13 a1.domains.length, .os 14 a1.statics.length, .os 15 a1.floods.length, .os 16 a1.vrfs.length, .os 17 a1.irbs.length] false
def b1_k_palingref15_Copy_L4 : AObj DD := .box 31 [.os 1 0, .os 2 0, .os 3 0, .os 4 0, .os 5 0, .os 6 0, .os 7 0, .os 8 0] false
theorem k_palingref15_Copy_L4 {a1 : Api_Net} {l21 : List Api_Port} {l35 : List Api_Domain} {l49 : List Api_Flood} : LoopOK Tryz.prog UU 0 142 (subC (codeOf Tryz.f48) [1, 1, 1, 1, 1, 1, 1, 1, 1, 1, 1, 1, 1, 0, 1, 0, 0]) (fun s : (List Api_Vrf) × Int => match s with | (l52, v53) => palingref15_Copy_L4 a1 l21 l35 l49 l52 v53)
  (fun s : (List Api_Vrf) × Int => (match s with | (l52, v53) => [(2, .o 0), (3, .o 9), (7, .j v53)] : Fr DD)) (fun s : (List Api_Vrf) × Int => (match s with | (l52, v53) => [b1_k_palingref15_Copy_L4, .n 56, .n 110, .n 174, .n 90, .n 178, .n 113, .n 88, .n 105, (b0_k_palingref15_Copy_L4 a1), .w 56 a1.devices, .arr 110 l21 a1.ports.length false, .w 174 a1.links, .arr 90 l35 a1.domains.length false, .w 178 a1.statics, .arr 113 l49 a1.floods.length false, .arr 88 l52 a1.vrfs.length false, .w 105 a1.irbs] : Heap DD)) (fun r => match r with | l69 => .exit 6) (fun r => match r with | l69 => [(2, .o 0), (3, .o 9)]) (fun r => match r with | l69 => [b1_k_palingref15_Copy_L4, .n 56, .n 110, .n 174, .n 90, .n 178, .n 113, .n 88, .n 105, (b0_k_palingref15_Copy_L4 a1), .w 56 a1.devices, .arr 110 l21 a1.ports.length false, .w 174 a1.links, .arr 90 l35 a1.domains.length false, .w 178 a1.statics, .arr 113 l49 a1.floods.length false, .arr 88 l69 a1.vrfs.length false, .w 105 a1.irbs]) := by
 refine loop_sound3 (fun s q h => ?_) (fun r => ?_)
 ·obtain ⟨l52, v53⟩ := s; replace h : palingref15_Copy_L4 a1 l21 l35 l49 l52 v53 = some q := h
  unfold palingref15_Copy_L4 at h
  obtain ⟨h54, h⟩|⟨h54, h⟩ := ite_out h
  ·obtain ⟨h55, h⟩|⟨h55, h⟩ := ite_out h
   ·obtain ⟨x56, h57, h⟩ := bo h
    obtain ⟨h58, h⟩|⟨h58, h⟩ := ite_out h
    ·obtain ⟨x59, h60, h⟩ := bo h
     obtain ⟨h61, h⟩|⟨h61, h⟩ := ite_out h
     ·obtain ⟨x62, h63, h⟩ := bo h
      obtain ⟨h64, h⟩|⟨h64, h⟩ := ite_out h
      ·obtain ⟨x65, h66, h⟩ := bo h
       obtain rfl := oi h; exact rl [2, 3, 7] [0, 1, 2, 3, 4, 5, 6, 7, 8, 9, 10, 11, 12, 13, 14, 15, 16, 17] [.t, .sum [3] [] .nor [] [b1_k_palingref15_Copy_L4, .n 56, .n 110, .n 174, .n 90, .n 178, .n 113, .n 88, .n 105, (b0_k_palingref15_Copy_L4 a1), .w 56 a1.devices, .arr 110 l21 a1.ports.length false, .w 174 a1.links, .arr 90 l35 a1.domains.length false, .w 178 a1.statics, .arr 113 l49 a1.floods.length false, .arr 88 l52 a1.vrfs.length false, .w 105 a1.irbs, .n 3], .sum [10] [] .nor [] [b1_k_palingref15_Copy_L4, .n 56, .n 110, .n 174, .n 90, .n 178, .n 113, .n 88, .n 105, (b0_k_palingref15_Copy_L4 a1), .w 56 a1.devices, .arr 110 l21 a1.ports.length false, .w 174 a1.links, .arr 90 l35 a1.domains.length false, .w 178 a1.statics, .arr 113 l49 a1.floods.length false, .arr 88 l52 a1.vrfs.length false, .w 105 a1.irbs, .w 3 x56.imports], .obj [] (.n 3), .row (c88 x56), .obj [] (.w 3 (x56.imports)), .row (c88 x59), .obj [18] (.arr 88 (List.set l52 v53.toNat (⟨x59.row, x59.dev, x59.name, x56.imports, x59.exports⟩ : Api_Vrf)) a1.vrfs.length false), .sum [3] [] .nor [] [b1_k_palingref15_Copy_L4, .n 56, .n 110, .n 174, .n 90, .n 178, .n 113, .n 88, .n 105, (b0_k_palingref15_Copy_L4 a1), .w 56 a1.devices, .arr 110 l21 a1.ports.length false, .w 174 a1.links, .arr 90 l35 a1.domains.length false, .w 178 a1.statics, .arr 113 l49 a1.floods.length false, .arr 88 (List.set l52 v53.toNat (⟨x59.row, x59.dev, x59.name, x56.imports, x59.exports⟩ : Api_Vrf)) a1.vrfs.length false, .w 105 a1.irbs, .wt 3 x56.imports, .n 3], .sum [10] [] .nor [] [b1_k_palingref15_Copy_L4, .n 56, .n 110, .n 174, .n 90, .n 178, .n 113, .n 88, .n 105, (b0_k_palingref15_Copy_L4 a1), .w 56 a1.devices, .arr 110 l21 a1.ports.length false, .w 174 a1.links, .arr 90 l35 a1.domains.length false, .w 178 a1.statics, .arr 113 l49 a1.floods.length false, .arr 88 (List.set l52 v53.toNat (⟨x59.row, x59.dev, x59.name, x56.imports, x59.exports⟩ : Api_Vrf)) a1.vrfs.length false, .w 105 a1.irbs, .wt 3 x56.imports, .w 3 x62.exports], .obj [] (.n 3), .row (c88 x62), .obj [] (.w 3 (x62.exports)), .row (c88 x65), .obj [19] (.arr 88 (List.set (List.set l52 v53.toNat (⟨x59.row, x59.dev, x59.name, x56.imports, x59.exports⟩ : Api_Vrf)) v53.toNat (⟨x65.row, x65.dev, x65.name, x65.imports, x62.exports⟩ : Api_Vrf)) a1.vrfs.length false)] (pc (rn a1.vrfs.length)<|pc h54<|pd (rr (.op 9 1 0 6))<|pd (rr (.os 16 a1.vrfs.length))<|pd (rr (.j v53))<|pc (rh [b1_k_palingref15_Copy_L4, .n 56, .n 110, .n 174, .n 90, .n 178, .n 113, .n 88, .n 105, (b0_k_palingref15_Copy_L4 a1), .w 56 a1.devices, .arr 110 l21 a1.ports.length false, .w 174 a1.links, .arr 90 l35 a1.domains.length false, .w 178 a1.statics, .arr 113 l49 a1.floods.length false, .arr 88 l52 a1.vrfs.length false, .w 105 a1.irbs, .n 3])<|pc (bs_ob 3 [])<|pc (rr (.op 9 1 0 6))<|pc (rr (.os 16 a1.vrfs.length))<|pc (rr (.j v53))<|pd (an a1.vrfs.length (lin_ob h55))<|pc (rr (.op 16 a1.vrfs.length v53.toNat 0))<|pd (rn a1.vrfs.length)<|pc (rr (.op 16 a1.vrfs.length v53.toNat 3))<|pd (an a1.vrfs.length (obn88 h57))<|pc (rr (.sl 3 x56.imports))<|pc (rh [b1_k_palingref15_Copy_L4, .n 56, .n 110, .n 174, .n 90, .n 178, .n 113, .n 88, .n 105, (b0_k_palingref15_Copy_L4 a1), .w 56 a1.devices, .arr 110 l21 a1.ports.length false, .w 174 a1.links, .arr 90 l35 a1.domains.length false, .w 178 a1.statics, .arr 113 l49 a1.floods.length false, .arr 88 l52 a1.vrfs.length false, .w 105 a1.irbs, .w 3 x56.imports])<|pc (app_ob 3 (n := 0) (l := []) (xs := x56.imports) h58)<|pc (an a1.vrfs.length (lin_ob h55))<|pc (rn a1.vrfs.length)<|pc (st_ob (e := 88) (n := a1.vrfs.length) (l := l52) (i := v53.toNat) (⟨x59.row, x59.dev, x59.name, x56.imports, x59.exports⟩ : Api_Vrf) [.j x59.row, .j x59.dev, .x x59.name, .sl 3 x56.imports, .sl 3 x59.exports] (obn88 h60) rfl)<|pc (rn x56.imports.length)<|pd (rr (.op 9 1 0 6))<|pd (rr (.os 16 a1.vrfs.length))<|pd (rr (.j v53))<|pc (rh [b1_k_palingref15_Copy_L4, .n 56, .n 110, .n 174, .n 90, .n 178, .n 113, .n 88, .n 105, (b0_k_palingref15_Copy_L4 a1), .w 56 a1.devices, .arr 110 l21 a1.ports.length false, .w 174 a1.links, .arr 90 l35 a1.domains.length false, .w 178 a1.statics, .arr 113 l49 a1.floods.length false, .arr 88 (List.set l52 v53.toNat (⟨x59.row, x59.dev, x59.name, x56.imports, x59.exports⟩ : Api_Vrf)) a1.vrfs.length false, .w 105 a1.irbs, .wt 3 x56.imports, .n 3])<|pc (bs_ob 3 [])<|pc (rr (.op 9 1 0 6))<|pc (rr (.os 16 a1.vrfs.length))<|pc (rr (.j v53))<|pd (an a1.vrfs.length (lin_ob h61))<|pc (rr (.op 16 a1.vrfs.length v53.toNat 0))<|pd (rn a1.vrfs.length)<|pc (rr (.op 16 a1.vrfs.length v53.toNat 4))<|pd (an a1.vrfs.length (obn88 h63))<|pc (rr (.sl 3 x62.exports))<|pc (rh [b1_k_palingref15_Copy_L4, .n 56, .n 110, .n 174, .n 90, .n 178, .n 113, .n 88, .n 105, (b0_k_palingref15_Copy_L4 a1), .w 56 a1.devices, .arr 110 l21 a1.ports.length false, .w 174 a1.links, .arr 90 l35 a1.domains.length false, .w 178 a1.statics, .arr 113 l49 a1.floods.length false, .arr 88 (List.set l52 v53.toNat (⟨x59.row, x59.dev, x59.name, x56.imports, x59.exports⟩ : Api_Vrf)) a1.vrfs.length false, .w 105 a1.irbs, .wt 3 x56.imports, .w 3 x62.exports])<|pc (app_ob 3 (n := 0) (l := []) (xs := x62.exports) h64)<|pc (an a1.vrfs.length (lin_ob h61))<|pc (rn a1.vrfs.length)<|pc (st_ob (e := 88) (n := a1.vrfs.length) (l := List.set l52 v53.toNat (⟨x59.row, x59.dev, x59.name, x56.imports, x59.exports⟩ : Api_Vrf)) (i := v53.toNat) (⟨x65.row, x65.dev, x65.name, x65.imports, x62.exports⟩ : Api_Vrf) [.j x65.row, .j x65.dev, .x x65.name, .sl 3 x65.imports, .sl 3 x62.exports] (obn88 h66) rfl)<|pc (rn x62.exports.length)<|pn)
      ·cases h
     ·cases h
    ·cases h
   ·cases h
  ·obtain rfl := oi h; exact rl [2, 3] [0, 1, 2, 3, 4, 5, 6, 7, 8, 9, 10, 11, 12, 13, 14, 15, 16, 17] [.f] (pc (rn a1.vrfs.length)<|pc h54<|pn)
 ·exact Ex.noConfusion

def b0_k_palingref15_Copy (a1 : Api_Net) : AObj DD := .box 31 [.os 10 a1.devices.length, .os 11 a1.ports.length, .os 12 a1.links.length, .os 13 a1.domains.length, .os 14 a1.statics.length, .os 15 a1.floods.length, .os 16 a1.vrfs.length, .os 17 a1.irbs.length] false
def b1_k_palingref15_Copy : AObj DD := .box 31 [.os 1 0, .os 2 0, .os 3 0, .os 4 0, .os 5 0, .os 6 0, .os 7 0, .os 8 0] false
theorem k_palingref15_Copy {a1 : Api_Net} {r : ((List Api_Port) × (List Api_Domain) × (List Api_Flood) × (List Api_Vrf))} (h : palingref15_Copy a1 = some r) :
  CallsOK Tryz.prog UU 48 [.agg (c31 a1)] [] ((fun r => match r with | (l72, l73, l74, l75) => .agg [.os 0 a1.devices.length, .os 1 a1.ports.length, .os 2 a1.links.length, .os 3 a1.domains.length, .os 4 a1.statics.length, .os 5 a1.floods.length, .os 6 a1.vrfs.length, .os 7 a1.irbs.length]) r) ((fun r => match r with | (l72, l73, l74, l75) => [.w 56 a1.devices, .arr 110 l72 a1.ports.length false, .w 174 a1.links, .arr 90 l73 a1.domains.length false, .w 178 a1.statics, .arr 113 l74 a1.floods.length false, .arr 88 l75 a1.vrfs.length false, .w 105 a1.irbs]) r) := by
 unfold palingref15_Copy at h
 obtain ⟨h2, h⟩|⟨h2, h⟩ := ite_out h
 ·obtain ⟨h3, h⟩|⟨h3, h⟩ := ite_out h
  ·obtain ⟨h4, h⟩|⟨h4, h⟩ := ite_out h
   ·obtain ⟨h5, h⟩|⟨h5, h⟩ := ite_out h
    ·obtain ⟨h6, h⟩|⟨h6, h⟩ := ite_out h
     ·obtain ⟨h7, h⟩|⟨h7, h⟩ := ite_out h
      ·obtain ⟨h8, h⟩|⟨h8, h⟩ := ite_out h
       ·obtain ⟨h9, h⟩|⟨h9, h⟩ := ite_out h
        ·obtain ⟨l21, h22, h⟩ := bo h
         obtain ⟨l35, h36, h⟩ := bo h
         obtain ⟨l49, h50, h⟩ := bo h
         obtain ⟨l69, h70, h⟩ := bo h
         obtain rfl := oi h; exact rf Tryz.func48 (some [10, 11, 12, 13, 14, 15, 16, 17]) [.obj [] (.n 56), .obj [] (.w 56 (a1.devices)), .obj [] (.n 110), .obj [] (.w 110 (a1.ports)), .obj [] (.n 174), .obj [] (.w 174 (a1.links)), .obj [] (.n 90), .obj [] (.w 90 (a1.domains)), .obj [] (.n 178), .obj [] (.w 178 (a1.statics)), .obj [] (.n 113), .obj [] (.w 113 (a1.floods)), .obj [] (.n 88), .obj [] (.w 88 (a1.vrfs)), .obj [] (.n 105), .obj [] (.w 105 (a1.irbs)), .sum [2, 3, 4] [9, 1, 2, 3, 4, 5, 6, 7, 8, 18, 19, 20, 21, 22, 23, 24, 25, 26] (.exit 0) [(2, .o 0), (3, .o 9)] [b1_k_palingref15_Copy, .n 56, .n 110, .n 174, .n 90, .n 178, .n 113, .n 88, .n 105, (b0_k_palingref15_Copy a1), .w 56 a1.devices, .arr 110 l21 a1.ports.length false, .w 174 a1.links, .w 90 a1.domains, .w 178 a1.statics, .w 113 a1.floods, .w 88 a1.vrfs, .w 105 a1.irbs], .sum [2, 3, 5] [0, 1, 2, 3, 4, 5, 6, 7, 8, 9, 10, 11, 12, 13, 14, 15, 16, 17] (.exit 2) [(2, .o 0), (3, .o 9)] [b1_k_palingref15_Copy, .n 56, .n 110, .n 174, .n 90, .n 178, .n 113, .n 88, .n 105, (b0_k_palingref15_Copy a1), .w 56 a1.devices, .arr 110 l21 a1.ports.length false, .w 174 a1.links, .arr 90 l35 a1.domains.length false, .w 178 a1.statics, .w 113 a1.floods, .w 88 a1.vrfs, .w 105 a1.irbs], .sum [2, 3, 6] [0, 1, 2, 3, 4, 5, 6, 7, 8, 9, 10, 11, 12, 13, 14, 15, 16, 17] (.exit 4) [(2, .o 0), (3, .o 9)] [b1_k_palingref15_Copy, .n 56, .n 110, .n 174, .n 90, .n 178, .n 113, .n 88, .n 105, (b0_k_palingref15_Copy a1), .w 56 a1.devices, .arr 110 l21 a1.ports.length false, .w 174 a1.links, .arr 90 l35 a1.domains.length false, .w 178 a1.statics, .arr 113 l49 a1.floods.length false, .w 88 a1.vrfs, .w 105 a1.irbs], .sum [2, 3, 7] [0, 1, 2, 3, 4, 5, 6, 7, 8, 9, 10, 11, 12, 13, 14, 15, 16, 17] (.exit 6) [(2, .o 0), (3, .o 9)] [b1_k_palingref15_Copy, .n 56, .n 110, .n 174, .n 90, .n 178, .n 113, .n 88, .n 105, (b0_k_palingref15_Copy a1), .w 56 a1.devices, .arr 110 l21 a1.ports.length false, .w 174 a1.links, .arr 90 l35 a1.domains.length false, .w 178 a1.statics, .arr 113 l49 a1.floods.length false, .arr 88 l69 a1.vrfs.length false, .w 105 a1.irbs]] (pc (bs_ob 56 [])<|pc (app_ob 56 (n := 0) (l := []) (xs := a1.devices) h2)<|pc (bs_ob 110 [])<|pc (app_ob 110 (n := 0) (l := []) (xs := a1.ports) h3)<|pc (bs_ob 174 [])<|pc (app_ob 174 (n := 0) (l := []) (xs := a1.links) h4)<|pc (bs_ob 90 [])<|pc (app_ob 90 (n := 0) (l := []) (xs := a1.domains) h5)<|pc (bs_ob 178 [])<|pc (app_ob 178 (n := 0) (l := []) (xs := a1.statics) h6)<|pc (bs_ob 113 [])<|pc (app_ob 113 (n := 0) (l := []) (xs := a1.floods) h7)<|pc (bs_ob 88 [])<|pc (app_ob 88 (n := 0) (l := []) (xs := a1.vrfs) h8)<|pc (bs_ob 105 [])<|pc (app_ob 105 (n := 0) (l := []) (xs := a1.irbs) h9)<|pc (k_palingref15_Copy_L1 _ _ h22)<|pc (k_palingref15_Copy_L2 _ _ h36)<|pc (k_palingref15_Copy_L3 _ _ h50)<|pc (k_palingref15_Copy_L4 _ _ h70)<|pn)
        ·cases h
       ·cases h
      ·cases h
     ·cases h
    ·cases h
   ·cases h
  ·cases h
 ·cases h

def b0_k_palingref19_Mesh_L1 (a1 : Api_Net) : List (AObj DD) := [.box 31 (c31 a1) false, .box 31 [.os 10 0, .os 11 0, .os 12 0, .os 13 0, .os 14 0, .os 15 0, .os 16 0, .os 17 0] false, .n 56, .n 110, .n 174, .n 90, .n 178, .n 113, .n 88, .n 105, .n 56, .n 110, .n 174, .n 90, .n 178, .n 113, .n 88, .n 105]
def b1_k_palingref19_Mesh_L1 : AObj DD := .box 31 [.os 10 0, .os 11 0, .os 12 0, .os 13 0, .os 14 0, .os 15 0, .os 16 0, .os 17 0] false
theorem k_palingref19_Mesh_L1 {a1 : Api_Net} : LoopOK Tryz.prog UU 0 113 (subC (codeOf Tryz.f18) [1, 1, 0, 1, 0, 0]) (ρ := Int ⊕ Unit) (palingref19_Mesh_L1 a1)
  (fun v5 : Int => ([(1, .o 0), (2, .o 1), (3, .z), (4, .z), (5, .j v5)] : Fr DD)) (fun v5 : Int => ([.box 31 (c31 a1) false, .box 31 [.os 2 0, .os 3 0, .os 4 0, .os 5 0, .os 6 0, .os 7 0, .os 8 0, .os 9 0] false, .n 56, .n 110, .n 174, .n 90, .n 178, .n 113, .n 88, .n 105] : Heap DD)) (fun r => match r with | Sum.inl v15 => .ret | Sum.inr _ => .exit 0) (fun r => match r with | Sum.inl v15 => [(2, .o 0), (3, .j v15), (4, .j 36)] | Sum.inr _ => [(1, .o 0), (2, .o 1), (3, .z), (4, .z)]) (fun r => match r with | Sum.inl v15 => [.box 31 [.os 1 0, .os 2 0, .os 3 0, .os 4 0, .os 5 0, .os 6 0, .os 7 0, .os 8 0] false, .n 56, .n 110, .n 174, .n 90, .n 178, .n 113, .n 88, .n 105] | Sum.inr _ => [.box 31 (c31 a1) false, .box 31 [.os 2 0, .os 3 0, .os 4 0, .os 5 0, .os 6 0, .os 7 0, .os 8 0, .os 9 0] false, .n 56, .n 110, .n 174, .n 90, .n 178, .n 113, .n 88, .n 105]) := by
 refine loop_sound3 (fun s q h => ?_) (fun r => ?_)
 ·replace h : palingref19_Mesh_L1 a1 s = some q := h; revert h; revert s; intro v5 h
  unfold palingref19_Mesh_L1 at h
  obtain ⟨h6, h⟩|⟨h6, h⟩ := ite_out h
  ·obtain ⟨x7, h8, h⟩ := bo h
   obtain ⟨r9, h10, h⟩ := bo h
   obtain ⟨h11, h⟩|⟨h11, h⟩ := ite_out h
   ·obtain ⟨x12, h13, h⟩ := bo h
    obtain rfl := oi h; exact rl [2, 3, 4] [1, 10, 11, 12, 13, 14, 15, 16, 17] [.t, .row (c113 x7), .b r9, .t, .sum [7] [] .nor [] (b0_k_palingref19_Mesh_L1 a1), .row (c113 x12)] (pc h6<|pc (ob113 h8)<|pc (k_palingref19_agrees h10)<|pc h11<|pc (rr (.op 0 1 0 5))<|pc (rr (.sl 113 a1.floods))<|pc (rr (.j v5))<|pd (ob113 h13)<|pd (rr (.rp (c113 x12) 0))<|pc (rr (.j x12.row))<|pc (rh (b0_k_palingref19_Mesh_L1 a1))<|pn)
   ·obtain rfl := oi h; exact rl [1, 2, 3, 4, 5] [0, 1, 2, 3, 4, 5, 6, 7, 8, 9] [.t, .row (c113 x7), .b r9, .f] (pc h6<|pc (ob113 h8)<|pc (k_palingref19_agrees h10)<|pc h11<|pn)
  ·obtain rfl := oi h; exact rl [1, 2, 3, 4] [0, 1, 2, 3, 4, 5, 6, 7, 8, 9] [.f] (pc h6<|pn)
 ·rcases r with _ | _ <;> exact Ex.noConfusion

def b0_k_palingref19_Mesh_L3 (a1 : Api_Net) : AObj DD := .box 31 [.os 11 a1.devices.length, .os 12 a1.ports.length, .os 13 a1.links.length, .os 14 a1.domains.length, .os 16 a1.statics.length, .os 17 a1.floods.length, .os 18 a1.vrfs.length, .os 19 a1.irbs.length] false
def b1_k_palingref19_Mesh_L3 : AObj DD := .box 31 [.os 2 0, .os 3 0, .os 4 0, .os 5 0, .os 6 0, .os 7 0, .os 8 0, .os 9 0] false
theorem k_palingref19_Mesh_L3 {a1 : Api_Net} {l20 : List Api_Port} {l22 : List Api_Flood} {l23 : List Api_Vrf} {l24 : List Api_Domain} {v25 : Int} {x28 : Api_Domain} {x30 : Api_Domain} {r32 : Int} : LoopOK Tryz.prog UU 0 113 (subC (codeOf Tryz.f18) [1, 1, 1, 1, 0, 1, 0, 0, 1, 0, 0, 1, 1, 1, 1, 1, 0, 0]) (fun s : (List Int) × Int => match s with | (l36, v37) => palingref19_Mesh_L3 a1 l20 l22 l23 l24 v25 x28 x30 r32 l36 v37)
  (fun s : (List Int) × Int => (match s with | (l36, v37) => [(1, .o 0), (2, .o 1), (3, .z), (4, .z), (6, .o 10), (7, .j v25), (8, .o 20), (9, .j r32), (10, .j v37)] : Fr DD)) (fun s : (List Int) × Int => (match s with | (l36, v37) => [.box 31 (c31 a1) false, b1_k_palingref19_Mesh_L3, .n 56, .n 110, .n 174, .n 90, .n 178, .n 113, .n 88, .n 105, (b0_k_palingref19_Mesh_L3 a1), .w 56 a1.devices, .arr 110 l20 a1.ports.length false, .w 174 a1.links, .dp 90 l24 (List.replicate l24.length false) (some (v25.toNat, [.j x30.dev, .j x30.vlan, .j x30.vni, .j x30.irb, .j x30.row, .os 15 l36.length])) a1.domains.length, .w 3 l36, .w 178 a1.statics, .arr 113 l22 a1.floods.length false, .arr 88 l23 a1.vrfs.length false, .w 105 a1.irbs, .box 90 (c90 x28) false] : Heap DD)) (fun r => match r with | l57 => .exit 4) (fun r => match r with | l57 => [(1, .o 0), (2, .o 1), (3, .z), (4, .z), (6, .o 10), (7, .j v25)]) (fun r => match r with | l57 => [.box 31 (c31 a1) false, b1_k_palingref19_Mesh_L3, .n 56, .n 110, .n 174, .n 90, .n 178, .n 113, .n 88, .n 105, (b0_k_palingref19_Mesh_L3 a1), .w 56 a1.devices, .arr 110 l20 a1.ports.length false, .w 174 a1.links, .dp 90 l24 (List.replicate l24.length false) (some (v25.toNat, [.j x30.dev, .j x30.vlan, .j x30.vni, .j x30.irb, .j x30.row, .os 15 l57.length])) a1.domains.length, .w 3 l57, .w 178 a1.statics, .arr 113 l22 a1.floods.length false, .arr 88 l23 a1.vrfs.length false, .w 105 a1.irbs]) := by
 refine loop_sound3 (fun s q h => ?_) (fun r => ?_)
 ·obtain ⟨l36, v37⟩ := s; replace h : palingref19_Mesh_L3 a1 l20 l22 l23 l24 v25 x28 x30 r32 l36 v37 = some q := h
  unfold palingref19_Mesh_L3 at h
  obtain ⟨x38, h39, h⟩ := bo h
  obtain ⟨h40, h⟩|⟨h40, h⟩ := ite_out h
  ·obtain ⟨h41, h⟩|⟨h41, h⟩ := ite_out h
   ·obtain ⟨x42, h43, h⟩ := bo h
    obtain ⟨x44, h45, h⟩ := bo h
    obtain ⟨r46, h47, h⟩ := bo h
    obtain ⟨r48, h49, h⟩ := bo h
    obtain ⟨h50, h⟩|⟨h50, h⟩ := ite_out h
    ·obtain rfl := oi h; exact rl [1, 2, 3, 4, 6, 7, 8, 9, 10] [0, 1, 2, 3, 4, 5, 6, 7, 8, 9, 10, 11, 12, 13, 14, 15, 16, 17, 18, 19, 20] [.row (c113 x38), .t, .sum [25] [] .nor [] [.box 31 (c31 a1) false, b1_k_palingref19_Mesh_L3, .n 56, .n 110, .n 174, .n 90, .n 178, .n 113, .n 88, .n 105, (b0_k_palingref19_Mesh_L3 a1), .w 56 a1.devices, .arr 110 l20 a1.ports.length false, .w 174 a1.links, .dp 90 l24 (List.replicate l24.length false) (some (v25.toNat, [.j x30.dev, .j x30.vlan, .j x30.vni, .j x30.irb, .j x30.row, .os 15 l36.length])) a1.domains.length, .w 3 (l36 ++ [r48]), .w 178 a1.statics, .arr 113 l22 a1.floods.length false, .arr 88 l23 a1.vrfs.length false, .w 105 a1.irbs, .box 90 (c90 x28) false], .row (c113 x42), .row (c33 x44), .callv (.j r46), .callv (.j r48), .obj [] (.w 3 [r48]), .obj [] (.w 3 (l36 ++ [r48]))] (pc (ob113 h39)<|pc h40<|pc (rr (.op 10 1 0 3))<|pc (rr (.os 14 a1.domains.length))<|pc (rr (.j v25))<|pc (an a1.domains.length (lin_ob h41))<|pc (rn a1.domains.length)<|pc (an a1.domains.length (rn v25.toNat))<|pc (ob113 h43)<|pc (ob33 h45)<|pc (k_palingref19_Owner h47)<|pc (k_palingref19_Find h49)<|pc (bs_ob 3 [r48])<|pc (rh [.box 31 (c31 a1) false, b1_k_palingref19_Mesh_L3, .n 56, .n 110, .n 174, .n 90, .n 178, .n 113, .n 88, .n 105, (b0_k_palingref19_Mesh_L3 a1), .w 56 a1.devices, .arr 110 l20 a1.ports.length false, .w 174 a1.links, .dp 90 l24 (List.replicate l24.length false) (some (v25.toNat, [.j x30.dev, .j x30.vlan, .j x30.vni, .j x30.irb, .j x30.row, .os 15 l36.length])) a1.domains.length, .w 3 (l36 ++ [r48]), .w 178 a1.statics, .arr 113 l22 a1.floods.length false, .arr 88 l23 a1.vrfs.length false, .w 105 a1.irbs, .box 90 (c90 x28) false])<|pc (app_ob 3 (n := l36.length) (l := l36) (xs := [r48]) h50)<|pc (an a1.domains.length (lin_ob h41))<|pc (rn a1.domains.length)<|pc (an a1.domains.length (rn v25.toNat))<|pn)
    ·cases h
   ·cases h
  ·obtain rfl := oi h; exact rl [1, 2, 3, 4, 6, 7] [0, 1, 2, 3, 4, 5, 6, 7, 8, 9, 10, 11, 12, 13, 14, 15, 16, 17, 18, 19] [.row (c113 x38), .f] (pc (ob113 h39)<|pc h40<|pn)
 ·exact Ex.noConfusion

theorem k_palingref19_Mesh_L2 {a1 : Api_Net} {l20 : List Api_Port} {l22 : List Api_Flood} {l23 : List Api_Vrf} : LoopOK Tryz.prog UU 0 113 (subC (codeOf Tryz.f18) [1, 1, 1, 1, 0, 1, 0, 0]) (fun s : (List Api_Domain) × Int => match s with | (l24, v25) => palingref19_Mesh_L2 a1 l20 l22 l23 l24 v25)
  (fun s : (List Api_Domain) × Int => (match s with | (l24, v25) => [(1, .o 0), (2, .o 1), (3, .z), (4, .z), (6, .o 10), (7, .j v25)] : Fr DD)) (fun s : (List Api_Domain) × Int => (match s with | (l24, v25) => [.box 31 (c31 a1) false, .box 31 [.os 2 0, .os 3 0, .os 4 0, .os 5 0, .os 6 0, .os 7 0, .os 8 0, .os 9 0] false, .n 56, .n 110, .n 174, .n 90, .n 178, .n 113, .n 88, .n 105, .box 31 [.os 11 a1.devices.length, .os 12 a1.ports.length, .os 13 a1.links.length, .os 14 a1.domains.length, .os 15 a1.statics.length, .os 16 a1.floods.length, .os 17 a1.vrfs.length, .os 18 a1.irbs.length] false, .w 56 a1.devices, .arr 110 l20 a1.ports.length false, .w 174 a1.links, .arr 90 l24 a1.domains.length false, .w 178 a1.statics, .arr 113 l22 a1.floods.length false, .arr 88 l23 a1.vrfs.length false, .w 105 a1.irbs] : Heap DD)) (fun r => match r with | l64 => .exit 2) (fun r => match r with | l64 => [(2, .o 0), (3, .z), (4, .z), (6, .o 9)]) (fun r => match r with | l64 => [.box 31 [.os 1 0, .os 2 0, .os 3 0, .os 4 0, .os 5 0, .os 6 0, .os 7 0, .os 8 0] false, .n 56, .n 110, .n 174, .n 90, .n 178, .n 113, .n 88, .n 105, .box 31 [.os 10 a1.devices.length, .os 11 a1.ports.length, .os 12 a1.links.length, .os 13 a1.domains.length, .os 14 a1.statics.length, .os 15 a1.floods.length, .os 16 a1.vrfs.length, .os 17 a1.irbs.length] false, .w 56 a1.devices, .arr 110 l20 a1.ports.length false, .w 174 a1.links, .arr 90 l64 a1.domains.length false, .w 178 a1.statics, .arr 113 l22 a1.floods.length false, .arr 88 l23 a1.vrfs.length false, .w 105 a1.irbs]) := by
 refine loop_sound3 (fun s q h => ?_) (fun r => ?_)
 ·obtain ⟨l24, v25⟩ := s; replace h : palingref19_Mesh_L2 a1 l20 l22 l23 l24 v25 = some q := h
  unfold palingref19_Mesh_L2 at h
  obtain ⟨h26, h⟩|⟨h26, h⟩ := ite_out h
  ·obtain ⟨h27, h⟩|⟨h27, h⟩ := ite_out h
   ·obtain ⟨x28, h29, h⟩ := bo h
    obtain ⟨x30, h31, h⟩ := bo h
    obtain ⟨r32, h33, h⟩ := bo h
    obtain ⟨h34, h⟩|⟨h34, h⟩ := ite_out h
    ·obtain rfl := oi h; exact rl [1, 2, 3, 4, 6, 7] [0, 1, 2, 3, 4, 5, 6, 7, 8, 9, 10, 11, 12, 13, 14, 15, 16, 17, 18] [.t, .row (c90 x28), .gdp 14, .gop 14 v25.toNat false (c90 x30), .callv (.j r32), .t, .gcl 14 false (.dp 90 (List.set l24 v25.toNat (⟨x30.dev, x30.vlan, x30.vni, x30.irb, x30.row, []⟩ : Api_Domain)) (List.set (List.replicate l24.length false) v25.toNat false) none a1.domains.length), .gfz 14] (pc (rn a1.domains.length)<|pc h26<|pc (an a1.domains.length (lin_ob h27))<|pc (an a1.domains.length (obn90 h29))<|pc (And.intro (obn90 h31) (rep_ob h31))<|pc (an a1.domains.length (lin_ob h27))<|pc (rn a1.domains.length)<|pc (an a1.domains.length (rn v25.toNat))<|pc (k_palingref19_list h33)<|pc h34<|pc (gcl_ob (e := 90) (n := a1.domains.length) (l := l24) (pm := (List.replicate l24.length false)) (i := v25.toNat) (⟨x30.dev, x30.vlan, x30.vni, x30.irb, x30.row, []⟩ : Api_Domain) [.j x30.dev, .j x30.vlan, .j x30.vni, .j x30.irb, .j x30.row, .sl 3 []] rfl)<|pc (rn 0)<|pn)
    ·obtain ⟨h35, h⟩|⟨h35, h⟩ := ite_out h
     ·obtain rfl := oi h; exact rl [1, 2, 3, 4, 6, 7] [0, 1, 2, 3, 4, 5, 6, 7, 8, 9, 10, 11, 12, 13, 14, 15, 16, 17, 18] [.t, .row (c90 x28), .gdp 14, .gop 14 v25.toNat false (c90 x30), .callv (.j r32), .f, .t, .gcl 14 false (.dp 90 (List.set l24 v25.toNat (⟨x30.dev, x30.vlan, x30.vni, x30.irb, x30.row, []⟩ : Api_Domain)) (List.set (List.replicate l24.length false) v25.toNat false) none a1.domains.length), .gfz 14] (pc (rn a1.domains.length)<|pc h26<|pc (an a1.domains.length (lin_ob h27))<|pc (an a1.domains.length (obn90 h29))<|pc (And.intro (obn90 h31) (rep_ob h31))<|pc (an a1.domains.length (lin_ob h27))<|pc (rn a1.domains.length)<|pc (an a1.domains.length (rn v25.toNat))<|pc (k_palingref19_list h33)<|pc h34<|pc h35<|pc (gcl_ob (e := 90) (n := a1.domains.length) (l := l24) (pm := (List.replicate l24.length false)) (i := v25.toNat) (⟨x30.dev, x30.vlan, x30.vni, x30.irb, x30.row, []⟩ : Api_Domain) [.j x30.dev, .j x30.vlan, .j x30.vni, .j x30.irb, .j x30.row, .sl 3 []] rfl)<|pc (rn 0)<|pn)
     ·obtain ⟨l57, h58, h⟩ := bo h
      obtain rfl := oi h; exact rl [1, 2, 3, 4, 6, 7] [0, 1, 2, 3, 4, 5, 6, 7, 8, 9, 10, 11, 12, 13, 14, 16, 17, 18, 19] [.t, .row (c90 x28), .gdp 14, .gop 14 v25.toNat false (c90 x30), .callv (.j r32), .f, .f, .sum [1, 2, 3, 4, 6, 7, 8, 9, 10] [0, 1, 2, 3, 4, 5, 6, 7, 8, 9, 10, 11, 12, 13, 14, 21, 15, 16, 17, 18, 20] (.exit 4) [(1, .o 0), (2, .o 1), (3, .z), (4, .z), (6, .o 10), (7, .j v25)] [.box 31 (c31 a1) false, .box 31 [.os 2 0, .os 3 0, .os 4 0, .os 5 0, .os 6 0, .os 7 0, .os 8 0, .os 9 0] false, .n 56, .n 110, .n 174, .n 90, .n 178, .n 113, .n 88, .n 105, .box 31 [.os 11 a1.devices.length, .os 12 a1.ports.length, .os 13 a1.links.length, .os 14 a1.domains.length, .os 16 a1.statics.length, .os 17 a1.floods.length, .os 18 a1.vrfs.length, .os 19 a1.irbs.length] false, .w 56 a1.devices, .arr 110 l20 a1.ports.length false, .w 174 a1.links, .dp 90 l24 (List.replicate l24.length false) (some (v25.toNat, [.j x30.dev, .j x30.vlan, .j x30.vni, .j x30.irb, .j x30.row, .os 15 l57.length])) a1.domains.length, .w 3 l57, .w 178 a1.statics, .arr 113 l22 a1.floods.length false, .arr 88 l23 a1.vrfs.length false, .w 105 a1.irbs], .gcl 14 false (.dp 90 (List.set l24 v25.toNat (⟨x30.dev, x30.vlan, x30.vni, x30.irb, x30.row, l57⟩ : Api_Domain)) (List.set (List.replicate l24.length false) v25.toNat false) none a1.domains.length), .gfz 14] (pc (rn a1.domains.length)<|pc h26<|pc (an a1.domains.length (lin_ob h27))<|pc (an a1.domains.length (obn90 h29))<|pc (And.intro (obn90 h31) (rep_ob h31))<|pc (an a1.domains.length (lin_ob h27))<|pc (rn a1.domains.length)<|pc (an a1.domains.length (rn v25.toNat))<|pc (k_palingref19_list h33)<|pc h34<|pc h35<|pc (k_palingref19_Mesh_L3 _ _ h58)<|pc (gcl_ob (e := 90) (n := a1.domains.length) (l := l24) (pm := (List.replicate l24.length false)) (i := v25.toNat) (⟨x30.dev, x30.vlan, x30.vni, x30.irb, x30.row, l57⟩ : Api_Domain) [.j x30.dev, .j x30.vlan, .j x30.vni, .j x30.irb, .j x30.row, .sl 3 l57] rfl)<|pc (rn l57.length)<|pn)
   ·cases h
  ·obtain rfl := oi h; exact rl [2, 3, 4, 6] [1, 2, 3, 4, 5, 6, 7, 8, 9, 10, 11, 12, 13, 14, 15, 16, 17, 18] [.f] (pc (rn a1.domains.length)<|pc h26<|pn)
 ·exact Ex.noConfusion

def b0_k_palingref19_Mesh : AObj DD := .box 31 [.os 1 0, .os 2 0, .os 3 0, .os 4 0, .os 5 0, .os 6 0, .os 7 0, .os 8 0] false
theorem k_palingref19_Mesh {a1 : Api_Net} {r : ((List Api_Device) × (List Api_Port) × (List Api_Link) × (List Api_Domain) × (List Api_Static) × (List Api_Flood) × (List Api_Vrf) × (List Api_Irb) × Nat × Nat × Nat × Nat × Int × Int)} (h : palingref19_Mesh a1 = some r) :
  CallsOK Tryz.prog UU 18 [.agg (c31 a1)] [] ((fun r => match r with | (l70, l71, l72, l73, l74, l75, l76, l77, n78, n79, n80, n81, v82, v83) => .tup [.agg [.os 0 l70.length, .os 1 n78, .os 2 l72.length, .os 3 n79, .os 4 l74.length, .os 5 n80, .os 6 n81, .os 7 l77.length], .j v82, .j v83]) r) ((fun r => match r with | (l70, l71, l72, l73, l74, l75, l76, l77, n78, n79, n80, n81, v82, v83) => [.w 56 l70, .arr 110 l71 n78 false, .w 174 l72, .arr 90 l73 n79 false, .w 178 l74, .arr 113 l75 n80 false, .arr 88 l76 n81 false, .w 105 l77]) r) := by
 unfold palingref19_Mesh at h
 obtain ⟨r2, h3, h⟩ := bo h
 obtain ⟨h4, h⟩|⟨h4, h⟩ := ite_out h
 ·obtain rfl := oi h; exact rf Tryz.func18 (some [10, 11, 12, 13, 14, 15, 16, 17]) [.b r2, .t] (pc (k_palingref15_Right h3)<|pc h4<|pn)
 ·obtain ⟨r17, h16, h⟩ := bo h
  rcases r17 with v15 | _
  ·obtain rfl := oi h; exact rf Tryz.func18 (some [1, 2, 3, 4, 5, 6, 7, 8]) [.b r2, .f, .sum [1, 2, 3, 4, 5] [0, 9, 1, 2, 3, 4, 5, 6, 7, 8] .ret [(2, .o 0), (3, .j v15), (4, .j 36)] [b0_k_palingref19_Mesh, .n 56, .n 110, .n 174, .n 90, .n 178, .n 113, .n 88, .n 105]] (pc (k_palingref15_Right h3)<|pc h4<|pc (k_palingref19_Mesh_L1 _ _ h16)<|pn)
  ·obtain ⟨r18, h19, h⟩ := bo h
   obtain ⟨l20, l21, l22, l23⟩ := r18
   obtain ⟨l64, h65, h⟩ := bo h
   obtain ⟨r67, h68, h⟩ := bo h
   obtain ⟨h69, h⟩|⟨h69, h⟩ := ite_out h
   ·obtain rfl := oi h; exact rf Tryz.func18 (some [18, 19, 20, 21, 22, 23, 24, 25]) [.b r2, .f, .sum [1, 2, 3, 4, 5] [0, 9, 1, 2, 3, 4, 5, 6, 7, 8] (.exit 0) [(1, .o 0), (2, .o 1), (3, .z), (4, .z)] [.box 31 (c31 a1) false, .box 31 [.os 2 0, .os 3 0, .os 4 0, .os 5 0, .os 6 0, .os 7 0, .os 8 0, .os 9 0] false, .n 56, .n 110, .n 174, .n 90, .n 178, .n 113, .n 88, .n 105], .callm [] (.agg [.os 0 a1.devices.length, .os 1 a1.ports.length, .os 2 a1.links.length, .os 3 a1.domains.length, .os 4 a1.statics.length, .os 5 a1.floods.length, .os 6 a1.vrfs.length, .os 7 a1.irbs.length]) [.w 56 a1.devices, .arr 110 l20 a1.ports.length false, .w 174 a1.links, .arr 90 l21 a1.domains.length false, .w 178 a1.statics, .arr 113 l22 a1.floods.length false, .arr 88 l23 a1.vrfs.length false, .w 105 a1.irbs], .sum [1, 2, 3, 4, 6, 7] [0, 1, 2, 3, 4, 5, 6, 7, 8, 9, 26, 10, 11, 12, 13, 14, 15, 16, 17] (.exit 2) [(2, .o 0), (3, .z), (4, .z), (6, .o 9)] [b0_k_palingref19_Mesh, .n 56, .n 110, .n 174, .n 90, .n 178, .n 113, .n 88, .n 105, .box 31 [.os 10 a1.devices.length, .os 11 a1.ports.length, .os 12 a1.links.length, .os 13 a1.domains.length, .os 14 a1.statics.length, .os 15 a1.floods.length, .os 16 a1.vrfs.length, .os 17 a1.irbs.length] false, .w 56 a1.devices, .arr 110 l20 a1.ports.length false, .w 174 a1.links, .arr 90 l64 a1.domains.length false, .w 178 a1.statics, .arr 113 l22 a1.floods.length false, .arr 88 l23 a1.vrfs.length false, .w 105 a1.irbs], .b r67, .t] (pc (k_palingref15_Right h3)<|pc h4<|pc (k_palingref19_Mesh_L1 _ _ h16)<|pc (k_palingref15_Copy h19)<|pc (k_palingref19_Mesh_L2 _ _ h65)<|pc (k_palingref15_Right h68)<|pc (rn a1.devices.length)<|pc (rn a1.ports.length)<|pc (rn a1.links.length)<|pc (rn a1.domains.length)<|pc (rn a1.statics.length)<|pc (rn a1.floods.length)<|pc (rn a1.vrfs.length)<|pc (rn a1.irbs.length)<|pc h69<|pn)
   ·obtain rfl := oi h; exact rf Tryz.func18 (some [10, 11, 12, 13, 14, 15, 16, 17]) [.b r2, .f, .sum [1, 2, 3, 4, 5] [0, 9, 1, 2, 3, 4, 5, 6, 7, 8] (.exit 0) [(1, .o 0), (2, .o 1), (3, .z), (4, .z)] [.box 31 (c31 a1) false, .box 31 [.os 2 0, .os 3 0, .os 4 0, .os 5 0, .os 6 0, .os 7 0, .os 8 0, .os 9 0] false, .n 56, .n 110, .n 174, .n 90, .n 178, .n 113, .n 88, .n 105], .callm [] (.agg [.os 0 a1.devices.length, .os 1 a1.ports.length, .os 2 a1.links.length, .os 3 a1.domains.length, .os 4 a1.statics.length, .os 5 a1.floods.length, .os 6 a1.vrfs.length, .os 7 a1.irbs.length]) [.w 56 a1.devices, .arr 110 l20 a1.ports.length false, .w 174 a1.links, .arr 90 l21 a1.domains.length false, .w 178 a1.statics, .arr 113 l22 a1.floods.length false, .arr 88 l23 a1.vrfs.length false, .w 105 a1.irbs], .sum [1, 2, 3, 4, 6, 7] [0, 1, 2, 3, 4, 5, 6, 7, 8, 9, 26, 10, 11, 12, 13, 14, 15, 16, 17] (.exit 2) [(2, .o 0), (3, .z), (4, .z), (6, .o 9)] [b0_k_palingref19_Mesh, .n 56, .n 110, .n 174, .n 90, .n 178, .n 113, .n 88, .n 105, .box 31 [.os 10 a1.devices.length, .os 11 a1.ports.length, .os 12 a1.links.length, .os 13 a1.domains.length, .os 14 a1.statics.length, .os 15 a1.floods.length, .os 16 a1.vrfs.length, .os 17 a1.irbs.length] false, .w 56 a1.devices, .arr 110 l20 a1.ports.length false, .w 174 a1.links, .arr 90 l64 a1.domains.length false, .w 178 a1.statics, .arr 113 l22 a1.floods.length false, .arr 88 l23 a1.vrfs.length false, .w 105 a1.irbs], .b r67, .f] (pc (k_palingref15_Right h3)<|pc h4<|pc (k_palingref19_Mesh_L1 _ _ h16)<|pc (k_palingref15_Copy h19)<|pc (k_palingref19_Mesh_L2 _ _ h65)<|pc (k_palingref15_Right h68)<|pc (rn a1.devices.length)<|pc (rn a1.ports.length)<|pc (rn a1.links.length)<|pc (rn a1.domains.length)<|pc (rn a1.statics.length)<|pc (rn a1.floods.length)<|pc (rn a1.vrfs.length)<|pc (rn a1.irbs.length)<|pc h69<|pn)

end Go.Eng
