/- Part of the proof of BridgeSteps: printed mirrors of the functions, or their contracts. No conditions. -/
import Derived.Test.YtngflgclljfmjaaGreatMAK4
set_option linter.unusedVariables false
set_option maxRecDepth 100000
namespace Go.Eng
open Go Go.Proofs
theorem k_palingref02_size_L1 : LoopOK Tryz.prog UU 0 14 (subC (codeOf Tryz.f293) [1, 1, 0, 1, 0, 0]) (fun s : Int × Int => match s with | (v2, v3) => palingref02_size_L1 v2 v3)
    (fun s : Int × Int => (match s with | (v2, v3) => [(2, .z), (3, .j v2), (4, .j v3)] : Fr DD)) (fun s : Int × Int => (match s with | (v2, v3) => [] : Heap DD)) (fun r => match r with | v6 => .exit 0) (fun r => match r with | v6 => [(2, .z), (3, .j v6)]) (fun r => match r with | v6 => []) := by
  refine loop_sound3 (fun s q h => ?_) (fun r => ?_)
  · obtain ⟨v2, v3⟩ := s; replace h : palingref02_size_L1 v2 v3 = some q := h
    unfold palingref02_size_L1 at h
    obtain ⟨h4, h⟩|⟨h4, h⟩ := ite_out h
    · injection h with h; subst h; exact rl [2, 3, 4] [] [.t] (pc h4<|pn)
    · injection h with h; subst h; exact rl [2, 3] [] [.f] (pc h4<|pn)
  · exact Ex.noConfusion

theorem k_palingref02_size {a1 : Api_Prefix} {r : Int} (h : palingref02_size a1 = some r) :
    CallsOK Tryz.prog UU 293 [.agg (c116 a1)] [] (.j r) [] := by
  unfold palingref02_size at h
  obtain ⟨v6, h7, h⟩ := bo h
  injection h with h; subst h; exact rf Tryz.func293 none [.sum [2, 3, 4] [] (.exit 0) [(2, .z), (3, .j v6)] []] (pc (k_palingref02_size_L1 _ _ h7)<|pn)

theorem k_palingref02_First {a1 : Api_Prefix} {r : Int} (h : palingref02_First a1 = some r) :
    CallsOK Tryz.prog UU 273 [.agg (c116 a1)] [] (.v (.int .u32 r)) [] := by
  unfold palingref02_First at h
  obtain ⟨r2, h3, h⟩ := bo h
  obtain ⟨h4, h⟩|⟨h4, h⟩ := ite_out h
  · injection h with h; subst h; exact rf Tryz.func273 none [.b r2, .t] (pc (k_palingref02_Right h3)<|pc h4<|pn)
  · obtain ⟨r5, h6, h⟩ := bo h
    obtain ⟨h7, h⟩|⟨h7, h⟩ := ite_out h
    · obtain ⟨r8, h9, h⟩ := bo h
      injection h with h; subst h; exact rf Tryz.func273 none [.b r2, .f, .callv (.j r5), .callv (.j r8)] (pc (k_palingref02_Right h3)<|pc h4<|pc (k_palingref02_size h6)<|pc (ne0_ob h7)<|pc (k_palingref02_size h9)<|pn)
    · cases h

theorem k_palingref02_Last {a1 : Api_Prefix} {r : Int} (h : palingref02_Last a1 = some r) :
    CallsOK Tryz.prog UU 274 [.agg (c116 a1)] [] (.v (.int .u32 r)) [] := by
  unfold palingref02_Last at h
  obtain ⟨r2, h3, h⟩ := bo h
  obtain ⟨h4, h⟩|⟨h4, h⟩ := ite_out h
  · injection h with h; subst h; exact rf Tryz.func274 none [.b r2, .t] (pc (k_palingref02_Right h3)<|pc h4<|pn)
  · obtain ⟨r5, h6, h⟩ := bo h
    obtain ⟨r7, h8, h⟩ := bo h
    injection h with h; subst h; exact rf Tryz.func274 none [.b r2, .f, .callv (.v (.int .u32 r5)), .callv (.j r7)] (pc (k_palingref02_Right h3)<|pc h4<|pc (k_palingref02_First h6)<|pc (k_palingref02_size h8)<|pn)

theorem k_palingref02_Has {a1 : Api_Prefix} {a2 : Int} {r : Bool} (h : palingref02_Has a1 a2 = some r) :
    CallsOK Tryz.prog UU 242 [.agg (c116 a1), .v (.int .u32 a2)] [] (.v (.bool r)) [] := by
  unfold palingref02_Has at h
  obtain ⟨r3, h4, h⟩ := bo h
  obtain ⟨h5, h⟩|⟨h5, h⟩ := ite_out h
  · obtain ⟨r6, h7, h⟩ := bo h
    obtain ⟨h8, h⟩|⟨h8, h⟩ := ite_out h
    · obtain ⟨r9, h10, h⟩ := bo h
      injection h with h; subst h; exact rf Tryz.func242 none [.b r3, .t, .callv (.v (.int .u32 r6)), .t, .callv (.v (.int .u32 r9))] (pc (k_palingref02_Right h4)<|pc h5<|pc (k_palingref02_First h7)<|pc h8<|pc (k_palingref02_Last h10)<|pn)
    · injection h with h; subst h; exact rf Tryz.func242 none [.b r3, .t, .callv (.v (.int .u32 r6)), .f] (pc (k_palingref02_Right h4)<|pc h5<|pc (k_palingref02_First h7)<|pc h8<|pn)
  · injection h with h; subst h; exact rf Tryz.func242 none [.b r3, .f] (pc (k_palingref02_Right h4)<|pc h5<|pn)

theorem k_palingref20_Leaks_L1 {a1 : Api_Net} {a2 : Int} {a3 : Int} : LoopOK Tryz.prog UU 0 67 (subC (codeOf Tryz.f243) [1, 1, 1, 0, 1, 0, 0]) (ρ := Unit ⊕ Unit) (palingref20_Leaks_L1 a1 a2 a3)
    (fun v11 : Int => ([(1, .j a2), (2, .j a3), (3, .op 0 1 0 0), (6, .v (.bool false)), (7, .j v11)] : Fr DD)) (fun v11 : Int => ([.box 31 (c31 a1) false] : Heap DD)) (fun r => match r with | Sum.inl _ => .ret | Sum.inr _ => .exit 0) (fun r => match r with | Sum.inl _ => [(6, .v (.bool true))] | Sum.inr _ => [(6, .v (.bool false))]) (fun r => match r with | Sum.inl _ => [] | Sum.inr _ => []) := by
  refine loop_sound3 (fun s q h => ?_) (fun r => ?_)
  · replace h : palingref20_Leaks_L1 a1 a2 a3 s = some q := h; revert h; revert s; intro v11 h
    unfold palingref20_Leaks_L1 at h
    obtain ⟨x12, h13, h⟩ := bo h
    obtain ⟨h14, h⟩|⟨h14, h⟩ := ite_out h
    · obtain ⟨x15, h16, h⟩ := bo h
      obtain ⟨x17, h18, h⟩ := bo h
      obtain ⟨h19, h⟩|⟨h19, h⟩ := ite_out h
      · obtain ⟨x20, h21, h⟩ := bo h
        obtain ⟨x22, h23, h⟩ := bo h
        obtain ⟨x24, h25, h⟩ := bo h
        obtain ⟨r26, h27, h⟩ := bo h
        obtain ⟨h28, h⟩|⟨h28, h⟩ := ite_out h
        · injection h with h; subst h; exact rl [6] [] [.row (c103 x12), .t, .row (c103 x15), .row (c103 x17), .t, .row (c103 x20), .row (c103 x22), .row (c3 x24), .b r26, .t] (pc (ob103 h13)<|pc h14<|pc (ob103 h16)<|pc (ob103 h18)<|pc h19<|pc (ob103 h21)<|pc (ob103 h23)<|pc (ob3 h25)<|pc (k_palingref15_In h27)<|pc h28<|pn)
        · injection h with h; subst h; exact rl [1, 2, 3, 6, 7] [0] [.row (c103 x12), .t, .row (c103 x15), .row (c103 x17), .t, .row (c103 x20), .row (c103 x22), .row (c3 x24), .b r26, .f] (pc (ob103 h13)<|pc h14<|pc (ob103 h16)<|pc (ob103 h18)<|pc h19<|pc (ob103 h21)<|pc (ob103 h23)<|pc (ob3 h25)<|pc (k_palingref15_In h27)<|pc h28<|pn)
      · injection h with h; subst h; exact rl [1, 2, 3, 6, 7] [0] [.row (c103 x12), .t, .row (c103 x15), .row (c103 x17), .f] (pc (ob103 h13)<|pc h14<|pc (ob103 h16)<|pc (ob103 h18)<|pc h19<|pn)
    · injection h with h; subst h; exact rl [6] [] [.row (c103 x12), .f] (pc (ob103 h13)<|pc h14<|pn)
  · rcases r with _ | _ <;> exact Ex.noConfusion

theorem k_palingref20_Leaks {a1 : Api_Net} {a2 : Int} {a3 : Int} {r : Bool} (h : palingref20_Leaks a1 a2 a3 = some r) :
    CallsOK Tryz.prog UU 243 [.agg (c31 a1), .j a2, .j a3] [] (.v (.bool r)) [] := by
  unfold palingref20_Leaks at h
  obtain ⟨r4, h5, h⟩ := bo h
  obtain ⟨h6, h⟩|⟨h6, h⟩ := ite_out h
  · injection h with h; subst h; exact rf Tryz.func243 none [.b r4, .t] (pc (k_palingref15_Place h5)<|pc h6<|pn)
  · obtain ⟨r7, h8, h⟩ := bo h
    obtain ⟨h9, h⟩|⟨h9, h⟩ := ite_out h
    · injection h with h; subst h; exact rf Tryz.func243 none [.b r4, .f, .b r7, .t] (pc (k_palingref15_Place h5)<|pc h6<|pc (k_palingref15_Place h8)<|pc h9<|pn)
    · obtain ⟨h10, h⟩|⟨h10, h⟩ := ite_out h
      · injection h with h; subst h; exact rf Tryz.func243 none [.b r4, .f, .b r7, .f, .t] (pc (k_palingref15_Place h5)<|pc h6<|pc (k_palingref15_Place h8)<|pc h9<|pc h10<|pn)
      · obtain ⟨r30, h29, h⟩ := bo h
        rcases r30 with _ | _
        · injection h with h; subst h; exact rf Tryz.func243 none [.b r4, .f, .b r7, .f, .f, .sum [1, 2, 3, 6, 7] [0] .ret [(6, .v (.bool true))] []] (pc (k_palingref15_Place h5)<|pc h6<|pc (k_palingref15_Place h8)<|pc h9<|pc h10<|pc (k_palingref20_Leaks_L1 _ _ h29)<|pn)
        · injection h with h; subst h; exact rf Tryz.func243 none [.b r4, .f, .b r7, .f, .f, .sum [1, 2, 3, 6, 7] [0] (.exit 0) [(6, .v (.bool false))] []] (pc (k_palingref15_Place h5)<|pc h6<|pc (k_palingref15_Place h8)<|pc h9<|pc h10<|pc (k_palingref20_Leaks_L1 _ _ h29)<|pn)

theorem k_palingref30_better {a1 : Api_Net} {a2 : Int} {a3 : Int} {a4 : Int} {r : Bool} (h : palingref30_better a1 a2 a3 a4 = some r) :
    CallsOK Tryz.prog UU 244 [.agg (c31 a1), .j a2, .j a3, .j a4] [] (.v (.bool r)) [] := by
  unfold palingref30_better at h
  obtain ⟨x5, h6, h⟩ := bo h
  obtain ⟨x7, h8, h⟩ := bo h
  obtain ⟨h9, h⟩|⟨h9, h⟩ := ite_out h
  · obtain ⟨x10, h11, h⟩ := bo h
    obtain ⟨x12, h13, h⟩ := bo h
    injection h with h; subst h; exact rf Tryz.func244 none [.row (c118 x5), .row (c118 x7), .t, .row (c118 x10), .row (c118 x12)] (pc (ob118 h6)<|pc (ob118 h8)<|pc h9<|pc (ob118 h11)<|pc (ob118 h13)<|pn)
  · obtain ⟨x14, h15, h⟩ := bo h
    obtain ⟨x16, h17, h⟩ := bo h
    obtain ⟨h18, h⟩|⟨h18, h⟩ := ite_out h
    · obtain ⟨x19, h20, h⟩ := bo h
      obtain ⟨x21, h22, h⟩ := bo h
      injection h with h; subst h; exact rf Tryz.func244 none [.row (c118 x5), .row (c118 x7), .f, .row (c118 x14), .row (c118 x16), .t, .row (c118 x19), .row (c118 x21)] (pc (ob118 h6)<|pc (ob118 h8)<|pc h9<|pc (ob118 h15)<|pc (ob118 h17)<|pc h18<|pc (ob118 h20)<|pc (ob118 h22)<|pn)
    · injection h with h; subst h; exact rf Tryz.func244 none [.row (c118 x5), .row (c118 x7), .f, .row (c118 x14), .row (c118 x16), .f] (pc (ob118 h6)<|pc (ob118 h8)<|pc h9<|pc (ob118 h15)<|pc (ob118 h17)<|pc h18<|pn)

theorem k_palingref30_Lookup_L1 {a1 : Api_Net} {a2 : Int} {a3 : Int} : LoopOK Tryz.prog UU 0 78 (subC (codeOf Tryz.f192) [1, 1, 1, 0, 1, 0, 0]) (fun s : Int × Int => match s with | (v7, v8) => palingref30_Lookup_L1 a1 a2 a3 v7 v8)
    (fun s : Int × Int => (match s with | (v7, v8) => [(1, .j a2), (2, .v (.int .u32 a3)), (3, .op 0 1 0 0), (6, .z), (7, .v (.bool false)), (8, .j v7), (9, .j v8)] : Fr DD)) (fun s : Int × Int => (match s with | (v7, v8) => [.box 31 (c31 a1) false] : Heap DD)) (fun r => match r with | Sum.inl _ => .ret | Sum.inr v35 => .exit 0) (fun r => match r with | Sum.inl _ => [(6, .z), (7, .v (.bool false))] | Sum.inr v35 => [(6, .z), (7, .v (.bool false)), (8, .j v35)]) (fun r => match r with | Sum.inl _ => [] | Sum.inr v35 => []) := by
  refine loop_sound3 (fun s q h => ?_) (fun r => ?_)
  · obtain ⟨v7, v8⟩ := s; replace h : palingref30_Lookup_L1 a1 a2 a3 v7 v8 = some q := h
    unfold palingref30_Lookup_L1 at h
    obtain ⟨h9, h⟩|⟨h9, h⟩ := ite_out h
    · obtain ⟨r10, h11, h⟩ := bo h
      obtain ⟨r12, h13, h⟩ := bo h
      obtain ⟨h14, h⟩|⟨h14, h⟩ := ite_out h
      · injection h with h; subst h; exact rl [1, 2, 3, 6, 7, 8, 9] [0] [.t, .callv (.j r10), .callv (.j r12), .t] (pc h9<|pc (k_palingref30_device h11)<|pc (k_palingref30_device h13)<|pc h14<|pn)
      · obtain ⟨x15, h16, h⟩ := bo h
        obtain ⟨h17, h⟩|⟨h17, h⟩ := ite_out h
        · injection h with h; subst h; exact rl [6, 7] [] [.t, .callv (.j r10), .callv (.j r12), .f, .row (c118 x15), .t] (pc h9<|pc (k_palingref30_device h11)<|pc (k_palingref30_device h13)<|pc h14<|pc (ob118 h16)<|pc h17<|pn)
        · obtain ⟨x18, h19, h⟩ := bo h
          obtain ⟨r20, h21, h⟩ := bo h
          obtain ⟨h22, h⟩|⟨h22, h⟩ := ite_out h
          · injection h with h; subst h; exact rl [1, 2, 3, 6, 7, 8, 9] [0] [.t, .callv (.j r10), .callv (.j r12), .f, .row (c118 x15), .f, .row (c118 x18), .b r20, .t] (pc h9<|pc (k_palingref30_device h11)<|pc (k_palingref30_device h13)<|pc h14<|pc (ob118 h16)<|pc h17<|pc (ob118 h19)<|pc (k_palingref02_Has h21)<|pc h22<|pn)
          · obtain ⟨x23, h24, h⟩ := bo h
            obtain ⟨x25, h26, h⟩ := bo h
            obtain ⟨r27, h28, h⟩ := bo h
            obtain ⟨h29, h⟩|⟨h29, h⟩ := ite_out h
            · injection h with h; subst h; exact rl [1, 2, 3, 6, 7, 8, 9] [0] [.t, .callv (.j r10), .callv (.j r12), .f, .row (c118 x15), .f, .row (c118 x18), .b r20, .f, .row (c118 x23), .row (c118 x25), .b r27, .t] (pc h9<|pc (k_palingref30_device h11)<|pc (k_palingref30_device h13)<|pc h14<|pc (ob118 h16)<|pc h17<|pc (ob118 h19)<|pc (k_palingref02_Has h21)<|pc h22<|pc (ob118 h24)<|pc (ob118 h26)<|pc (k_palingref20_Leaks h28)<|pc h29<|pn)
            · obtain ⟨h30, h⟩|⟨h30, h⟩ := ite_out h
              · injection h with h; subst h; exact rl [1, 2, 3, 6, 7, 8, 9] [0] [.t, .callv (.j r10), .callv (.j r12), .f, .row (c118 x15), .f, .row (c118 x18), .b r20, .f, .row (c118 x23), .row (c118 x25), .b r27, .f, .t] (pc h9<|pc (k_palingref30_device h11)<|pc (k_palingref30_device h13)<|pc h14<|pc (ob118 h16)<|pc h17<|pc (ob118 h19)<|pc (k_palingref02_Has h21)<|pc h22<|pc (ob118 h24)<|pc (ob118 h26)<|pc (k_palingref20_Leaks h28)<|pc h29<|pc h30<|pn)
              · obtain ⟨r31, h32, h⟩ := bo h
                obtain ⟨h33, h⟩|⟨h33, h⟩ := ite_out h
                · injection h with h; subst h; exact rl [1, 2, 3, 6, 7, 8, 9] [0] [.t, .callv (.j r10), .callv (.j r12), .f, .row (c118 x15), .f, .row (c118 x18), .b r20, .f, .row (c118 x23), .row (c118 x25), .b r27, .f, .f, .b r31, .t] (pc h9<|pc (k_palingref30_device h11)<|pc (k_palingref30_device h13)<|pc h14<|pc (ob118 h16)<|pc h17<|pc (ob118 h19)<|pc (k_palingref02_Has h21)<|pc h22<|pc (ob118 h24)<|pc (ob118 h26)<|pc (k_palingref20_Leaks h28)<|pc h29<|pc h30<|pc (k_palingref30_better h32)<|pc h33<|pn)
                · injection h with h; subst h; exact rl [1, 2, 3, 6, 7, 8, 9] [0] [.t, .callv (.j r10), .callv (.j r12), .f, .row (c118 x15), .f, .row (c118 x18), .b r20, .f, .row (c118 x23), .row (c118 x25), .b r27, .f, .f, .b r31, .f] (pc h9<|pc (k_palingref30_device h11)<|pc (k_palingref30_device h13)<|pc h14<|pc (ob118 h16)<|pc h17<|pc (ob118 h19)<|pc (k_palingref02_Has h21)<|pc h22<|pc (ob118 h24)<|pc (ob118 h26)<|pc (k_palingref20_Leaks h28)<|pc h29<|pc h30<|pc (k_palingref30_better h32)<|pc h33<|pn)
    · injection h with h; subst h; exact rl [6, 7, 8] [] [.f] (pc h9<|pn)
  · rcases r with _ | _ <;> exact Ex.noConfusion

theorem k_palingref30_Lookup {a1 : Api_Net} {a2 : Int} {a3 : Int} {r : Int × Bool} (h : palingref30_Lookup a1 a2 a3 = some r) :
    CallsOK Tryz.prog UU 192 [.agg (c31 a1), .j a2, .v (.int .u32 a3)] [] (.tup [.v (.int .i64 r.1), .v (.bool r.2)]) [] := by
  unfold palingref30_Lookup at h
  obtain ⟨r4, h5, h⟩ := bo h
  obtain ⟨h6, h⟩|⟨h6, h⟩ := ite_out h
  · injection h with h; subst h; exact rf Tryz.func192 none [.b r4, .t] (pc (k_palingref15_Place h5)<|pc h6<|pn)
  · obtain ⟨r37, h36, h⟩ := bo h
    rcases r37 with _ | v35
    · injection h with h; subst h; exact rf Tryz.func192 none [.b r4, .f, .sum [1, 2, 3, 6, 7, 8, 9] [0] .ret [(6, .z), (7, .v (.bool false))] []] (pc (k_palingref15_Place h5)<|pc h6<|pc (k_palingref30_Lookup_L1 _ _ h36)<|pn)
    · obtain ⟨h38, h⟩|⟨h38, h⟩ := ite_out h
      · injection h with h; subst h; exact rf Tryz.func192 none [.b r4, .f, .sum [1, 2, 3, 6, 7, 8, 9] [0] (.exit 0) [(6, .z), (7, .v (.bool false)), (8, .j v35)] [], .t] (pc (k_palingref15_Place h5)<|pc h6<|pc (k_palingref30_Lookup_L1 _ _ h36)<|pc h38<|pn)
      · injection h with h; subst h; exact rf Tryz.func192 none [.b r4, .f, .sum [1, 2, 3, 6, 7, 8, 9] [0] (.exit 0) [(6, .z), (7, .v (.bool false)), (8, .j v35)] [], .f] (pc (k_palingref15_Place h5)<|pc h6<|pc (k_palingref30_Lookup_L1 _ _ h36)<|pc h38<|pn)

theorem k_palingref07_out {a1 : Int} {a2 : Int} {r : Bool} (h : palingref07_out a1 a2 = some r) :
    CallsOK Tryz.prog UU 245 [.j a1, .j a2] [] (.v (.bool r)) [] := by
  unfold palingref07_out at h
  obtain ⟨h3, h⟩|⟨h3, h⟩ := ite_out h
  · injection h with h; subst h; exact rf Tryz.func245 none [.t] (pc h3<|pn)
  · injection h with h; subst h; exact rf Tryz.func245 none [.f] (pc h3<|pn)

theorem k_palingref07_bytes_L1 {a2 : Int} : LoopOK Tryz.prog UU 0 26 (subC (codeOf Tryz.f246) [1, 1, 0, 1, 0, 0]) (fun s : (List Int) × Int × Int => match s with | (l4, v5, v6) => palingref07_bytes_L1 a2 l4 v5 v6)
    (fun s : (List Int) × Int × Int => (match s with | (l4, v5, v6) => [(0, .j v5), (1, .j a2), (4, .os 0 0), (5, .os 1 a2.toNat), (6, .j v6)] : Fr DD)) (fun s : (List Int) × Int × Int => (match s with | (l4, v5, v6) => [.n 5, .arr 5 l4 a2.toNat false] : Heap DD)) (fun r => match r with | l13 => .exit 0) (fun r => match r with | l13 => [(4, .os 0 0), (5, .os 1 a2.toNat)]) (fun r => match r with | l13 => [.n 5, .arr 5 l13 a2.toNat false]) := by
  refine loop_sound3 (fun s q h => ?_) (fun r => ?_)
  · obtain ⟨l4, v5, v6⟩ := s; replace h : palingref07_bytes_L1 a2 l4 v5 v6 = some q := h
    unfold palingref07_bytes_L1 at h
    obtain ⟨h7, h⟩|⟨h7, h⟩ := ite_out h
    · obtain ⟨h8, h⟩|⟨h8, h⟩ := ite_out h
      · obtain ⟨x9, h10, h⟩ := bo h
        injection h with h; subst h; exact rl [0, 1, 4, 5, 6] [0, 1] [.t, .row (c5 x9), .obj [] (.arr 5 (List.set l4 (Int.toNat (wr_i64 ((wr_i64 (a2 - 1)) - v6))) (wr_u8 (Int.tmod v5 256) : Int)) a2.toNat false)] (pc h7<|pc ((show (256 : Int) ≠ 0 from by decide))<|pc (an a2.toNat (lin_ob h8))<|pc (st_ob (e := 5) (n := a2.toNat) (l := l4) (i := (Int.toNat (wr_i64 ((wr_i64 (a2 - 1)) - v6)))) (wr_u8 (Int.tmod v5 256) : Int) [.v (.int .u8 (wr_u8 (Int.tmod v5 256)))] (obn5 h10) rfl)<|pc ((show (256 : Int) ≠ 0 from by decide))<|pn)
      · cases h
    · injection h with h; subst h; exact rl [4, 5] [0, 1] [.f] (pc h7<|pn)
  · exact Ex.noConfusion

theorem k_palingref07_bytes {a1 : Int} {a2 : Int} {r : ((List Int))} (h : palingref07_bytes a1 a2 = some r) :
    CallsOK Tryz.prog UU 246 [.j a1, .j a2] [] ((fun r => match r with | l16 => .os 0 a2.toNat) r) ((fun r => match r with | l16 => [.arr 5 l16 a2.toNat false]) r) := by
  unfold palingref07_bytes at h
  obtain ⟨h3, h⟩|⟨h3, h⟩ := ite_out h
  · obtain ⟨l13, h14, h⟩ := bo h
    injection h with h; subst h; exact rf Tryz.func246 (some [1]) [.obj [] (.arr 5 (List.replicate a2.toNat (0 : Int)) a2.toNat false), .sum [0, 1, 4, 5, 6] [0, 1] (.exit 0) [(4, .os 0 0), (5, .os 1 a2.toNat)] [.n 5, .arr 5 l13 a2.toNat false]] (pc (mk_ob 5 (0 : Int) h3)<|pc (rn a2.toNat)<|pc (k_palingref07_bytes_L1 _ _ h14)<|pn)
  · cases h

theorem k_palingref06_Of {a1 : List Int} {r : Int} (h : palingref06_Of a1 = some r) :
    CallsOK Tryz.prog UU 247 [.sl 5 a1] [] (.j r) [] := by
  unfold palingref06_Of at h
  obtain ⟨r2, h3, h⟩ := bo h
  injection h with h; subst h; exact rf Tryz.func247 none [.callv (.j r2)] (pc (k_palingref06_Sum h3)<|pn)

theorem k_palingref07_Put {a1 : Api_Packet} {r : ((List Int) × Int)} (h : palingref07_Put a1 = some r) :
    CallsOK Tryz.prog UU 193 [.agg (c224 a1)] [] ((fun r => match r with | (l40, v41) => .tup [.os 0 l40.length, .j v41]) r) ((fun r => match r with | (l40, v41) => [.arr 5 l40 l40.length false]) r) := by
  unfold palingref07_Put at h
  obtain ⟨r2, h3, h⟩ := bo h
  obtain ⟨h4, h⟩|⟨h4, h⟩ := ite_out h
  · injection h with h; subst h; exact rf Tryz.func193 (some [2]) [.b r2, .t] (pc (k_palingref07_out h3)<|pc h4<|pn)
  · obtain ⟨r5, h6, h⟩ := bo h
    obtain ⟨h7, h⟩|⟨h7, h⟩ := ite_out h
    · injection h with h; subst h; exact rf Tryz.func193 (some [2]) [.b r2, .f, .b r5, .t] (pc (k_palingref07_out h3)<|pc h4<|pc (k_palingref07_out h6)<|pc h7<|pn)
    · obtain ⟨r8, h9, h⟩ := bo h
      obtain ⟨h10, h⟩|⟨h10, h⟩ := ite_out h
      · injection h with h; subst h; exact rf Tryz.func193 (some [2]) [.b r2, .f, .b r5, .f, .b r8, .t] (pc (k_palingref07_out h3)<|pc h4<|pc (k_palingref07_out h6)<|pc h7<|pc (k_palingref07_out h9)<|pc h10<|pn)
      · obtain ⟨r11, h12, h⟩ := bo h
        obtain ⟨h13, h⟩|⟨h13, h⟩ := ite_out h
        · injection h with h; subst h; exact rf Tryz.func193 (some [2]) [.b r2, .f, .b r5, .f, .b r8, .f, .b r11, .t] (pc (k_palingref07_out h3)<|pc h4<|pc (k_palingref07_out h6)<|pc h7<|pc (k_palingref07_out h9)<|pc h10<|pc (k_palingref07_out h12)<|pc h13<|pn)
        · obtain ⟨h14, h⟩|⟨h14, h⟩ := ite_out h
          · injection h with h; subst h; exact rf Tryz.func193 (some [2]) [.b r2, .f, .b r5, .f, .b r8, .f, .b r11, .f, .t] (pc (k_palingref07_out h3)<|pc h4<|pc (k_palingref07_out h6)<|pc h7<|pc (k_palingref07_out h9)<|pc h10<|pc (k_palingref07_out h12)<|pc h13<|pc h14<|pn)
          · obtain ⟨l17, h16, h⟩ := bo h
            obtain ⟨h18, h⟩|⟨h18, h⟩ := ite_out h
            · obtain ⟨l21, h20, h⟩ := bo h
              obtain ⟨h22, h⟩|⟨h22, h⟩ := ite_out h
              · obtain ⟨h23, h⟩|⟨h23, h⟩ := ite_out h
                · obtain ⟨l26, h25, h⟩ := bo h
                  obtain ⟨l29, h28, h⟩ := bo h
                  obtain ⟨h30, h⟩|⟨h30, h⟩ := ite_out h
                  · obtain ⟨h31, h⟩|⟨h31, h⟩ := ite_out h
                    · obtain ⟨r32, h33, h⟩ := bo h
                      obtain ⟨l36, h35, h⟩ := bo h
                      obtain ⟨h37, h⟩|⟨h37, h⟩ := ite_out h
                      · obtain ⟨h38, h⟩|⟨h38, h⟩ := ite_out h
                        · obtain ⟨h39, h⟩|⟨h39, h⟩ := ite_out h
                          · injection h with h; subst h; exact rf Tryz.func193 (some [2]) [.b r2, .f, .b r5, .f, .b r8, .f, .b r11, .f, .f, .obj [] (.arr 5 [(69 : Int), (wr_u8 a1.tos : Int)] (List.length [(69 : Int), (wr_u8 a1.tos : Int)]) false), .callo (.os 0 (Int.toNat 2)) [.arr 5 l17 (Int.toNat 2) false], .obj [] (.arr 5 ([(69 : Int), (wr_u8 a1.tos : Int)] ++ l17) (List.length ([(69 : Int), (wr_u8 a1.tos : Int)] ++ l17)) false), .callo (.os 0 (Int.toNat 2)) [.arr 5 l21 (Int.toNat 2) false], .obj [] (.arr 5 (([(69 : Int), (wr_u8 a1.tos : Int)] ++ l17) ++ l21) (List.length (([(69 : Int), (wr_u8 a1.tos : Int)] ++ l17) ++ l21)) false), .obj [] (.arr 5 [(0 : Int), (0 : Int), (wr_u8 a1.ttl : Int), (wr_u8 a1.proto : Int)] (List.length [(0 : Int), (0 : Int), (wr_u8 a1.ttl : Int), (wr_u8 a1.proto : Int)]) false), .obj [] (.arr 5 ((([(69 : Int), (wr_u8 a1.tos : Int)] ++ l17) ++ l21) ++ [(0 : Int), (0 : Int), (wr_u8 a1.ttl : Int), (wr_u8 a1.proto : Int)]) (List.length ((([(69 : Int), (wr_u8 a1.tos : Int)] ++ l17) ++ l21) ++ [(0 : Int), (0 : Int), (wr_u8 a1.ttl : Int), (wr_u8 a1.proto : Int)])) false), .sum [3] [] .nor [] [.box 224 (c224 a1) false, .n 5, .arr 5 ((([(69 : Int), (wr_u8 a1.tos : Int)] ++ l17) ++ l21) ++ [(0 : Int), (0 : Int), (wr_u8 a1.ttl : Int), (wr_u8 a1.proto : Int)]) (List.length ((([(69 : Int), (wr_u8 a1.tos : Int)] ++ l17) ++ l21) ++ [(0 : Int), (0 : Int), (wr_u8 a1.ttl : Int), (wr_u8 a1.proto : Int)])) false, .arr 5 l17 (Int.toNat 2) false, .arr 5 l21 (Int.toNat 2) false, .arr 5 [(0 : Int), (0 : Int), (wr_u8 a1.ttl : Int), (wr_u8 a1.proto : Int)] (List.length [(0 : Int), (0 : Int), (wr_u8 a1.ttl : Int), (wr_u8 a1.proto : Int)]) false, .arr 5 l26 (Int.toNat 4) false], .callo (.os 0 (Int.toNat 4)) [.arr 5 l26 (Int.toNat 4) false], .callo (.os 0 (Int.toNat 4)) [.arr 5 l29 (Int.toNat 4) false], .obj [] (.arr 5 (l26 ++ l29) (List.length (l26 ++ l29)) false), .obj [] (.n 5), .obj [] (.arr 5 ((([(69 : Int), (wr_u8 a1.tos : Int)] ++ l17) ++ l21) ++ [(0 : Int), (0 : Int), (wr_u8 a1.ttl : Int), (wr_u8 a1.proto : Int)]) (List.length ((([(69 : Int), (wr_u8 a1.tos : Int)] ++ l17) ++ l21) ++ [(0 : Int), (0 : Int), (wr_u8 a1.ttl : Int), (wr_u8 a1.proto : Int)])) false), .obj [] (.arr 5 (((([(69 : Int), (wr_u8 a1.tos : Int)] ++ l17) ++ l21) ++ [(0 : Int), (0 : Int), (wr_u8 a1.ttl : Int), (wr_u8 a1.proto : Int)]) ++ (l26 ++ l29)) (List.length (((([(69 : Int), (wr_u8 a1.tos : Int)] ++ l17) ++ l21) ++ [(0 : Int), (0 : Int), (wr_u8 a1.ttl : Int), (wr_u8 a1.proto : Int)]) ++ (l26 ++ l29))) false), .callv (.j r32), .callo (.os 0 (Int.toNat 2)) [.arr 5 l36 (Int.toNat 2) false], .obj [] (.arr 5 (((([(69 : Int), (wr_u8 a1.tos : Int)] ++ l17) ++ l21) ++ [(0 : Int), (0 : Int), (wr_u8 a1.ttl : Int), (wr_u8 a1.proto : Int)]) ++ l36) (List.length (((([(69 : Int), (wr_u8 a1.tos : Int)] ++ l17) ++ l21) ++ [(0 : Int), (0 : Int), (wr_u8 a1.ttl : Int), (wr_u8 a1.proto : Int)]) ++ l36)) false), .obj [] (.arr 5 ((((([(69 : Int), (wr_u8 a1.tos : Int)] ++ l17) ++ l21) ++ [(0 : Int), (0 : Int), (wr_u8 a1.ttl : Int), (wr_u8 a1.proto : Int)]) ++ l36) ++ (l26 ++ l29)) (List.length ((((([(69 : Int), (wr_u8 a1.tos : Int)] ++ l17) ++ l21) ++ [(0 : Int), (0 : Int), (wr_u8 a1.ttl : Int), (wr_u8 a1.proto : Int)]) ++ l36) ++ (l26 ++ l29))) false), .obj [] (.arr 5 (((((([(69 : Int), (wr_u8 a1.tos : Int)] ++ l17) ++ l21) ++ [(0 : Int), (0 : Int), (wr_u8 a1.ttl : Int), (wr_u8 a1.proto : Int)]) ++ l36) ++ (l26 ++ l29)) ++ a1.body) (List.length (((((([(69 : Int), (wr_u8 a1.tos : Int)] ++ l17) ++ l21) ++ [(0 : Int), (0 : Int), (wr_u8 a1.ttl : Int), (wr_u8 a1.proto : Int)]) ++ l36) ++ (l26 ++ l29)) ++ a1.body)) false)] (pc (k_palingref07_out h3)<|pc h4<|pc (k_palingref07_out h6)<|pc h7<|pc (k_palingref07_out h9)<|pc h10<|pc (k_palingref07_out h12)<|pc h13<|pc h14<|pc (bs_ob 5 [(69 : Int), (wr_u8 a1.tos : Int)])<|pc (k_palingref07_bytes h16)<|pc (im5 l17)<|pc (app_ob 5 (n := (List.length [(69 : Int), (wr_u8 a1.tos : Int)])) (l := [(69 : Int), (wr_u8 a1.tos : Int)]) (xs := l17) h18)<|pc ((rn (Int.toNat 2)))<|pc (k_palingref07_bytes h20)<|pc (im5 l21)<|pc (app_ob 5 (n := (List.length ([(69 : Int), (wr_u8 a1.tos : Int)] ++ l17))) (l := [(69 : Int), (wr_u8 a1.tos : Int)] ++ l17) (xs := l21) h22)<|pc ((rn (Int.toNat 2)))<|pc (bs_ob 5 [(0 : Int), (0 : Int), (wr_u8 a1.ttl : Int), (wr_u8 a1.proto : Int)])<|pc (app_ob 5 (n := (List.length (([(69 : Int), (wr_u8 a1.tos : Int)] ++ l17) ++ l21))) (l := ([(69 : Int), (wr_u8 a1.tos : Int)] ++ l17) ++ l21) (xs := [(0 : Int), (0 : Int), (wr_u8 a1.ttl : Int), (wr_u8 a1.proto : Int)]) h23)<|pc ((rn (List.length [(0 : Int), (0 : Int), (wr_u8 a1.ttl : Int), (wr_u8 a1.proto : Int)])))<|pc ((rfl : ([.box 224 (c224 a1) false, .n 5, .arr 5 ((([(69 : Int), (wr_u8 a1.tos : Int)] ++ l17) ++ l21) ++ [(0 : Int), (0 : Int), (wr_u8 a1.ttl : Int), (wr_u8 a1.proto : Int)]) (List.length ((([(69 : Int), (wr_u8 a1.tos : Int)] ++ l17) ++ l21) ++ [(0 : Int), (0 : Int), (wr_u8 a1.ttl : Int), (wr_u8 a1.proto : Int)])) false, .arr 5 l17 (Int.toNat 2) false, .arr 5 l21 (Int.toNat 2) false, .arr 5 [(0 : Int), (0 : Int), (wr_u8 a1.ttl : Int), (wr_u8 a1.proto : Int)] (List.length [(0 : Int), (0 : Int), (wr_u8 a1.ttl : Int), (wr_u8 a1.proto : Int)]) false, .arr 5 l26 (Int.toNat 4) false] : Heap DD) = [.box 224 (c224 a1) false, .n 5, .arr 5 ((([(69 : Int), (wr_u8 a1.tos : Int)] ++ l17) ++ l21) ++ [(0 : Int), (0 : Int), (wr_u8 a1.ttl : Int), (wr_u8 a1.proto : Int)]) (List.length ((([(69 : Int), (wr_u8 a1.tos : Int)] ++ l17) ++ l21) ++ [(0 : Int), (0 : Int), (wr_u8 a1.ttl : Int), (wr_u8 a1.proto : Int)])) false, .arr 5 l17 (Int.toNat 2) false, .arr 5 l21 (Int.toNat 2) false, .arr 5 [(0 : Int), (0 : Int), (wr_u8 a1.ttl : Int), (wr_u8 a1.proto : Int)] (List.length [(0 : Int), (0 : Int), (wr_u8 a1.ttl : Int), (wr_u8 a1.proto : Int)]) false, .arr 5 l26 (Int.toNat 4) false]))<|pc (k_palingref07_bytes h25)<|pc (im5 l26)<|pc ((rfl : (.op 0 1 0 5 : AV DD) = .op 0 1 0 5))<|pc ((rfl : (.v (.int .u32 a1.dst) : AV DD) = .v (.int .u32 a1.dst)))<|pc ((rfl : (.j (wr_i64 a1.dst) : AV DD) = .j (wr_i64 a1.dst)))<|pc (k_palingref07_bytes h28)<|pc (im5 l29)<|pc (app_ob 5 (n := (Int.toNat 4)) (l := l26) (xs := l29) h30)<|pc ((rn (Int.toNat 4)))<|pc (bs_ob 5 [])<|pc (app_ob 5 (n := 0) (l := []) (xs := (([(69 : Int), (wr_u8 a1.tos : Int)] ++ l17) ++ l21) ++ [(0 : Int), (0 : Int), (wr_u8 a1.ttl : Int), (wr_u8 a1.proto : Int)]) h23)<|pc ((rn (List.length ((([(69 : Int), (wr_u8 a1.tos : Int)] ++ l17) ++ l21) ++ [(0 : Int), (0 : Int), (wr_u8 a1.ttl : Int), (wr_u8 a1.proto : Int)]))))<|pc (app_ob 5 (n := (List.length ((([(69 : Int), (wr_u8 a1.tos : Int)] ++ l17) ++ l21) ++ [(0 : Int), (0 : Int), (wr_u8 a1.ttl : Int), (wr_u8 a1.proto : Int)]))) (l := (([(69 : Int), (wr_u8 a1.tos : Int)] ++ l17) ++ l21) ++ [(0 : Int), (0 : Int), (wr_u8 a1.ttl : Int), (wr_u8 a1.proto : Int)]) (xs := l26 ++ l29) h31)<|pc ((rn (List.length (l26 ++ l29))))<|pc (k_palingref06_Of h33)<|pc ((rn (List.length (((([(69 : Int), (wr_u8 a1.tos : Int)] ++ l17) ++ l21) ++ [(0 : Int), (0 : Int), (wr_u8 a1.ttl : Int), (wr_u8 a1.proto : Int)]) ++ (l26 ++ l29)))))<|pc (k_palingref07_bytes h35)<|pc (im5 l36)<|pc (app_ob 5 (n := (List.length ((([(69 : Int), (wr_u8 a1.tos : Int)] ++ l17) ++ l21) ++ [(0 : Int), (0 : Int), (wr_u8 a1.ttl : Int), (wr_u8 a1.proto : Int)]))) (l := (([(69 : Int), (wr_u8 a1.tos : Int)] ++ l17) ++ l21) ++ [(0 : Int), (0 : Int), (wr_u8 a1.ttl : Int), (wr_u8 a1.proto : Int)]) (xs := l36) h37)<|pc ((rn (Int.toNat 2)))<|pc (app_ob 5 (n := (List.length (((([(69 : Int), (wr_u8 a1.tos : Int)] ++ l17) ++ l21) ++ [(0 : Int), (0 : Int), (wr_u8 a1.ttl : Int), (wr_u8 a1.proto : Int)]) ++ l36))) (l := ((([(69 : Int), (wr_u8 a1.tos : Int)] ++ l17) ++ l21) ++ [(0 : Int), (0 : Int), (wr_u8 a1.ttl : Int), (wr_u8 a1.proto : Int)]) ++ l36) (xs := l26 ++ l29) h38)<|pc ((rn (List.length (l26 ++ l29))))<|pc (app_ob 5 (n := (List.length ((((([(69 : Int), (wr_u8 a1.tos : Int)] ++ l17) ++ l21) ++ [(0 : Int), (0 : Int), (wr_u8 a1.ttl : Int), (wr_u8 a1.proto : Int)]) ++ l36) ++ (l26 ++ l29)))) (l := (((([(69 : Int), (wr_u8 a1.tos : Int)] ++ l17) ++ l21) ++ [(0 : Int), (0 : Int), (wr_u8 a1.ttl : Int), (wr_u8 a1.proto : Int)]) ++ l36) ++ (l26 ++ l29)) (xs := a1.body) h39)<|pn)
                          · cases h
                        · cases h
                      · cases h
                    · cases h
                  · cases h
                · cases h
              · cases h
            · cases h

theorem k_palingref30_Hop {a1 : Api_Net} {a2 : Int} {a3 : Api_Frame} {r : ((List Int) × Int × Int × Int × Int × Int)} (h : palingref30_Hop a1 a2 a3 = some r) :
    CallsOK Tryz.prog UU 116 [.agg (c31 a1), .j a2, .agg (c62 a3)] [] ((fun r => match r with | (l41, v42, v43, v44, v45, v46) => .tup [.j v42, .agg [.v (.int .u64 v43), .v (.int .u64 v44), .j v45, .os 0 l41.length], .j v46]) r) ((fun r => match r with | (l41, v42, v43, v44, v45, v46) => [.arr 5 l41 l41.length false]) r) := by
  unfold palingref30_Hop at h
  obtain ⟨r4, h5, h⟩ := bo h
  obtain ⟨h6, h⟩|⟨h6, h⟩ := ite_out h
  · injection h with h; subst h; exact rf Tryz.func116 (some [4]) [.b r4, .t] (pc (k_palingref15_Right h5)<|pc h6<|pn)
  · obtain ⟨r7, h8, h⟩ := bo h
    obtain ⟨h9, h⟩|⟨h9, h⟩ := ite_out h
    · injection h with h; subst h; exact rf Tryz.func116 (some [4]) [.b r4, .f, .b r7, .t] (pc (k_palingref15_Right h5)<|pc h6<|pc (k_palingref15_Place h8)<|pc h9<|pn)
    · obtain ⟨h10, h⟩|⟨h10, h⟩ := ite_out h
      · injection h with h; subst h; exact rf Tryz.func116 (some [4]) [.b r4, .f, .b r7, .f, .t] (pc (k_palingref15_Right h5)<|pc h6<|pc (k_palingref15_Place h8)<|pc h9<|pc h10<|pn)
      · obtain ⟨r11, h12, h⟩ := bo h
        obtain ⟨l13, v14, v15, v16, v17, v18, v19, v20⟩ := r11
        obtain ⟨h21, h⟩|⟨h21, h⟩ := ite_out h
        · injection h with h; subst h; exact rf Tryz.func116 (some [7]) [.b r4, .f, .b r7, .f, .f, .callo (.tup [.agg [.j v14, .j v15, .j v16, .j v17, .v (.int .u32 v18), .v (.int .u32 v19), .os 0 l13.length], .j v20]) [.arr 5 l13 l13.length false], .t] (pc (k_palingref15_Right h5)<|pc h6<|pc (k_palingref15_Place h8)<|pc h9<|pc h10<|pc (k_palingref07_Take h12)<|pc (im5 l13)<|pc h21<|pn)
        · obtain ⟨r22, h23, h⟩ := bo h
          obtain ⟨r24, r25⟩ := r22
          obtain ⟨h26, h⟩|⟨h26, h⟩ := ite_out h
          · injection h with h; subst h; exact rf Tryz.func116 (some [9]) [.b r4, .f, .b r7, .f, .f, .callo (.tup [.agg [.j v14, .j v15, .j v16, .j v17, .v (.int .u32 v18), .v (.int .u32 v19), .os 0 l13.length], .j v20]) [.arr 5 l13 l13.length false], .f, .frz [4], .callm [] (.tup [.agg (c224 r24), .j r25]) [], .t] (pc (k_palingref15_Right h5)<|pc h6<|pc (k_palingref15_Place h8)<|pc h9<|pc h10<|pc (k_palingref07_Take h12)<|pc (im5 l13)<|pc h21<|pc (rn l13.length)<|pc (k_palingref07_Hop h23)<|pc h26<|pn)
          · obtain ⟨r27, h28, h⟩ := bo h
            obtain ⟨h29, h⟩|⟨h29, h⟩ := ite_out h
            · injection h with h; subst h; exact rf Tryz.func116 (some [9]) [.b r4, .f, .b r7, .f, .f, .callo (.tup [.agg [.j v14, .j v15, .j v16, .j v17, .v (.int .u32 v18), .v (.int .u32 v19), .os 0 l13.length], .j v20]) [.arr 5 l13 l13.length false], .f, .frz [4], .callm [] (.tup [.agg (c224 r24), .j r25]) [], .f, .callv (.tup [.v (.int .i64 r27.1), .v (.bool r27.2)]), .t] (pc (k_palingref15_Right h5)<|pc h6<|pc (k_palingref15_Place h8)<|pc h9<|pc h10<|pc (k_palingref07_Take h12)<|pc (im5 l13)<|pc h21<|pc (rn l13.length)<|pc (k_palingref07_Hop h23)<|pc h26<|pc (k_palingref30_Lookup h28)<|pc h29<|pn)
            · obtain ⟨r30, h31, h⟩ := bo h
              obtain ⟨l32, v33⟩ := r30
              obtain ⟨h34, h⟩|⟨h34, h⟩ := ite_out h
              · injection h with h; subst h; exact rf Tryz.func116 (some [10]) [.b r4, .f, .b r7, .f, .f, .callo (.tup [.agg [.j v14, .j v15, .j v16, .j v17, .v (.int .u32 v18), .v (.int .u32 v19), .os 0 l13.length], .j v20]) [.arr 5 l13 l13.length false], .f, .frz [4], .callm [] (.tup [.agg (c224 r24), .j r25]) [], .f, .callv (.tup [.v (.int .i64 r27.1), .v (.bool r27.2)]), .f, .callo (.tup [.os 0 l32.length, .j v33]) [.arr 5 l32 l32.length false], .t] (pc (k_palingref15_Right h5)<|pc h6<|pc (k_palingref15_Place h8)<|pc h9<|pc h10<|pc (k_palingref07_Take h12)<|pc (im5 l13)<|pc h21<|pc (rn l13.length)<|pc (k_palingref07_Hop h23)<|pc h26<|pc (k_palingref30_Lookup h28)<|pc h29<|pc (k_palingref07_Put h31)<|pc (im5 l32)<|pc h34<|pn)
              · obtain ⟨x35, h36, h⟩ := bo h
                obtain ⟨r37, h38, h⟩ := bo h
                obtain ⟨r39, h40, h⟩ := bo h
                injection h with h; subst h; exact rf Tryz.func116 (some [9]) [.b r4, .f, .b r7, .f, .f, .callo (.tup [.agg [.j v14, .j v15, .j v16, .j v17, .v (.int .u32 v18), .v (.int .u32 v19), .os 0 l13.length], .j v20]) [.arr 5 l13 l13.length false], .f, .frz [4], .callm [] (.tup [.agg (c224 r24), .j r25]) [], .f, .callv (.tup [.v (.int .i64 r27.1), .v (.bool r27.2)]), .f, .callo (.tup [.os 0 l32.length, .j v33]) [.arr 5 l32 l32.length false], .f, .row (c118 x35), .callv (.v (.int .u64 r37)), .callv (.v (.int .u64 r39))] (pc (k_palingref15_Right h5)<|pc h6<|pc (k_palingref15_Place h8)<|pc h9<|pc h10<|pc (k_palingref07_Take h12)<|pc (im5 l13)<|pc h21<|pc (rn l13.length)<|pc (k_palingref07_Hop h23)<|pc h26<|pc (k_palingref30_Lookup h28)<|pc h29<|pc (k_palingref07_Put h31)<|pc (im5 l32)<|pc h34<|pc (ob118 h36)<|pc (k_palingref01_Host h38)<|pc (k_palingref01_Host h40)<|pn)

theorem k_palingref18_Lookup_L1 {a1 : Api_Net} {a2 : Int} {a3 : Int} : LoopOK Tryz.prog UU 0 39 (subC (codeOf Tryz.f20) [1, 0, 1, 0, 0]) (ρ := Int ⊕ Unit) (palingref18_Lookup_L1 a1 a2 a3)
    (fun v4 : Int => ([(1, .j a2), (2, .v (.int .u64 a3)), (3, .op 0 1 0 0), (6, .z), (7, .j v4)] : Fr DD)) (fun v4 : Int => ([.box 31 (c31 a1) false] : Heap DD)) (fun r => match r with | Sum.inl v15 => .ret | Sum.inr _ => .exit 0) (fun r => match r with | Sum.inl v15 => [(6, .j v15)] | Sum.inr _ => [(6, .z)]) (fun r => match r with | Sum.inl v15 => [] | Sum.inr _ => []) := by
  refine loop_sound3 (fun s q h => ?_) (fun r => ?_)
  · replace h : palingref18_Lookup_L1 a1 a2 a3 s = some q := h; revert h; revert s; intro v4 h
    unfold palingref18_Lookup_L1 at h
    obtain ⟨h5, h⟩|⟨h5, h⟩ := ite_out h
    · obtain ⟨x6, h7, h⟩ := bo h
      obtain ⟨h8, h⟩|⟨h8, h⟩ := ite_out h
      · obtain ⟨x9, h10, h⟩ := bo h
        obtain ⟨h11, h⟩|⟨h11, h⟩ := ite_out h
        · obtain ⟨x12, h13, h⟩ := bo h
          injection h with h; subst h; exact rl [6] [] [.t, .row (c97 x6), .t, .row (c97 x9), .t, .row (c97 x12)] (pc h5<|pc (ob97 h7)<|pc h8<|pc (ob97 h10)<|pc h11<|pc (ob97 h13)<|pn)
        · injection h with h; subst h; exact rl [1, 2, 3, 6, 7] [0] [.t, .row (c97 x6), .t, .row (c97 x9), .f] (pc h5<|pc (ob97 h7)<|pc h8<|pc (ob97 h10)<|pc h11<|pn)
      · injection h with h; subst h; exact rl [1, 2, 3, 6, 7] [0] [.t, .row (c97 x6), .f] (pc h5<|pc (ob97 h7)<|pc h8<|pn)
    · injection h with h; subst h; exact rl [6] [] [.f] (pc h5<|pn)
  · rcases r with _ | _ <;> exact Ex.noConfusion

theorem k_palingref18_Lookup {a1 : Api_Net} {a2 : Int} {a3 : Int} {r : Int} (h : palingref18_Lookup a1 a2 a3 = some r) :
    CallsOK Tryz.prog UU 20 [.agg (c31 a1), .j a2, .v (.int .u64 a3)] [] (.j r) [] := by
  unfold palingref18_Lookup at h
  obtain ⟨r17, h16, h⟩ := bo h
  rcases r17 with v15 | _
  · injection h with h; subst h; exact rf Tryz.func20 none [.sum [1, 2, 3, 6, 7] [0] .ret [(6, .j v15)] []] (pc (k_palingref18_Lookup_L1 _ _ h16)<|pn)
  · injection h with h; subst h; exact rf Tryz.func20 none [.sum [1, 2, 3, 6, 7] [0] (.exit 0) [(6, .z)] []] (pc (k_palingref18_Lookup_L1 _ _ h16)<|pn)

theorem k_palingref29_one {a1 : Api_Net} {a2 : List Bool} {a3 : Int} {a4 : Int} {r : ((List Int))} (h : palingref29_one a1 a2 a3 a4 = some r) :
    CallsOK Tryz.prog UU 195 [.agg (c31 a1), .sl 4 a2, .j a3, .j a4] [] ((fun r => match r with | l9 => .os 0 l9.length) r) ((fun r => match r with | l9 => [.arr 3 l9 l9.length false]) r) := by
  unfold palingref29_one at h
  obtain ⟨h5, h⟩|⟨h5, h⟩ := ite_out h
  · injection h with h; subst h; exact rf Tryz.func195 (some [2]) [.t] (pc h5<|pn)
  · obtain ⟨r6, h7, h⟩ := bo h
    obtain ⟨h8, h⟩|⟨h8, h⟩ := ite_out h
    · injection h with h; subst h; exact rf Tryz.func195 (some [2]) [.f, .b r6, .t] (pc h5<|pc (k_palingref29_Usable h7)<|pc h8<|pn)
    · injection h with h; subst h; exact rf Tryz.func195 (some [2]) [.f, .b r6, .f, .obj [] (.arr 3 [a3] (List.length [a3]) false)] (pc h5<|pc (k_palingref29_Usable h7)<|pc h8<|pc (bs_ob 3 [a3])<|pn)

theorem k_palingref29_Decide_J1 {a1 : Api_Net} {a2 : List Bool} {a4 : Int} {a5 : Int} {r9 : List Int} {r10 : List Int} {r22 : Int × Bool} {r : (List Int) ⊕ Unit} (h : palingref29_Decide_J1 a1 a2 a4 a5 r9 r10 r22 = some r) :
    ExecOK Tryz.prog UU 0 94 (subC (codeOf Tryz.f117) [1, 1, 1, 1, 1, 1, 0]) [(1, .sl 4 a2), (3, .j a4), (4, .j a5), (6, .op 0 1 0 0), (12, .os 1 0), (13, .os 2 0), (14, .z), (15, .sl 3 r9), (16, .sl 3 r10), (19, .v (.int .i64 r22.1)), (20, .v (.bool r22.2))] [.box 31 (c31 a1) false, .n 3, .n 3] ((fun r => match r with | Sum.inl l37 => .ret | Sum.inr _ => .nor) r) ((fun r => match r with | Sum.inl l37 => [(12, .os 0 l37.length), (13, .os 1 0), (14, .z)] | Sum.inr _ => [(3, .j a4), (4, .j a5), (6, .op 0 1 0 0), (12, .os 1 0), (13, .os 2 0), (14, .z), (15, .sl 3 r9), (16, .sl 3 r10), (19, .v (.int .i64 r22.1)), (20, .v (.bool r22.2))]) r) ((fun r => match r with | Sum.inl l37 => [.arr 3 l37 l37.length false, .n 3] | Sum.inr _ => [.box 31 (c31 a1) false, .n 3, .n 3]) r) := by
  unfold palingref29_Decide_J1 at h
  obtain ⟨h24, h⟩|⟨h24, h⟩ := ite_out h
  · obtain ⟨l27, h26, h⟩ := bo h
    obtain ⟨r28, h29, h⟩ := bo h
    obtain ⟨h30, h⟩|⟨h30, h⟩ := ite_out h
    · obtain ⟨l33, h32, h⟩ := bo h
      injection h with h; subst h; exact rl [12, 13, 14] [4, 5] [.t, .callo (.os 0 l27.length) [.arr 3 l27 l27.length false], .b r28, .t, .callo (.os 0 l33.length) [.arr 3 l33 l33.length false]] (pc h24<|pc (k_palingref15_Members h26)<|pc (im3 l27)<|pc (k_palingref15_In h29)<|pc (rn l27.length)<|pc h30<|pc (k_palingref29_one h32)<|pc (im3 l33)<|pn)
    · injection h with h; subst h; exact rl [3, 4, 6, 12, 13, 14, 15, 16, 19, 20] [0, 1, 2] [.t, .callo (.os 0 l27.length) [.arr 3 l27 l27.length false], .b r28, .f] (pc h24<|pc (k_palingref15_Members h26)<|pc (im3 l27)<|pc (k_palingref15_In h29)<|pc (rn l27.length)<|pc h30<|pn)
  · injection h with h; subst h; exact rl [3, 4, 6, 12, 13, 14, 15, 16, 19, 20] [0, 1, 2] [.f] (pc h24<|pn)

theorem k_palingref29_Decide_J2 {a1 : Api_Net} {a4 : Int} {a5 : Int} {r9 : List Int} {r10 : List Int} {r22 : Int × Bool} {r : Bool} (h : palingref29_Decide_J2 a1 a4 a5 r9 r10 r22 = some r) :
    ExecOK Tryz.prog UU 0 94 (subC (codeOf Tryz.f117) [1, 1, 1, 1, 1, 1, 1, 0, 0]) [(3, .j a4), (4, .j a5), (6, .op 0 1 0 0), (12, .os 1 0), (13, .os 2 0), (14, .z), (15, .sl 3 r9), (16, .sl 3 r10), (19, .v (.int .i64 r22.1)), (20, .v (.bool r22.2))] [.box 31 (c31 a1) false, .n 3, .n 3] ((fun r => match r with | v47 => .nor) r) ((fun r => match r with | v47 => [(4, .j a5), (12, .os 0 0), (13, .os 1 0), (14, .z), (15, .sl 3 r9), (16, .sl 3 r10), (19, .v (.int .i64 r22.1)), (85, .v (.bool v47))]) r) ((fun r => match r with | v47 => [.n 3, .n 3]) r) := by
  unfold palingref29_Decide_J2 at h
  obtain ⟨h40, h⟩|⟨h40, h⟩ := ite_out h
  · obtain ⟨h41, h⟩|⟨h41, h⟩ := ite_out h
    · obtain ⟨x42, h43, h⟩ := bo h
      obtain ⟨r44, h45, h⟩ := bo h
      injection h with h; subst h; exact rl [4, 12, 13, 14, 15, 16, 19, 85] [1, 2] [.t, .t, .row (c93 x42), .b r44] (pc h40<|pc h41<|pc (ob93 h43)<|pc (k_palingref15_In h45)<|pn)
    · injection h with h; subst h; exact rl [4, 12, 13, 14, 15, 16, 19, 85] [1, 2] [.t, .f] (pc h40<|pc h41<|pn)
  · injection h with h; subst h; exact rl [4, 12, 13, 14, 15, 16, 19, 85] [1, 2] [.f] (pc h40<|pn)

theorem k_palingref29_Decide {a1 : Api_Net} {a2 : List Bool} {a3 : List Api_Entry} {a4 : Int} {a5 : Int} {a6 : Int} {r : ((List Int) × (List Int) × Int)} (h : palingref29_Decide a1 a2 a3 a4 a5 a6 = some r) :
    CallsOK Tryz.prog UU 117 [.agg (c31 a1), .sl 4 a2, .sl 84 a3, .j a4, .j a5, .v (.int .u64 a6)] [] ((fun r => match r with | (r52, r53, r54) => .tup [.sl 3 r52, .sl 3 r53, .j r54]) r) ((fun r => match r with | (r52, r53, r54) => []) r) := by
  unfold palingref29_Decide at h
  obtain ⟨r7, h8, h⟩ := bo h
  obtain ⟨r9, r10, r11⟩ := r7
  obtain ⟨h12, h⟩|⟨h12, h⟩ := ite_out h
  · injection h with h; subst h; exact runFz_sound mixedOrders Tryz.func117 rfl (ids := []) (fz := []) (π := [.callm [] (.tup [.sl 3 r9, .sl 3 r10, .j r11]) [], .t]) (hrun := by kernel_rfl) (hps := pc (k_palingref29_Flood h8)<|pc h12<|pn)
  · obtain ⟨r13, h14, h⟩ := bo h
    obtain ⟨h15, h⟩|⟨h15, h⟩ := ite_out h
    · injection h with h; subst h; exact runFz_sound mixedOrders Tryz.func117 rfl (ids := []) (fz := []) (π := [.callm [] (.tup [.sl 3 r9, .sl 3 r10, .j r11]) [], .f, .b r13, .t]) (hrun := by kernel_rfl) (hps := pc (k_palingref29_Flood h8)<|pc h12<|pc (k_palingref01_Group h14)<|pc h15<|pn)
    · obtain ⟨r16, h17, h⟩ := bo h
      obtain ⟨h18, h⟩|⟨h18, h⟩ := ite_out h
      · obtain ⟨l21, h20, h⟩ := bo h
        injection h with h; subst h; exact runFz_sound mixedOrders Tryz.func117 rfl (ids := []) (fz := [3, 4]) (π := [.callm [] (.tup [.sl 3 r9, .sl 3 r10, .j r11]) [], .f, .b r13, .f, .callv (.j r16), .t, .callo (.os 0 l21.length) [.arr 3 l21 l21.length false]]) (hrun := by kernel_rfl) (hps := pc (k_palingref29_Flood h8)<|pc h12<|pc (k_palingref01_Group h14)<|pc h15<|pc (k_palingref18_Lookup h17)<|pc h18<|pc (k_palingref29_one h20)<|pc (im3 l21)<|pc (rn l21.length)<|pc (rn 0)<|pn)
      · obtain ⟨r22, h23, h⟩ := bo h
        obtain ⟨r39, h38, h⟩ := bo h
        rcases r39 with l37 | _
        · injection h with h; subst h; exact runFz_sound mixedOrders Tryz.func117 rfl (ids := []) (fz := [0, 1]) (π := [.callm [] (.tup [.sl 3 r9, .sl 3 r10, .j r11]) [], .f, .b r13, .f, .callv (.j r16), .f, .callv (.tup [.v (.int .i64 r22.1), .v (.bool r22.2)]), .cut [1, 3, 4, 6, 12, 13, 14, 15, 16, 19, 20] [0, 1, 2] .ret [(12, .os 0 l37.length), (13, .os 1 0), (14, .z)] [.arr 3 l37 l37.length false, .n 3]]) (hrun := by kernel_rfl) (hps := pc (k_palingref29_Flood h8)<|pc h12<|pc (k_palingref01_Group h14)<|pc h15<|pc (k_palingref18_Lookup h17)<|pc h18<|pc (k_palingref26_Find h23)<|pc (k_palingref29_Decide_J1 h38)<|pc (rn l37.length)<|pc (rn 0)<|pn)
        · obtain ⟨v47, h48, h⟩ := bo h
          obtain ⟨h50, h⟩|⟨h50, h⟩ := ite_out h
          · obtain ⟨h51, h⟩|⟨h51, h⟩ := ite_out h
            · injection h with h; subst h; exact runFz_sound mixedOrders Tryz.func117 rfl (ids := []) (fz := [2, 3]) (π := [.callm [] (.tup [.sl 3 r9, .sl 3 r10, .j r11]) [], .f, .b r13, .f, .callv (.j r16), .f, .callv (.tup [.v (.int .i64 r22.1), .v (.bool r22.2)]), .cut [1, 3, 4, 6, 12, 13, 14, 15, 16, 19, 20] [0, 1, 2] .nor [(3, .j a4), (4, .j a5), (6, .op 0 1 0 0), (12, .os 1 0), (13, .os 2 0), (14, .z), (15, .sl 3 r9), (16, .sl 3 r10), (19, .v (.int .i64 r22.1)), (20, .v (.bool r22.2))] [.box 31 (c31 a1) false, .n 3, .n 3], .skp, .cut [3, 4, 6, 12, 13, 14, 15, 16, 19, 20] [0, 1, 2] .nor [(4, .j a5), (12, .os 0 0), (13, .os 1 0), (14, .z), (15, .sl 3 r9), (16, .sl 3 r10), (19, .v (.int .i64 r22.1)), (85, .v (.bool v47))] [.n 3, .n 3], .t, .t]) (hrun := by kernel_rfl) (hps := pc (k_palingref29_Flood h8)<|pc h12<|pc (k_palingref01_Group h14)<|pc h15<|pc (k_palingref18_Lookup h17)<|pc h18<|pc (k_palingref26_Find h23)<|pc (k_palingref29_Decide_J1 h38)<|pc (k_palingref29_Decide_J2 h48)<|pc h50<|pc h51<|pc (rn 0)<|pc (rn 0)<|pn)
            · injection h with h; subst h; exact runFz_sound mixedOrders Tryz.func117 rfl (ids := []) (fz := [3, 2]) (π := [.callm [] (.tup [.sl 3 r9, .sl 3 r10, .j r11]) [], .f, .b r13, .f, .callv (.j r16), .f, .callv (.tup [.v (.int .i64 r22.1), .v (.bool r22.2)]), .cut [1, 3, 4, 6, 12, 13, 14, 15, 16, 19, 20] [0, 1, 2] .nor [(3, .j a4), (4, .j a5), (6, .op 0 1 0 0), (12, .os 1 0), (13, .os 2 0), (14, .z), (15, .sl 3 r9), (16, .sl 3 r10), (19, .v (.int .i64 r22.1)), (20, .v (.bool r22.2))] [.box 31 (c31 a1) false, .n 3, .n 3], .skp, .cut [3, 4, 6, 12, 13, 14, 15, 16, 19, 20] [0, 1, 2] .nor [(4, .j a5), (12, .os 0 0), (13, .os 1 0), (14, .z), (15, .sl 3 r9), (16, .sl 3 r10), (19, .v (.int .i64 r22.1)), (85, .v (.bool v47))] [.n 3, .n 3], .t, .f, .obj [] (.arr 3 [(wr_i64 (0 - (wr_i64 (r22.1 + 1))) : Int)] (List.length [(wr_i64 (0 - (wr_i64 (r22.1 + 1))) : Int)]) false)]) (hrun := by kernel_rfl) (hps := pc (k_palingref29_Flood h8)<|pc h12<|pc (k_palingref01_Group h14)<|pc h15<|pc (k_palingref18_Lookup h17)<|pc h18<|pc (k_palingref26_Find h23)<|pc (k_palingref29_Decide_J1 h38)<|pc (k_palingref29_Decide_J2 h48)<|pc h50<|pc h51<|pc (bs_ob 3 [(wr_i64 (0 - (wr_i64 (r22.1 + 1))) : Int)])<|pc (rn 0)<|pc ((rn (List.length [(wr_i64 (0 - (wr_i64 (r22.1 + 1))) : Int)])))<|pn)
          · injection h with h; subst h; exact runFz_sound mixedOrders Tryz.func117 rfl (ids := []) (fz := []) (π := [.callm [] (.tup [.sl 3 r9, .sl 3 r10, .j r11]) [], .f, .b r13, .f, .callv (.j r16), .f, .callv (.tup [.v (.int .i64 r22.1), .v (.bool r22.2)]), .cut [1, 3, 4, 6, 12, 13, 14, 15, 16, 19, 20] [0, 1, 2] .nor [(3, .j a4), (4, .j a5), (6, .op 0 1 0 0), (12, .os 1 0), (13, .os 2 0), (14, .z), (15, .sl 3 r9), (16, .sl 3 r10), (19, .v (.int .i64 r22.1)), (20, .v (.bool r22.2))] [.box 31 (c31 a1) false, .n 3, .n 3], .skp, .cut [3, 4, 6, 12, 13, 14, 15, 16, 19, 20] [0, 1, 2] .nor [(4, .j a5), (12, .os 0 0), (13, .os 1 0), (14, .z), (15, .sl 3 r9), (16, .sl 3 r10), (19, .v (.int .i64 r22.1)), (85, .v (.bool v47))] [.n 3, .n 3], .f]) (hrun := by kernel_rfl) (hps := pc (k_palingref29_Flood h8)<|pc h12<|pc (k_palingref01_Group h14)<|pc h15<|pc (k_palingref18_Lookup h17)<|pc h18<|pc (k_palingref26_Find h23)<|pc (k_palingref29_Decide_J1 h38)<|pc (k_palingref29_Decide_J2 h48)<|pc h50<|pn)

theorem k_palingref04_Put {a1 : Api_Frame} {r : ((List Int) × Int)} (h : palingref04_Put a1 = some r) :
    CallsOK Tryz.prog UU 196 [.agg (c62 a1)] [] ((fun r => match r with | (l16, v17) => .tup [.os 0 l16.length, .j v17]) r) ((fun r => match r with | (l16, v17) => [.arr 5 l16 l16.length false]) r) := by
  unfold palingref04_Put at h
  obtain ⟨h2, h⟩|⟨h2, h⟩ := ite_out h
  · injection h with h; subst h; exact rf Tryz.func196 (some [2]) [.t] (pc h2<|pn)
  · obtain ⟨h3, h⟩|⟨h3, h⟩ := ite_out h
    · injection h with h; subst h; exact rf Tryz.func196 (some [2]) [.f, .t] (pc h2<|pc h3<|pn)
    · obtain ⟨h4, h⟩|⟨h4, h⟩ := ite_out h
      · injection h with h; subst h; exact rf Tryz.func196 (some [2]) [.f, .f, .t] (pc h2<|pc h3<|pc h4<|pn)
      · obtain ⟨h5, h⟩|⟨h5, h⟩ := ite_out h
        · injection h with h; subst h; exact rf Tryz.func196 (some [2]) [.f, .f, .f, .t] (pc h2<|pc h3<|pc h4<|pc h5<|pn)
        · obtain ⟨h6, h⟩|⟨h6, h⟩ := ite_out h
          · injection h with h; subst h; exact rf Tryz.func196 (some [2]) [.f, .f, .f, .f, .t] (pc h2<|pc h3<|pc h4<|pc h5<|pc h6<|pn)
          · obtain ⟨l9, h8, h⟩ := bo h
            obtain ⟨l12, h11, h⟩ := bo h
            obtain ⟨h13, h⟩|⟨h13, h⟩ := ite_out h
            · obtain ⟨h14, h⟩|⟨h14, h⟩ := ite_out h
              · obtain ⟨h15, h⟩|⟨h15, h⟩ := ite_out h
                · injection h with h; subst h; exact rf Tryz.func196 (some [2]) [.f, .f, .f, .f, .f, .sum [2] [] .nor [] [.box 62 (c62 a1) false, .n 5, .arr 5 l9 l9.length false], .callo (.os 0 l9.length) [.arr 5 l9 l9.length false], .callo (.os 0 l12.length) [.arr 5 l12 l12.length false], .obj [] (.arr 5 (l9 ++ l12) (List.length (l9 ++ l12)) false), .obj [] (.arr 5 [(wr_u8 (wr_i64 (Int.tdiv a1.type_ 256)) : Int), (wr_u8 (Int.tmod a1.type_ 256) : Int)] (List.length [(wr_u8 (wr_i64 (Int.tdiv a1.type_ 256)) : Int), (wr_u8 (Int.tmod a1.type_ 256) : Int)]) false), .obj [] (.arr 5 ((l9 ++ l12) ++ [(wr_u8 (wr_i64 (Int.tdiv a1.type_ 256)) : Int), (wr_u8 (Int.tmod a1.type_ 256) : Int)]) (List.length ((l9 ++ l12) ++ [(wr_u8 (wr_i64 (Int.tdiv a1.type_ 256)) : Int), (wr_u8 (Int.tmod a1.type_ 256) : Int)])) false), .obj [] (.arr 5 (((l9 ++ l12) ++ [(wr_u8 (wr_i64 (Int.tdiv a1.type_ 256)) : Int), (wr_u8 (Int.tmod a1.type_ 256) : Int)]) ++ a1.body) (List.length (((l9 ++ l12) ++ [(wr_u8 (wr_i64 (Int.tdiv a1.type_ 256)) : Int), (wr_u8 (Int.tmod a1.type_ 256) : Int)]) ++ a1.body)) false)] (pc h2<|pc h3<|pc h4<|pc h5<|pc h6<|pc ((rfl : ([.box 62 (c62 a1) false, .n 5, .arr 5 l9 l9.length false] : Heap DD) = [.box 62 (c62 a1) false, .n 5, .arr 5 l9 l9.length false]))<|pc (k_palingref01_Bytes h8)<|pc (im5 l9)<|pc ((rfl : (.op 0 1 0 1 : AV DD) = .op 0 1 0 1))<|pc ((rfl : (.v (.int .u64 a1.src) : AV DD) = .v (.int .u64 a1.src)))<|pc (k_palingref01_Bytes h11)<|pc (im5 l12)<|pc (app_ob 5 (n := l9.length) (l := l9) (xs := l12) h13)<|pc (rn l12.length)<|pc ((show (256 : Int) ≠ 0 from by decide))<|pc ((show (256 : Int) ≠ 0 from by decide))<|pc (bs_ob 5 [(wr_u8 (wr_i64 (Int.tdiv a1.type_ 256)) : Int), (wr_u8 (Int.tmod a1.type_ 256) : Int)])<|pc (app_ob 5 (n := (List.length (l9 ++ l12))) (l := l9 ++ l12) (xs := [(wr_u8 (wr_i64 (Int.tdiv a1.type_ 256)) : Int), (wr_u8 (Int.tmod a1.type_ 256) : Int)]) h14)<|pc ((rn (List.length [(wr_u8 (wr_i64 (Int.tdiv a1.type_ 256)) : Int), (wr_u8 (Int.tmod a1.type_ 256) : Int)])))<|pc (app_ob 5 (n := (List.length ((l9 ++ l12) ++ [(wr_u8 (wr_i64 (Int.tdiv a1.type_ 256)) : Int), (wr_u8 (Int.tmod a1.type_ 256) : Int)]))) (l := (l9 ++ l12) ++ [(wr_u8 (wr_i64 (Int.tdiv a1.type_ 256)) : Int), (wr_u8 (Int.tmod a1.type_ 256) : Int)]) (xs := a1.body) h15)<|pn)
                · cases h
              · cases h
            · cases h

def b0_k_palingref05_Add (a1 : Api_Frame) (a2 : Int) (a3 : Int) : List (AObj DD) := [.box 62 (c62 a1) false, .n 5, .box 62 [.v (.int .u64 0), .v (.int .u64 0), .z, .os 1 0] false, .arr 5 ([(wr_u8 (wr_i64 (Int.tdiv (wr_i64 ((wr_i64 (a3 * 4096)) + a2)) 256)) : Int), (wr_u8 (Int.tmod (wr_i64 ((wr_i64 (a3 * 4096)) + a2)) 256) : Int), (wr_u8 (wr_i64 (Int.tdiv a1.type_ 256)) : Int), (wr_u8 (Int.tmod a1.type_ 256) : Int)] ++ a1.body) (List.length ([(wr_u8 (wr_i64 (Int.tdiv (wr_i64 ((wr_i64 (a3 * 4096)) + a2)) 256)) : Int), (wr_u8 (Int.tmod (wr_i64 ((wr_i64 (a3 * 4096)) + a2)) 256) : Int), (wr_u8 (wr_i64 (Int.tdiv a1.type_ 256)) : Int), (wr_u8 (Int.tmod a1.type_ 256) : Int)] ++ a1.body)) false]
theorem k_palingref05_Add {a1 : Api_Frame} {a2 : Int} {a3 : Int} {r : ((List Int) × Int × Int × Int × Int)} (h : palingref05_Add a1 a2 a3 = some r) :
    CallsOK Tryz.prog UU 197 [.agg (c62 a1), .j a2, .j a3] [] ((fun r => match r with | (l13, v14, v15, v16, v17) => .tup [.agg [.v (.int .u64 v14), .v (.int .u64 v15), .j v16, .os 0 l13.length], .j v17]) r) ((fun r => match r with | (l13, v14, v15, v16, v17) => [.arr 5 l13 l13.length false]) r) := by
  unfold palingref05_Add at h
  obtain ⟨h4, h⟩|⟨h4, h⟩ := ite_out h
  · injection h with h; subst h; exact rf Tryz.func197 (some [3]) [.t] (pc h4<|pn)
  · obtain ⟨h5, h⟩|⟨h5, h⟩ := ite_out h
    · injection h with h; subst h; exact rf Tryz.func197 (some [3]) [.f, .t] (pc h4<|pc h5<|pn)
    · obtain ⟨h6, h⟩|⟨h6, h⟩ := ite_out h
      · injection h with h; subst h; exact rf Tryz.func197 (some [3]) [.f, .f, .t] (pc h4<|pc h5<|pc h6<|pn)
      · obtain ⟨h7, h⟩|⟨h7, h⟩ := ite_out h
        · injection h with h; subst h; exact rf Tryz.func197 (some [3]) [.f, .f, .f, .t] (pc h4<|pc h5<|pc h6<|pc h7<|pn)
        · obtain ⟨h8, h⟩|⟨h8, h⟩ := ite_out h
          · injection h with h; subst h; exact rf Tryz.func197 (some [3]) [.f, .f, .f, .f, .t] (pc h4<|pc h5<|pc h6<|pc h7<|pc h8<|pn)
          · obtain ⟨h9, h⟩|⟨h9, h⟩ := ite_out h
            · injection h with h; subst h; exact rf Tryz.func197 (some [3]) [.f, .f, .f, .f, .f, .t] (pc h4<|pc h5<|pc h6<|pc h7<|pc h8<|pc h9<|pn)
            · obtain ⟨h10, h⟩|⟨h10, h⟩ := ite_out h
              · injection h with h; subst h; exact rf Tryz.func197 (some [3]) [.f, .f, .f, .f, .f, .f, .t] (pc h4<|pc h5<|pc h6<|pc h7<|pc h8<|pc h9<|pc h10<|pn)
              · obtain ⟨h11, h⟩|⟨h11, h⟩ := ite_out h
                · injection h with h; subst h; exact rf Tryz.func197 (some [3]) [.f, .f, .f, .f, .f, .f, .f, .t] (pc h4<|pc h5<|pc h6<|pc h7<|pc h8<|pc h9<|pc h10<|pc h11<|pn)
                · obtain ⟨h12, h⟩|⟨h12, h⟩ := ite_out h
                  · injection h with h; subst h; exact rf Tryz.func197 (some [3]) [.f, .f, .f, .f, .f, .f, .f, .f, .obj [] (.arr 5 [(wr_u8 (wr_i64 (Int.tdiv (wr_i64 ((wr_i64 (a3 * 4096)) + a2)) 256)) : Int), (wr_u8 (Int.tmod (wr_i64 ((wr_i64 (a3 * 4096)) + a2)) 256) : Int), (wr_u8 (wr_i64 (Int.tdiv a1.type_ 256)) : Int), (wr_u8 (Int.tmod a1.type_ 256) : Int)] (List.length [(wr_u8 (wr_i64 (Int.tdiv (wr_i64 ((wr_i64 (a3 * 4096)) + a2)) 256)) : Int), (wr_u8 (Int.tmod (wr_i64 ((wr_i64 (a3 * 4096)) + a2)) 256) : Int), (wr_u8 (wr_i64 (Int.tdiv a1.type_ 256)) : Int), (wr_u8 (Int.tmod a1.type_ 256) : Int)]) false), .sum [7] [] .nor [] (b0_k_palingref05_Add a1 a2 a3), .obj [] (.arr 5 ([(wr_u8 (wr_i64 (Int.tdiv (wr_i64 ((wr_i64 (a3 * 4096)) + a2)) 256)) : Int), (wr_u8 (Int.tmod (wr_i64 ((wr_i64 (a3 * 4096)) + a2)) 256) : Int), (wr_u8 (wr_i64 (Int.tdiv a1.type_ 256)) : Int), (wr_u8 (Int.tmod a1.type_ 256) : Int)] ++ a1.body) (List.length ([(wr_u8 (wr_i64 (Int.tdiv (wr_i64 ((wr_i64 (a3 * 4096)) + a2)) 256)) : Int), (wr_u8 (Int.tmod (wr_i64 ((wr_i64 (a3 * 4096)) + a2)) 256) : Int), (wr_u8 (wr_i64 (Int.tdiv a1.type_ 256)) : Int), (wr_u8 (Int.tmod a1.type_ 256) : Int)] ++ a1.body)) false)] (pc h4<|pc h5<|pc h6<|pc h7<|pc h8<|pc h9<|pc h10<|pc h11<|pc ((show (256 : Int) ≠ 0 from by decide))<|pc ((show (256 : Int) ≠ 0 from by decide))<|pc ((show (256 : Int) ≠ 0 from by decide))<|pc ((show (256 : Int) ≠ 0 from by decide))<|pc (bs_ob 5 [(wr_u8 (wr_i64 (Int.tdiv (wr_i64 ((wr_i64 (a3 * 4096)) + a2)) 256)) : Int), (wr_u8 (Int.tmod (wr_i64 ((wr_i64 (a3 * 4096)) + a2)) 256) : Int), (wr_u8 (wr_i64 (Int.tdiv a1.type_ 256)) : Int), (wr_u8 (Int.tmod a1.type_ 256) : Int)])<|pc ((rfl : (.op 0 1 0 0 : AV DD) = .op 0 1 0 0))<|pc ((rfl : (.v (.int .u64 a1.dst) : AV DD) = .v (.int .u64 a1.dst)))<|pc ((rfl : (.op 0 1 0 1 : AV DD) = .op 0 1 0 1))<|pc ((rfl : (.v (.int .u64 a1.src) : AV DD) = .v (.int .u64 a1.src)))<|pc ((rfl : ((b0_k_palingref05_Add a1 a2 a3) : Heap DD) = (b0_k_palingref05_Add a1 a2 a3)))<|pc (app_ob 5 (n := (List.length [(wr_u8 (wr_i64 (Int.tdiv (wr_i64 ((wr_i64 (a3 * 4096)) + a2)) 256)) : Int), (wr_u8 (Int.tmod (wr_i64 ((wr_i64 (a3 * 4096)) + a2)) 256) : Int), (wr_u8 (wr_i64 (Int.tdiv a1.type_ 256)) : Int), (wr_u8 (Int.tmod a1.type_ 256) : Int)])) (l := [(wr_u8 (wr_i64 (Int.tdiv (wr_i64 ((wr_i64 (a3 * 4096)) + a2)) 256)) : Int), (wr_u8 (Int.tmod (wr_i64 ((wr_i64 (a3 * 4096)) + a2)) 256) : Int), (wr_u8 (wr_i64 (Int.tdiv a1.type_ 256)) : Int), (wr_u8 (Int.tmod a1.type_ 256) : Int)]) (xs := a1.body) h12)<|pn)
                  · cases h

theorem k_palingref28_At {a1 : Api_Net} {a2 : Int} {a3 : Int} {a4 : Api_Frame} {r : ((List Int) × Int)} (h : palingref28_At a1 a2 a3 a4 = some r) :
    CallsOK Tryz.prog UU 118 [.agg (c31 a1), .j a2, .j a3, .agg (c62 a4)] [] ((fun r => match r with | (l42, v43) => .tup [.os 0 l42.length, .j v43]) r) ((fun r => match r with | (l42, v43) => [.arr 5 l42 l42.length false]) r) := by
  unfold palingref28_At at h
  obtain ⟨r5, h6, h⟩ := bo h
  obtain ⟨h7, h⟩|⟨h7, h⟩ := ite_out h
  · injection h with h; subst h; exact rf Tryz.func118 (some [3]) [.b r5, .t] (pc (k_palingref15_Right h6)<|pc h7<|pn)
  · obtain ⟨r8, h9, h⟩ := bo h
    obtain ⟨h10, h⟩|⟨h10, h⟩ := ite_out h
    · injection h with h; subst h; exact rf Tryz.func118 (some [3]) [.b r5, .f, .b r8, .t] (pc (k_palingref15_Right h6)<|pc h7<|pc (k_palingref15_Place h9)<|pc h10<|pn)
    · obtain ⟨r11, h12, h⟩ := bo h
      obtain ⟨h13, h⟩|⟨h13, h⟩ := ite_out h
      · injection h with h; subst h; exact rf Tryz.func118 (some [3]) [.b r5, .f, .b r8, .f, .b r11, .t] (pc (k_palingref15_Right h6)<|pc h7<|pc (k_palingref15_Place h9)<|pc h10<|pc (k_palingref15_Place h12)<|pc h13<|pn)
      · obtain ⟨l16, h15, h⟩ := bo h
        obtain ⟨r17, h18, h⟩ := bo h
        obtain ⟨h19, h⟩|⟨h19, h⟩ := ite_out h
        · injection h with h; subst h; exact rf Tryz.func118 (some [4]) [.b r5, .f, .b r8, .f, .b r11, .f, .callo (.os 0 l16.length) [.arr 3 l16 l16.length false], .b r17, .t] (pc (k_palingref15_Right h6)<|pc h7<|pc (k_palingref15_Place h9)<|pc h10<|pc (k_palingref15_Place h12)<|pc h13<|pc (k_palingref15_Members h15)<|pc (im3 l16)<|pc (k_palingref15_In h18)<|pc (rn l16.length)<|pc h19<|pn)
        · obtain ⟨h20, h⟩|⟨h20, h⟩ := ite_out h
          · injection h with h; subst h; exact rf Tryz.func118 (some [4]) [.b r5, .f, .b r8, .f, .b r11, .f, .callo (.os 0 l16.length) [.arr 3 l16 l16.length false], .b r17, .f, .t] (pc (k_palingref15_Right h6)<|pc h7<|pc (k_palingref15_Place h9)<|pc h10<|pc (k_palingref15_Place h12)<|pc h13<|pc (k_palingref15_Members h15)<|pc (im3 l16)<|pc (k_palingref15_In h18)<|pc (rn l16.length)<|pc h19<|pc h20<|pn)
          · obtain ⟨x21, h22, h⟩ := bo h
            obtain ⟨x23, h24, h⟩ := bo h
            obtain ⟨h25, h⟩|⟨h25, h⟩ := ite_out h
            · obtain ⟨r26, h27, h⟩ := bo h
              obtain ⟨l28, v29⟩ := r26
              injection h with h; subst h; exact rf Tryz.func118 (some [4]) [.b r5, .f, .b r8, .f, .b r11, .f, .callo (.os 0 l16.length) [.arr 3 l16 l16.length false], .b r17, .f, .f, .row (c93 x21), .row (c56 x23), .t, .callo (.tup [.os 0 l28.length, .j v29]) [.arr 5 l28 l28.length false]] (pc (k_palingref15_Right h6)<|pc h7<|pc (k_palingref15_Place h9)<|pc h10<|pc (k_palingref15_Place h12)<|pc h13<|pc (k_palingref15_Members h15)<|pc (im3 l16)<|pc (k_palingref15_In h18)<|pc (rn l16.length)<|pc h19<|pc h20<|pc (ob93 h22)<|pc (ob56 h24)<|pc h25<|pc (k_palingref04_Put h27)<|pc (im5 l28)<|pn)
            · obtain ⟨r30, h31, h⟩ := bo h
              obtain ⟨l32, v33, v34, v35, v36⟩ := r30
              obtain ⟨h37, h⟩|⟨h37, h⟩ := ite_out h
              · injection h with h; subst h; exact rf Tryz.func118 (some [7]) [.b r5, .f, .b r8, .f, .b r11, .f, .callo (.os 0 l16.length) [.arr 3 l16 l16.length false], .b r17, .f, .f, .row (c93 x21), .row (c56 x23), .f, .callo (.tup [.agg [.v (.int .u64 v33), .v (.int .u64 v34), .j v35, .os 0 l32.length], .j v36]) [.arr 5 l32 l32.length false], .t] (pc (k_palingref15_Right h6)<|pc h7<|pc (k_palingref15_Place h9)<|pc h10<|pc (k_palingref15_Place h12)<|pc h13<|pc (k_palingref15_Members h15)<|pc (im3 l16)<|pc (k_palingref15_In h18)<|pc (rn l16.length)<|pc h19<|pc h20<|pc (ob93 h22)<|pc (ob56 h24)<|pc h25<|pc (k_palingref05_Add h31)<|pc (im5 l32)<|pc h37<|pn)
              · obtain ⟨r38, h39, h⟩ := bo h
                obtain ⟨l40, v41⟩ := r38
                injection h with h; subst h; exact rf Tryz.func118 (some [7]) [.b r5, .f, .b r8, .f, .b r11, .f, .callo (.os 0 l16.length) [.arr 3 l16 l16.length false], .b r17, .f, .f, .row (c93 x21), .row (c56 x23), .f, .callo (.tup [.agg [.v (.int .u64 v33), .v (.int .u64 v34), .j v35, .os 0 l32.length], .j v36]) [.arr 5 l32 l32.length false], .f, .callo (.tup [.os 0 l40.length, .j v41]) [.arr 5 l40 l40.length false]] (pc (k_palingref15_Right h6)<|pc h7<|pc (k_palingref15_Place h9)<|pc h10<|pc (k_palingref15_Place h12)<|pc h13<|pc (k_palingref15_Members h15)<|pc (im3 l16)<|pc (k_palingref15_In h18)<|pc (rn l16.length)<|pc h19<|pc h20<|pc (ob93 h22)<|pc (ob56 h24)<|pc h25<|pc (k_palingref05_Add h31)<|pc (im5 l32)<|pc h37<|pc (k_palingref04_Put h39)<|pc (im5 l40)<|pc (rn l32.length)<|pn)

theorem k_palingref31_lost {a1 : Palingref31_Out} {a2 : List Int} {a3 : Int} {r : (Palingref31_Out)} (h : palingref31_lost a1 a2 a3 = some r) :
    CallsOK Tryz.prog UU 119 [.agg (c163 a1), .sl 5 a2, .j a3] [] ((fun r => match r with | r5 => .agg (c163 r5)) r) ((fun r => match r with | r5 => []) r) := by
  unfold palingref31_lost at h
  obtain ⟨h4, h⟩|⟨h4, h⟩ := ite_out h
  · injection h with h; subst h; exact runFz_sound mixedOrders Tryz.func119 rfl (ids := []) (fz := [4, 5]) (π := [.t]) (hrun := by kernel_rfl) (hps := pc h4<|pc (rn 0)<|pc (rn 0)<|pn)
  · injection h with h; subst h; exact runFz_sound mixedOrders Tryz.func119 rfl (ids := []) (fz := []) (π := [.f]) (hrun := by kernel_rfl) (hps := pc h4<|pn)

theorem k_palingref28_vtep {a1 : Api_Net} {a2 : Int} {r : Int} (h : palingref28_vtep a1 a2 = some r) :
    CallsOK Tryz.prog UU 199 [.agg (c31 a1), .j a2] [] (.v (.int .u32 r)) [] := by
  unfold palingref28_vtep at h
  obtain ⟨x3, h4, h⟩ := bo h
  obtain ⟨x5, h6, h⟩ := bo h
  injection h with h; subst h; exact rf Tryz.func199 none [.row (c93 x3), .row (c91 x5)] (pc (ob93 h4)<|pc (ob91 h6)<|pn)

theorem k_palingref09_Head {a1 : Int} {r : ((List Int) × Int)} (h : palingref09_Head a1 = some r) :
    CallsOK Tryz.prog UU 249 [.j a1] [] ((fun r => match r with | (l4, v5) => .tup [.os 0 l4.length, .j v5]) r) ((fun r => match r with | (l4, v5) => [.arr 5 l4 l4.length false]) r) := by
  unfold palingref09_Head at h
  obtain ⟨h2, h⟩|⟨h2, h⟩ := ite_out h
  · injection h with h; subst h; exact rf Tryz.func249 (some [1]) [.t] (pc h2<|pn)
  · obtain ⟨h3, h⟩|⟨h3, h⟩ := ite_out h
    · injection h with h; subst h; exact rf Tryz.func249 (some [1]) [.f, .t] (pc h2<|pc h3<|pn)
    · injection h with h; subst h; exact rf Tryz.func249 (some [1]) [.f, .f, .obj [] (.arr 5 [(8 : Int), (0 : Int), (0 : Int), (0 : Int), (wr_u8 (wr_i64 (Int.tdiv a1 65536)) : Int), (wr_u8 (Int.tmod (wr_i64 (Int.tdiv a1 256)) 256) : Int), (wr_u8 (Int.tmod a1 256) : Int), (0 : Int)] (List.length [(8 : Int), (0 : Int), (0 : Int), (0 : Int), (wr_u8 (wr_i64 (Int.tdiv a1 65536)) : Int), (wr_u8 (Int.tmod (wr_i64 (Int.tdiv a1 256)) 256) : Int), (wr_u8 (Int.tmod a1 256) : Int), (0 : Int)]) false)] (pc h2<|pc h3<|pc ((show (65536 : Int) ≠ 0 from by decide))<|pc ((show (256 : Int) ≠ 0 from by decide))<|pc ((show (256 : Int) ≠ 0 from by decide))<|pc ((show (256 : Int) ≠ 0 from by decide))<|pc (bs_ob 5 [(8 : Int), (0 : Int), (0 : Int), (0 : Int), (wr_u8 (wr_i64 (Int.tdiv a1 65536)) : Int), (wr_u8 (Int.tmod (wr_i64 (Int.tdiv a1 256)) 256) : Int), (wr_u8 (Int.tmod a1 256) : Int), (0 : Int)])<|pn)

theorem k_palingref08_Port_L1 : LoopOK Tryz.prog UU 0 28 (subC (codeOf Tryz.f251) [1, 1, 1, 0, 1, 0, 0]) (fun s : Int × Int × Int × Int × Int => match s with | (v3, v4, v5, v6, v7) => palingref08_Port_L1 v3 v4 v5 v6 v7)
    (fun s : Int × Int × Int × Int × Int => (match s with | (v3, v4, v5, v6, v7) => [(0, .v (.int .u64 v3)), (1, .v (.int .u64 v4)), (4, .z), (5, .j v5), (6, .j v6), (7, .j v7)] : Fr DD)) (fun s : Int × Int × Int × Int × Int => (match s with | (v3, v4, v5, v6, v7) => [] : Heap DD)) (fun r => match r with | v11 => .exit 0) (fun r => match r with | v11 => [(4, .z), (5, .j v11)]) (fun r => match r with | v11 => []) := by
  refine loop_sound3 (fun s q h => ?_) (fun r => ?_)
  · obtain ⟨v3, v4, v5, v6, v7⟩ := s; replace h : palingref08_Port_L1 v3 v4 v5 v6 v7 = some q := h
    unfold palingref08_Port_L1 at h
    obtain ⟨h8, h⟩|⟨h8, h⟩ := ite_out h
    · obtain ⟨h9, h⟩|⟨h9, h⟩ := ite_out h
      · injection h with h; subst h; exact rl [0, 1, 4, 5, 6, 7] [] [.t, .t] (pc h8<|pc ((show (2 : Int) ≠ 0 from by decide))<|pc ((show (2 : Int) ≠ 0 from by decide))<|pc h9<|pc ((show (2 : Int) ≠ 0 from by decide))<|pc ((show (2 : Int) ≠ 0 from by decide))<|pn)
      · injection h with h; subst h; exact rl [0, 1, 4, 5, 6, 7] [] [.t, .f] (pc h8<|pc ((show (2 : Int) ≠ 0 from by decide))<|pc ((show (2 : Int) ≠ 0 from by decide))<|pc h9<|pc ((show (2 : Int) ≠ 0 from by decide))<|pc ((show (2 : Int) ≠ 0 from by decide))<|pn)
    · injection h with h; subst h; exact rl [4, 5] [] [.f] (pc h8<|pn)
  · exact Ex.noConfusion

theorem k_palingref08_Port {a1 : Int} {a2 : Int} {r : Int} (h : palingref08_Port a1 a2 = some r) :
    CallsOK Tryz.prog UU 251 [.v (.int .u64 a1), .v (.int .u64 a2)] [] (.j r) [] := by
  unfold palingref08_Port at h
  obtain ⟨v11, h12, h⟩ := bo h
  injection h with h; subst h; exact rf Tryz.func251 none [.sum [0, 1, 4, 5, 6, 7] [] (.exit 0) [(4, .z), (5, .j v11)] []] (pc (k_palingref08_Port_L1 _ _ h12)<|pn)

theorem k_palingref08_Put {a1 : Int} {a2 : Int} {a3 : List Int} {r : ((List Int) × Int)} (h : palingref08_Put a1 a2 a3 = some r) :
    CallsOK Tryz.prog UU 250 [.j a1, .j a2, .sl 5 a3] [] ((fun r => match r with | (l10, v11) => .tup [.os 0 l10.length, .j v11]) r) ((fun r => match r with | (l10, v11) => [.arr 5 l10 l10.length false]) r) := by
  unfold palingref08_Put at h
  obtain ⟨h4, h⟩|⟨h4, h⟩ := ite_out h
  · injection h with h; subst h; exact rf Tryz.func250 (some [1]) [.t] (pc h4<|pn)
  · obtain ⟨h5, h⟩|⟨h5, h⟩ := ite_out h
    · injection h with h; subst h; exact rf Tryz.func250 (some [1]) [.f, .t] (pc h4<|pc h5<|pn)
    · obtain ⟨h6, h⟩|⟨h6, h⟩ := ite_out h
      · injection h with h; subst h; exact rf Tryz.func250 (some [1]) [.f, .f, .t] (pc h4<|pc h5<|pc h6<|pn)
      · obtain ⟨h7, h⟩|⟨h7, h⟩ := ite_out h
        · injection h with h; subst h; exact rf Tryz.func250 (some [1]) [.f, .f, .f, .t] (pc h4<|pc h5<|pc h6<|pc h7<|pn)
        · obtain ⟨h8, h⟩|⟨h8, h⟩ := ite_out h
          · injection h with h; subst h; exact rf Tryz.func250 (some [1]) [.f, .f, .f, .f, .t] (pc h4<|pc h5<|pc h6<|pc h7<|pc h8<|pn)
          · obtain ⟨h9, h⟩|⟨h9, h⟩ := ite_out h
            · injection h with h; subst h; exact rf Tryz.func250 (some [1]) [.f, .f, .f, .f, .f, .obj [] (.arr 5 [(wr_u8 (wr_i64 (Int.tdiv a1 256)) : Int), (wr_u8 (Int.tmod a1 256) : Int), (wr_u8 (wr_i64 (Int.tdiv a2 256)) : Int), (wr_u8 (Int.tmod a2 256) : Int), (wr_u8 (wr_i64 (Int.tdiv (wr_i64 (8 + (a3.length : Int))) 256)) : Int), (wr_u8 (Int.tmod (wr_i64 (8 + (a3.length : Int))) 256) : Int), (0 : Int), (0 : Int)] (List.length [(wr_u8 (wr_i64 (Int.tdiv a1 256)) : Int), (wr_u8 (Int.tmod a1 256) : Int), (wr_u8 (wr_i64 (Int.tdiv a2 256)) : Int), (wr_u8 (Int.tmod a2 256) : Int), (wr_u8 (wr_i64 (Int.tdiv (wr_i64 (8 + (a3.length : Int))) 256)) : Int), (wr_u8 (Int.tmod (wr_i64 (8 + (a3.length : Int))) 256) : Int), (0 : Int), (0 : Int)]) false), .obj [] (.arr 5 ([(wr_u8 (wr_i64 (Int.tdiv a1 256)) : Int), (wr_u8 (Int.tmod a1 256) : Int), (wr_u8 (wr_i64 (Int.tdiv a2 256)) : Int), (wr_u8 (Int.tmod a2 256) : Int), (wr_u8 (wr_i64 (Int.tdiv (wr_i64 (8 + (a3.length : Int))) 256)) : Int), (wr_u8 (Int.tmod (wr_i64 (8 + (a3.length : Int))) 256) : Int), (0 : Int), (0 : Int)] ++ a3) (List.length ([(wr_u8 (wr_i64 (Int.tdiv a1 256)) : Int), (wr_u8 (Int.tmod a1 256) : Int), (wr_u8 (wr_i64 (Int.tdiv a2 256)) : Int), (wr_u8 (Int.tmod a2 256) : Int), (wr_u8 (wr_i64 (Int.tdiv (wr_i64 (8 + (a3.length : Int))) 256)) : Int), (wr_u8 (Int.tmod (wr_i64 (8 + (a3.length : Int))) 256) : Int), (0 : Int), (0 : Int)] ++ a3)) false)] (pc h4<|pc h5<|pc h6<|pc h7<|pc h8<|pc ((show (256 : Int) ≠ 0 from by decide))<|pc ((show (256 : Int) ≠ 0 from by decide))<|pc ((show (256 : Int) ≠ 0 from by decide))<|pc ((show (256 : Int) ≠ 0 from by decide))<|pc ((show (256 : Int) ≠ 0 from by decide))<|pc ((show (256 : Int) ≠ 0 from by decide))<|pc (bs_ob 5 [(wr_u8 (wr_i64 (Int.tdiv a1 256)) : Int), (wr_u8 (Int.tmod a1 256) : Int), (wr_u8 (wr_i64 (Int.tdiv a2 256)) : Int), (wr_u8 (Int.tmod a2 256) : Int), (wr_u8 (wr_i64 (Int.tdiv (wr_i64 (8 + (a3.length : Int))) 256)) : Int), (wr_u8 (Int.tmod (wr_i64 (8 + (a3.length : Int))) 256) : Int), (0 : Int), (0 : Int)])<|pc (app_ob 5 (n := (List.length [(wr_u8 (wr_i64 (Int.tdiv a1 256)) : Int), (wr_u8 (Int.tmod a1 256) : Int), (wr_u8 (wr_i64 (Int.tdiv a2 256)) : Int), (wr_u8 (Int.tmod a2 256) : Int), (wr_u8 (wr_i64 (Int.tdiv (wr_i64 (8 + (a3.length : Int))) 256)) : Int), (wr_u8 (Int.tmod (wr_i64 (8 + (a3.length : Int))) 256) : Int), (0 : Int), (0 : Int)])) (l := [(wr_u8 (wr_i64 (Int.tdiv a1 256)) : Int), (wr_u8 (Int.tmod a1 256) : Int), (wr_u8 (wr_i64 (Int.tdiv a2 256)) : Int), (wr_u8 (Int.tmod a2 256) : Int), (wr_u8 (wr_i64 (Int.tdiv (wr_i64 (8 + (a3.length : Int))) 256)) : Int), (wr_u8 (Int.tmod (wr_i64 (8 + (a3.length : Int))) 256) : Int), (0 : Int), (0 : Int)]) (xs := a3) h9)<|pn)
            · cases h

theorem k_palingref09_Wrap {a1 : Int} {a2 : Int} {a3 : Int} {a4 : Api_Frame} {r : ((List Int) × Int)} (h : palingref09_Wrap a1 a2 a3 a4 = some r) :
    CallsOK Tryz.prog UU 198 [.v (.int .u32 a1), .v (.int .u32 a2), .j a3, .agg (c62 a4)] [] ((fun r => match r with | (l36, v37) => .tup [.os 0 l36.length, .j v37]) r) ((fun r => match r with | (l36, v37) => [.arr 5 l36 l36.length false]) r) := by
  unfold palingref09_Wrap at h
  obtain ⟨h5, h⟩|⟨h5, h⟩ := ite_out h
  · injection h with h; subst h; exact rf Tryz.func198 (some [2]) [.t] (pc h5<|pn)
  · obtain ⟨r6, h7, h⟩ := bo h
    obtain ⟨l8, v9⟩ := r6
    obtain ⟨h10, h⟩|⟨h10, h⟩ := ite_out h
    · injection h with h; subst h; exact rf Tryz.func198 (some [3]) [.f, .callo (.tup [.os 0 l8.length, .j v9]) [.arr 5 l8 l8.length false], .t] (pc h5<|pc (k_palingref04_Put h7)<|pc (im5 l8)<|pc h10<|pn)
    · obtain ⟨r11, h12, h⟩ := bo h
      obtain ⟨l13, v14⟩ := r11
      obtain ⟨h15, h⟩|⟨h15, h⟩ := ite_out h
      · injection h with h; subst h; exact rf Tryz.func198 (some [4]) [.f, .callo (.tup [.os 0 l8.length, .j v9]) [.arr 5 l8 l8.length false], .f, .callo (.tup [.os 0 l13.length, .j v14]) [.arr 5 l13 l13.length false], .t] (pc h5<|pc (k_palingref04_Put h7)<|pc (im5 l8)<|pc h10<|pc (k_palingref09_Head h12)<|pc (im5 l13)<|pc h15<|pn)
      · obtain ⟨h16, h⟩|⟨h16, h⟩ := ite_out h
        · injection h with h; subst h; exact rf Tryz.func198 (some [4]) [.f, .callo (.tup [.os 0 l8.length, .j v9]) [.arr 5 l8 l8.length false], .f, .callo (.tup [.os 0 l13.length, .j v14]) [.arr 5 l13 l13.length false], .f, .t] (pc h5<|pc (k_palingref04_Put h7)<|pc (im5 l8)<|pc h10<|pc (k_palingref09_Head h12)<|pc (im5 l13)<|pc h15<|pc (rn l8.length)<|pc h16<|pn)
        · obtain ⟨r17, h18, h⟩ := bo h
          obtain ⟨h19, h⟩|⟨h19, h⟩ := ite_out h
          · obtain ⟨r20, h21, h⟩ := bo h
            obtain ⟨l22, v23⟩ := r20
            obtain ⟨r24, h25, h⟩ := bo h
            obtain ⟨l26, v27⟩ := r24
            obtain ⟨r28, h29, h⟩ := bo h
            obtain ⟨r30, h31, h⟩ := bo h
            obtain ⟨r32, h33, h⟩ := bo h
            obtain ⟨l34, v35⟩ := r32
            injection h with h; subst h; exact rf Tryz.func198 (some [6]) [.f, .callo (.tup [.os 0 l8.length, .j v9]) [.arr 5 l8 l8.length false], .f, .callo (.tup [.os 0 l13.length, .j v14]) [.arr 5 l13 l13.length false], .f, .f, .callv (.j r17), .obj [] (.arr 5 (l13 ++ l8) (List.length (l13 ++ l8)) false), .callo (.tup [.os 0 l22.length, .j v23]) [.arr 5 l22 l22.length false], .callo (.tup [.os 0 l26.length, .j v27]) [.arr 5 l26 l26.length false], .callv (.v (.int .u64 r28)), .callv (.v (.int .u64 r30)), .callo (.tup [.os 0 l34.length, .j v35]) [.arr 5 l34 l34.length false]] (pc h5<|pc (k_palingref04_Put h7)<|pc (im5 l8)<|pc h10<|pc (k_palingref09_Head h12)<|pc (im5 l13)<|pc h15<|pc (rn l8.length)<|pc h16<|pc (k_palingref08_Port h18)<|pc (app_ob 5 (n := l13.length) (l := l13) (xs := l8) h19)<|pc (rn l8.length)<|pc (k_palingref08_Put h21)<|pc (im5 l22)<|pc ((rn (List.length (l13 ++ l8))))<|pc (k_palingref07_Put h25)<|pc (im5 l26)<|pc (rn l22.length)<|pc (k_palingref01_Host h29)<|pc (k_palingref01_Host h31)<|pc (k_palingref04_Put h33)<|pc (im5 l34)<|pc (rn l26.length)<|pn)
          · cases h

theorem k_palingref28_Mesh {a1 : Api_Net} {a2 : Int} {a3 : Int} {a4 : Api_Frame} {r : ((List Int) × Int)} (h : palingref28_Mesh a1 a2 a3 a4 = some r) :
    CallsOK Tryz.prog UU 120 [.agg (c31 a1), .j a2, .j a3, .agg (c62 a4)] [] ((fun r => match r with | (l29, v30) => .tup [.os 0 l29.length, .j v30]) r) ((fun r => match r with | (l29, v30) => [.arr 5 l29 l29.length false]) r) := by
  unfold palingref28_Mesh at h
  obtain ⟨r5, h6, h⟩ := bo h
  obtain ⟨h7, h⟩|⟨h7, h⟩ := ite_out h
  · injection h with h; subst h; exact rf Tryz.func120 (some [3]) [.b r5, .t] (pc (k_palingref15_Right h6)<|pc h7<|pn)
  · obtain ⟨r8, h9, h⟩ := bo h
    obtain ⟨h10, h⟩|⟨h10, h⟩ := ite_out h
    · injection h with h; subst h; exact rf Tryz.func120 (some [3]) [.b r5, .f, .b r8, .t] (pc (k_palingref15_Right h6)<|pc h7<|pc (k_palingref15_Place h9)<|pc h10<|pn)
    · obtain ⟨r11, h12, h⟩ := bo h
      obtain ⟨h13, h⟩|⟨h13, h⟩ := ite_out h
      · injection h with h; subst h; exact rf Tryz.func120 (some [3]) [.b r5, .f, .b r8, .f, .b r11, .t] (pc (k_palingref15_Right h6)<|pc h7<|pc (k_palingref15_Place h9)<|pc h10<|pc (k_palingref15_Place h12)<|pc h13<|pn)
      · obtain ⟨x14, h15, h⟩ := bo h
        obtain ⟨r16, h17, h⟩ := bo h
        obtain ⟨h18, h⟩|⟨h18, h⟩ := ite_out h
        · injection h with h; subst h; exact rf Tryz.func120 (some [3]) [.b r5, .f, .b r8, .f, .b r11, .f, .row (c93 x14), .b r16, .t] (pc (k_palingref15_Right h6)<|pc h7<|pc (k_palingref15_Place h9)<|pc h10<|pc (k_palingref15_Place h12)<|pc h13<|pc (ob93 h15)<|pc (k_palingref15_In h17)<|pc h18<|pn)
        · obtain ⟨r19, h20, h⟩ := bo h
          obtain ⟨r21, h22, h⟩ := bo h
          obtain ⟨x23, h24, h⟩ := bo h
          obtain ⟨r25, h26, h⟩ := bo h
          obtain ⟨l27, v28⟩ := r25
          injection h with h; subst h; exact rf Tryz.func120 (some [3]) [.b r5, .f, .b r8, .f, .b r11, .f, .row (c93 x14), .b r16, .f, .sum [13] [] .nor [] [.box 31 (c31 a1) false, .box 62 (c62 a4) false, .n 5, .arr 5 l27 l27.length false], .callv (.v (.int .u32 r19)), .callv (.v (.int .u32 r21)), .row (c93 x23), .callo (.tup [.os 0 l27.length, .j v28]) [.arr 5 l27 l27.length false]] (pc (k_palingref15_Right h6)<|pc h7<|pc (k_palingref15_Place h9)<|pc h10<|pc (k_palingref15_Place h12)<|pc h13<|pc (ob93 h15)<|pc (k_palingref15_In h17)<|pc h18<|pc (k_palingref28_vtep h20)<|pc (k_palingref28_vtep h22)<|pc (ob93 h24)<|pc ((rfl : ([.box 31 (c31 a1) false, .box 62 (c62 a4) false, .n 5, .arr 5 l27 l27.length false] : Heap DD) = [.box 31 (c31 a1) false, .box 62 (c62 a4) false, .n 5, .arr 5 l27 l27.length false]))<|pc (k_palingref09_Wrap h26)<|pc (im5 l27)<|pn)

end Go.Eng
