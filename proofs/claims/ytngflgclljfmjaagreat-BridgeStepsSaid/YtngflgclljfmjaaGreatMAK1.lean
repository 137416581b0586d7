/- Part of the proof of BridgeSteps: printed mirrors of the functions, or their contracts. No conditions. -/
import Derived.Test.YtngflgclljfmjaaGreatMAK
set_option linter.unusedVariables false
set_option maxRecDepth 100000
namespace Go.Eng
open Go Go.Proofs
theorem k_palinglaw15_Great_L1 {a1 : Api_Net} : LoopOK Tryz.prog UU 0 123 (subC (codeOf Tryz.f15) [1, 1, 0, 1, 0, 0]) (ρ := Unit ⊕ Unit) (palinglaw15_Great_L1 a1)
    (fun v10 : Int => ([(1, .op 0 1 0 0), (2, .v (.bool false)), (3, .j v10)] : Fr DD)) (fun v10 : Int => ([.box 31 (c31 a1) false] : Heap DD)) (fun r => match r with | Sum.inl _ => .ret | Sum.inr _ => .exit 0) (fun r => match r with | Sum.inl _ => [(2, .v (.bool true))] | Sum.inr _ => [(1, .op 0 1 0 0), (2, .v (.bool false))]) (fun r => match r with | Sum.inl _ => [] | Sum.inr _ => [.box 31 (c31 a1) false]) := by
  refine loop_sound3 (fun s q h => ?_) (fun r => ?_)
  · replace h : palinglaw15_Great_L1 a1 s = some q := h; revert h; revert s; intro v10 h
    unfold palinglaw15_Great_L1 at h
    obtain ⟨h11, h⟩|⟨h11, h⟩ := ite_out h
    · obtain ⟨x12, h13, h⟩ := bo h
      obtain ⟨h14, h⟩|⟨h14, h⟩ := ite_out h
      · injection h with h; subst h; exact rl [2] [] [.t, .row (c56 x12), .t] (pc h11<|pc (ob56 h13)<|pc h14<|pn)
      · injection h with h; subst h; exact rl [1, 2, 3] [0] [.t, .row (c56 x12), .f] (pc h11<|pc (ob56 h13)<|pc h14<|pn)
    · injection h with h; subst h; exact rl [1, 2] [0] [.f] (pc h11<|pn)
  · rcases r with _ | _ <;> exact Ex.noConfusion

theorem k_palinglaw15_Great_L2 {a1 : Api_Net} : LoopOK Tryz.prog UU 0 123 (subC (codeOf Tryz.f15) [1, 1, 1, 0, 1, 0, 0]) (ρ := Unit ⊕ Unit) (palinglaw15_Great_L2 a1)
    (fun v17 : Int => ([(1, .op 0 1 0 0), (2, .v (.bool false)), (4, .j v17)] : Fr DD)) (fun v17 : Int => ([.box 31 (c31 a1) false] : Heap DD)) (fun r => match r with | Sum.inl _ => .ret | Sum.inr _ => .exit 2) (fun r => match r with | Sum.inl _ => [(2, .v (.bool true))] | Sum.inr _ => [(1, .op 0 1 0 0), (2, .v (.bool false))]) (fun r => match r with | Sum.inl _ => [] | Sum.inr _ => [.box 31 (c31 a1) false]) := by
  refine loop_sound3 (fun s q h => ?_) (fun r => ?_)
  · replace h : palinglaw15_Great_L2 a1 s = some q := h; revert h; revert s; intro v17 h
    unfold palinglaw15_Great_L2 at h
    obtain ⟨h18, h⟩|⟨h18, h⟩ := ite_out h
    · obtain ⟨x19, h20, h⟩ := bo h
      obtain ⟨h21, h⟩|⟨h21, h⟩ := ite_out h
      · injection h with h; subst h; exact rl [2] [] [.t, .row (c93 x19), .t] (pc h18<|pc (ob93 h20)<|pc h21<|pn)
      · injection h with h; subst h; exact rl [1, 2, 4] [0] [.t, .row (c93 x19), .f] (pc h18<|pc (ob93 h20)<|pc h21<|pn)
    · injection h with h; subst h; exact rl [1, 2] [0] [.f] (pc h18<|pn)
  · rcases r with _ | _ <;> exact Ex.noConfusion

theorem k_palinglaw15_Great_L3 {a1 : Api_Net} : LoopOK Tryz.prog UU 0 123 (subC (codeOf Tryz.f15) [1, 1, 1, 1, 0, 1, 0, 0]) (ρ := Unit ⊕ Unit) (palinglaw15_Great_L3 a1)
    (fun v24 : Int => ([(1, .op 0 1 0 0), (2, .v (.bool false)), (5, .j v24)] : Fr DD)) (fun v24 : Int => ([.box 31 (c31 a1) false] : Heap DD)) (fun r => match r with | Sum.inl _ => .ret | Sum.inr _ => .exit 4) (fun r => match r with | Sum.inl _ => [(2, .v (.bool true))] | Sum.inr _ => [(1, .op 0 1 0 0), (2, .v (.bool false))]) (fun r => match r with | Sum.inl _ => [] | Sum.inr _ => [.box 31 (c31 a1) false]) := by
  refine loop_sound3 (fun s q h => ?_) (fun r => ?_)
  · replace h : palinglaw15_Great_L3 a1 s = some q := h; revert h; revert s; intro v24 h
    unfold palinglaw15_Great_L3 at h
    obtain ⟨h25, h⟩|⟨h25, h⟩ := ite_out h
    · obtain ⟨x26, h27, h⟩ := bo h
      obtain ⟨h28, h⟩|⟨h28, h⟩ := ite_out h
      · injection h with h; subst h; exact rl [2] [] [.t, .row (c100 x26), .t] (pc h25<|pc (ob100 h27)<|pc h28<|pn)
      · injection h with h; subst h; exact rl [1, 2, 5] [0] [.t, .row (c100 x26), .f] (pc h25<|pc (ob100 h27)<|pc h28<|pn)
    · injection h with h; subst h; exact rl [1, 2] [0] [.f] (pc h25<|pn)
  · rcases r with _ | _ <;> exact Ex.noConfusion

theorem k_palinglaw15_Great_L4 {a1 : Api_Net} : LoopOK Tryz.prog UU 0 123 (subC (codeOf Tryz.f15) [1, 1, 1, 1, 1, 0, 1, 0, 0]) (ρ := Unit ⊕ Unit) (palinglaw15_Great_L4 a1)
    (fun v31 : Int => ([(1, .op 0 1 0 0), (2, .v (.bool false)), (6, .j v31)] : Fr DD)) (fun v31 : Int => ([.box 31 (c31 a1) false] : Heap DD)) (fun r => match r with | Sum.inl _ => .ret | Sum.inr _ => .exit 6) (fun r => match r with | Sum.inl _ => [(2, .v (.bool true))] | Sum.inr _ => [(2, .v (.bool false))]) (fun r => match r with | Sum.inl _ => [] | Sum.inr _ => []) := by
  refine loop_sound3 (fun s q h => ?_) (fun r => ?_)
  · replace h : palinglaw15_Great_L4 a1 s = some q := h; revert h; revert s; intro v31 h
    unfold palinglaw15_Great_L4 at h
    obtain ⟨h32, h⟩|⟨h32, h⟩ := ite_out h
    · obtain ⟨x33, h34, h⟩ := bo h
      obtain ⟨h35, h⟩|⟨h35, h⟩ := ite_out h
      · injection h with h; subst h; exact rl [2] [] [.t, .row (c103 x33), .t] (pc h32<|pc (ob103 h34)<|pc h35<|pn)
      · obtain ⟨x36, h37, h⟩ := bo h
        obtain ⟨h38, h⟩|⟨h38, h⟩ := ite_out h
        · injection h with h; subst h; exact rl [2] [] [.t, .row (c103 x33), .f, .row (c103 x36), .t] (pc h32<|pc (ob103 h34)<|pc h35<|pc (ob103 h37)<|pc h38<|pn)
        · injection h with h; subst h; exact rl [1, 2, 6] [0] [.t, .row (c103 x33), .f, .row (c103 x36), .f] (pc h32<|pc (ob103 h34)<|pc h35<|pc (ob103 h37)<|pc h38<|pn)
    · injection h with h; subst h; exact rl [2] [] [.f] (pc h32<|pn)
  · rcases r with _ | _ <;> exact Ex.noConfusion

theorem k_palinglaw15_Great {a1 : Api_Net} {r : Bool} (h : palinglaw15_Great a1 = some r) :
    CallsOK Tryz.prog UU 15 [.agg (c31 a1)] [] (.v (.bool r)) [] := by
  unfold palinglaw15_Great at h
  obtain ⟨h2, h⟩|⟨h2, h⟩ := ite_out h
  · injection h with h; subst h; exact rf Tryz.func15 none [.t] (pc h2<|pn)
  · obtain ⟨h3, h⟩|⟨h3, h⟩ := ite_out h
    · injection h with h; subst h; exact rf Tryz.func15 none [.f, .t] (pc h2<|pc h3<|pn)
    · obtain ⟨h4, h⟩|⟨h4, h⟩ := ite_out h
      · injection h with h; subst h; exact rf Tryz.func15 none [.f, .f, .t] (pc h2<|pc h3<|pc h4<|pn)
      · obtain ⟨h5, h⟩|⟨h5, h⟩ := ite_out h
        · injection h with h; subst h; exact rf Tryz.func15 none [.f, .f, .f, .t] (pc h2<|pc h3<|pc h4<|pc h5<|pn)
        · obtain ⟨h6, h⟩|⟨h6, h⟩ := ite_out h
          · injection h with h; subst h; exact rf Tryz.func15 none [.f, .f, .f, .f, .t] (pc h2<|pc h3<|pc h4<|pc h5<|pc h6<|pn)
          · obtain ⟨h7, h⟩|⟨h7, h⟩ := ite_out h
            · injection h with h; subst h; exact rf Tryz.func15 none [.f, .f, .f, .f, .f, .t] (pc h2<|pc h3<|pc h4<|pc h5<|pc h6<|pc h7<|pn)
            · obtain ⟨h8, h⟩|⟨h8, h⟩ := ite_out h
              · injection h with h; subst h; exact rf Tryz.func15 none [.f, .f, .f, .f, .f, .f, .t] (pc h2<|pc h3<|pc h4<|pc h5<|pc h6<|pc h7<|pc h8<|pn)
              · obtain ⟨h9, h⟩|⟨h9, h⟩ := ite_out h
                · injection h with h; subst h; exact rf Tryz.func15 none [.f, .f, .f, .f, .f, .f, .f, .t] (pc h2<|pc h3<|pc h4<|pc h5<|pc h6<|pc h7<|pc h8<|pc h9<|pn)
                · obtain ⟨r16, h15, h⟩ := bo h
                  rcases r16 with _ | _
                  · injection h with h; subst h; exact rf Tryz.func15 none [.f, .f, .f, .f, .f, .f, .f, .f, .sum [1, 2, 3] [0] .ret [(2, .v (.bool true))] []] (pc h2<|pc h3<|pc h4<|pc h5<|pc h6<|pc h7<|pc h8<|pc h9<|pc (k_palinglaw15_Great_L1 _ _ h15)<|pn)
                  · obtain ⟨r23, h22, h⟩ := bo h
                    rcases r23 with _ | _
                    · injection h with h; subst h; exact rf Tryz.func15 none [.f, .f, .f, .f, .f, .f, .f, .f, .sum [1, 2, 3] [0] (.exit 0) [(1, .op 0 1 0 0), (2, .v (.bool false))] [.box 31 (c31 a1) false], .sum [1, 2, 4] [0] .ret [(2, .v (.bool true))] []] (pc h2<|pc h3<|pc h4<|pc h5<|pc h6<|pc h7<|pc h8<|pc h9<|pc (k_palinglaw15_Great_L1 _ _ h15)<|pc (k_palinglaw15_Great_L2 _ _ h22)<|pn)
                    · obtain ⟨r30, h29, h⟩ := bo h
                      rcases r30 with _ | _
                      · injection h with h; subst h; exact rf Tryz.func15 none [.f, .f, .f, .f, .f, .f, .f, .f, .sum [1, 2, 3] [0] (.exit 0) [(1, .op 0 1 0 0), (2, .v (.bool false))] [.box 31 (c31 a1) false], .sum [1, 2, 4] [0] (.exit 2) [(1, .op 0 1 0 0), (2, .v (.bool false))] [.box 31 (c31 a1) false], .sum [1, 2, 5] [0] .ret [(2, .v (.bool true))] []] (pc h2<|pc h3<|pc h4<|pc h5<|pc h6<|pc h7<|pc h8<|pc h9<|pc (k_palinglaw15_Great_L1 _ _ h15)<|pc (k_palinglaw15_Great_L2 _ _ h22)<|pc (k_palinglaw15_Great_L3 _ _ h29)<|pn)
                      · obtain ⟨r40, h39, h⟩ := bo h
                        rcases r40 with _ | _
                        · injection h with h; subst h; exact rf Tryz.func15 none [.f, .f, .f, .f, .f, .f, .f, .f, .sum [1, 2, 3] [0] (.exit 0) [(1, .op 0 1 0 0), (2, .v (.bool false))] [.box 31 (c31 a1) false], .sum [1, 2, 4] [0] (.exit 2) [(1, .op 0 1 0 0), (2, .v (.bool false))] [.box 31 (c31 a1) false], .sum [1, 2, 5] [0] (.exit 4) [(1, .op 0 1 0 0), (2, .v (.bool false))] [.box 31 (c31 a1) false], .sum [1, 2, 6] [0] .ret [(2, .v (.bool true))] []] (pc h2<|pc h3<|pc h4<|pc h5<|pc h6<|pc h7<|pc h8<|pc h9<|pc (k_palinglaw15_Great_L1 _ _ h15)<|pc (k_palinglaw15_Great_L2 _ _ h22)<|pc (k_palinglaw15_Great_L3 _ _ h29)<|pc (k_palinglaw15_Great_L4 _ _ h39)<|pn)
                        · injection h with h; subst h; exact rf Tryz.func15 none [.f, .f, .f, .f, .f, .f, .f, .f, .sum [1, 2, 3] [0] (.exit 0) [(1, .op 0 1 0 0), (2, .v (.bool false))] [.box 31 (c31 a1) false], .sum [1, 2, 4] [0] (.exit 2) [(1, .op 0 1 0 0), (2, .v (.bool false))] [.box 31 (c31 a1) false], .sum [1, 2, 5] [0] (.exit 4) [(1, .op 0 1 0 0), (2, .v (.bool false))] [.box 31 (c31 a1) false], .sum [1, 2, 6] [0] (.exit 6) [(2, .v (.bool false))] []] (pc h2<|pc h3<|pc h4<|pc h5<|pc h6<|pc h7<|pc h8<|pc h9<|pc (k_palinglaw15_Great_L1 _ _ h15)<|pc (k_palinglaw15_Great_L2 _ _ h22)<|pc (k_palinglaw15_Great_L3 _ _ h29)<|pc (k_palinglaw15_Great_L4 _ _ h39)<|pn)

theorem k_palinglaw31_Great {a1 : Api_Net} {a2 : List Bool} {a3 : List Api_Entry} {a4 : Api_Queued} {r : Bool} (h : palinglaw31_Great a1 a2 a3 a4 = some r) :
    CallsOK Tryz.prog UU 30 [.agg (c31 a1), .sl 4 a2, .sl 84 a3, .agg (c64 a4)] [] (.v (.bool r)) [] := by
  unfold palinglaw31_Great at h
  obtain ⟨r5, h6, h⟩ := bo h
  obtain ⟨h7, h⟩|⟨h7, h⟩ := ite_out h
  · injection h with h; subst h; exact rf Tryz.func30 none [.b r5, .t] (pc (k_palinglaw15_Great h6)<|pc h7<|pn)
  · obtain ⟨h8, h⟩|⟨h8, h⟩ := ite_out h
    · injection h with h; subst h; exact rf Tryz.func30 none [.b r5, .f, .t] (pc (k_palinglaw15_Great h6)<|pc h7<|pc h8<|pn)
    · obtain ⟨h9, h⟩|⟨h9, h⟩ := ite_out h
      · injection h with h; subst h; exact rf Tryz.func30 none [.b r5, .f, .f, .t] (pc (k_palinglaw15_Great h6)<|pc h7<|pc h8<|pc h9<|pn)
      · injection h with h; subst h; exact rf Tryz.func30 none [.b r5, .f, .f, .f] (pc (k_palinglaw15_Great h6)<|pc h7<|pc h8<|pc h9<|pn)

theorem k_names_judge_few {a1 : Names_judge} {r : Bool} (h : names_judge_few a1 = some r) :
    CallsOK Tryz.prog UU 87 [.agg (c132 a1)] [] (.v (.bool r)) [] := by
  unfold names_judge_few at h
  obtain ⟨h2, h⟩|⟨h2, h⟩ := ite_out h
  · obtain ⟨h3, h⟩|⟨h3, h⟩ := ite_out h
    · obtain ⟨h4, h⟩|⟨h4, h⟩ := ite_out h
      · obtain ⟨h5, h⟩|⟨h5, h⟩ := ite_out h
        · obtain ⟨h6, h⟩|⟨h6, h⟩ := ite_out h
          · obtain ⟨h7, h⟩|⟨h7, h⟩ := ite_out h
            · obtain ⟨h8, h⟩|⟨h8, h⟩ := ite_out h
              · injection h with h; subst h; exact rf Tryz.func87 none [.t, .t, .t, .t, .t, .t, .t] (pc h2<|pc h3<|pc h4<|pc h5<|pc h6<|pc h7<|pc h8<|pn)
              · injection h with h; subst h; exact rf Tryz.func87 none [.t, .t, .t, .t, .t, .t, .f] (pc h2<|pc h3<|pc h4<|pc h5<|pc h6<|pc h7<|pc h8<|pn)
            · injection h with h; subst h; exact rf Tryz.func87 none [.t, .t, .t, .t, .t, .f] (pc h2<|pc h3<|pc h4<|pc h5<|pc h6<|pc h7<|pn)
          · injection h with h; subst h; exact rf Tryz.func87 none [.t, .t, .t, .t, .f] (pc h2<|pc h3<|pc h4<|pc h5<|pc h6<|pn)
        · injection h with h; subst h; exact rf Tryz.func87 none [.t, .t, .t, .f] (pc h2<|pc h3<|pc h4<|pc h5<|pn)
      · injection h with h; subst h; exact rf Tryz.func87 none [.t, .t, .f] (pc h2<|pc h3<|pc h4<|pn)
    · injection h with h; subst h; exact rf Tryz.func87 none [.t, .f] (pc h2<|pc h3<|pn)
  · injection h with h; subst h; exact rf Tryz.func87 none [.f] (pc h2<|pn)

theorem k_names_place_Device {a1 : List Api_Device} {a2 : Int} {r : Bool} (h : names_place_Device a1 a2 = some r) :
    CallsOK Tryz.prog UU 99 [.sl 91 a1, .j a2] [] (.v (.bool r)) [] := by
  unfold names_place_Device at h
  obtain ⟨h3, h⟩|⟨h3, h⟩ := ite_out h
  · injection h with h; subst h; exact rf Tryz.func99 none [.t] (pc h3<|pn)
  · injection h with h; subst h; exact rf Tryz.func99 none [.f] (pc h3<|pn)

theorem k_names_judge_domain_1 {a1 : Api_Domain} {a2 : Int} {a3 : Int} {r : Bool} (h : names_judge_domain_1 a1 a2 a3 = some r) :
    CallsOK Tryz.prog UU 221 [.agg (c93 a1), .rp (c3 a2) 0, .rp (c3 a3) 0] [] (.v (.bool r)) [] := by
  unfold names_judge_domain_1 at h
  obtain ⟨h4, h⟩|⟨h4, h⟩ := ite_out h
  · injection h with h; subst h; exact rf Tryz.func221 none [.t] (pc h4<|pn)
  · injection h with h; subst h; exact rf Tryz.func221 none [.f] (pc h4<|pn)

theorem k_slices_IndexFunc_Domain_judge_domain_1_L1 {a1 : List Api_Domain} {a2 : Int} {a3 : Int} : LoopOK Tryz.prog UU 0 19 (subC (codeOf Tryz.f162) [1, 0, 1, 0, 0]) (ρ := Int ⊕ Unit) (slices_IndexFunc_Domain_judge_domain_1_L1 a1 a2 a3)
    (fun v4 : Int => ([(0, .sl 93 a1), (1, .fn (.func 221) [] [.rp (c3 a2) 0, .rp (c3 a3) 0]), (4, .z), (7, .j (a1.length : Int)), (8, .j v4)] : Fr DD)) (fun v4 : Int => ([] : Heap DD)) (fun r => match r with | Sum.inl v12 => .ret | Sum.inr _ => .exit 0) (fun r => match r with | Sum.inl v12 => [(4, .j v12)] | Sum.inr _ => [(4, .z)]) (fun r => match r with | Sum.inl v12 => [] | Sum.inr _ => []) := by
  refine loop_sound3 (fun s q h => ?_) (fun r => ?_)
  · replace h : slices_IndexFunc_Domain_judge_domain_1_L1 a1 a2 a3 s = some q := h; revert h; revert s; intro v4 h
    unfold slices_IndexFunc_Domain_judge_domain_1_L1 at h
    obtain ⟨h5, h⟩|⟨h5, h⟩ := ite_out h
    · obtain ⟨x6, h7, h⟩ := bo h
      obtain ⟨r8, h9, h⟩ := bo h
      obtain ⟨h10, h⟩|⟨h10, h⟩ := ite_out h
      · injection h with h; subst h; exact rl [4] [] [.t, .row (c93 x6), .b r8, .t] (pc h5<|pc (ob93 h7)<|pc (k_names_judge_domain_1 h9)<|pc h10<|pn)
      · injection h with h; subst h; exact rl [0, 1, 4, 7, 8] [] [.t, .row (c93 x6), .b r8, .f] (pc h5<|pc (ob93 h7)<|pc (k_names_judge_domain_1 h9)<|pc h10<|pn)
    · injection h with h; subst h; exact rl [4] [] [.f] (pc h5<|pn)
  · rcases r with _ | _ <;> exact Ex.noConfusion

theorem k_slices_IndexFunc_Domain_judge_domain_1 {a1 : List Api_Domain} {a2 : Int} {a3 : Int} {r : Int} (h : slices_IndexFunc_Domain_judge_domain_1 a1 a2 a3 = some r) :
    CallsOK Tryz.prog UU 162 [.sl 93 a1, .fn (.func 221) [] [.rp (c3 a2) 0, .rp (c3 a3) 0]] [] (.j r) [] := by
  unfold slices_IndexFunc_Domain_judge_domain_1 at h
  obtain ⟨r14, h13, h⟩ := bo h
  rcases r14 with v12 | _
  · injection h with h; subst h; exact rf Tryz.func162 none [.sum [0, 1, 4, 7, 8] [] .ret [(4, .j v12)] []] (pc (k_slices_IndexFunc_Domain_judge_domain_1_L1 _ _ h13)<|pn)
  · injection h with h; subst h; exact rf Tryz.func162 none [.sum [0, 1, 4, 7, 8] [] (.exit 0) [(4, .z)] []] (pc (k_slices_IndexFunc_Domain_judge_domain_1_L1 _ _ h13)<|pn)

theorem k_names_judge_domain {a1 : Names_judge} {a2 : Int} {a3 : Int} {r : Int} (h : names_judge_domain a1 a2 a3 = some r) :
    CallsOK Tryz.prog UU 164 [.agg (c132 a1), .j a2, .j a3] [] (.j r) [] := by
  unfold names_judge_domain at h
  obtain ⟨r4, h5, h⟩ := bo h
  injection h with h; subst h; exact rf Tryz.func164 none [.callv (.j r4)] (pc (k_slices_IndexFunc_Domain_judge_domain_1 h5)<|pn)

theorem k_names_place_Irb {a1 : List Api_Irb} {a2 : Int} {r : Bool} (h : names_place_Irb a1 a2 = some r) :
    CallsOK Tryz.prog UU 163 [.sl 118 a1, .j a2] [] (.v (.bool r)) [] := by
  unfold names_place_Irb at h
  obtain ⟨h3, h⟩|⟨h3, h⟩ := ite_out h
  · injection h with h; subst h; exact rf Tryz.func163 none [.t] (pc h3<|pn)
  · injection h with h; subst h; exact rf Tryz.func163 none [.f] (pc h3<|pn)

theorem k_names_judge_bare {a1 : Names_judge} {a2 : Int} {a3 : Api_Domain} {r : Bool} (h : names_judge_bare a1 a2 a3 = some r) :
    CallsOK Tryz.prog UU 89 [.agg (c132 a1), .j a2, .agg (c93 a3)] [] (.v (.bool r)) [] := by
  unfold names_judge_bare at h
  obtain ⟨r4, h5, h⟩ := bo h
  obtain ⟨h6, h⟩|⟨h6, h⟩ := ite_out h
  · obtain ⟨h7, h⟩|⟨h7, h⟩ := ite_out h
    · obtain ⟨h8, h⟩|⟨h8, h⟩ := ite_out h
      · obtain ⟨h9, h⟩|⟨h9, h⟩ := ite_out h
        · obtain ⟨h10, h⟩|⟨h10, h⟩ := ite_out h
          · obtain ⟨h11, h⟩|⟨h11, h⟩ := ite_out h
            · obtain ⟨r12, h13, h⟩ := bo h
              injection h with h; subst h; exact rf Tryz.func89 none [.b r4, .t, .t, .t, .t, .t, .t, .callv (.j r12)] (pc (k_names_place_Device h5)<|pc h6<|pc h7<|pc h8<|pc h9<|pc h10<|pc h11<|pc (k_names_judge_domain h13)<|pn)
            · obtain ⟨r14, h15, h⟩ := bo h
              obtain ⟨h16, h⟩|⟨h16, h⟩ := ite_out h
              · obtain ⟨x17, h18, h⟩ := bo h
                obtain ⟨h19, h⟩|⟨h19, h⟩ := ite_out h
                · obtain ⟨r20, h21, h⟩ := bo h
                  injection h with h; subst h; exact rf Tryz.func89 none [.b r4, .t, .t, .t, .t, .t, .f, .b r14, .t, .row (c118 x17), .t, .callv (.j r20)] (pc (k_names_place_Device h5)<|pc h6<|pc h7<|pc h8<|pc h9<|pc h10<|pc h11<|pc (k_names_place_Irb h15)<|pc h16<|pc (ob118 h18)<|pc h19<|pc (k_names_judge_domain h21)<|pn)
                · injection h with h; subst h; exact rf Tryz.func89 none [.b r4, .t, .t, .t, .t, .t, .f, .b r14, .t, .row (c118 x17), .f] (pc (k_names_place_Device h5)<|pc h6<|pc h7<|pc h8<|pc h9<|pc h10<|pc h11<|pc (k_names_place_Irb h15)<|pc h16<|pc (ob118 h18)<|pc h19<|pn)
              · injection h with h; subst h; exact rf Tryz.func89 none [.b r4, .t, .t, .t, .t, .t, .f, .b r14, .f] (pc (k_names_place_Device h5)<|pc h6<|pc h7<|pc h8<|pc h9<|pc h10<|pc h11<|pc (k_names_place_Irb h15)<|pc h16<|pn)
          · injection h with h; subst h; exact rf Tryz.func89 none [.b r4, .t, .t, .t, .t, .f] (pc (k_names_place_Device h5)<|pc h6<|pc h7<|pc h8<|pc h9<|pc h10<|pn)
        · injection h with h; subst h; exact rf Tryz.func89 none [.b r4, .t, .t, .t, .f] (pc (k_names_place_Device h5)<|pc h6<|pc h7<|pc h8<|pc h9<|pn)
      · injection h with h; subst h; exact rf Tryz.func89 none [.b r4, .t, .t, .f] (pc (k_names_place_Device h5)<|pc h6<|pc h7<|pc h8<|pn)
    · injection h with h; subst h; exact rf Tryz.func89 none [.b r4, .t, .f] (pc (k_names_place_Device h5)<|pc h6<|pc h7<|pn)
  · injection h with h; subst h; exact rf Tryz.func89 none [.b r4, .f] (pc (k_names_place_Device h5)<|pc h6<|pn)

theorem k_names_all_Domain_judge_bare_L1 {a1 : List Api_Domain} {a2 : Names_judge} : LoopOK Tryz.prog UU 0 20 (subC (codeOf Tryz.f88) [1, 0, 1, 0, 0]) (ρ := Unit ⊕ Unit) (names_all_Domain_judge_bare_L1 a1 a2)
    (fun v3 : Int => ([(1, .fn (.func 89) [.agg (c132 a2)] []), (4, .v (.bool false)), (7, .sl 93 a1), (8, .j (a1.length : Int)), (9, .j v3)] : Fr DD)) (fun v3 : Int => ([] : Heap DD)) (fun r => match r with | Sum.inl _ => .ret | Sum.inr _ => .exit 0) (fun r => match r with | Sum.inl _ => [(4, .v (.bool false))] | Sum.inr _ => [(4, .v (.bool false))]) (fun r => match r with | Sum.inl _ => [] | Sum.inr _ => []) := by
  refine loop_sound3 (fun s q h => ?_) (fun r => ?_)
  · replace h : names_all_Domain_judge_bare_L1 a1 a2 s = some q := h; revert h; revert s; intro v3 h
    unfold names_all_Domain_judge_bare_L1 at h
    obtain ⟨h4, h⟩|⟨h4, h⟩ := ite_out h
    · obtain ⟨x5, h6, h⟩ := bo h
      obtain ⟨r7, h8, h⟩ := bo h
      obtain ⟨h9, h⟩|⟨h9, h⟩ := ite_out h
      · injection h with h; subst h; exact rl [4] [] [.t, .row (c93 x5), .b r7, .t] (pc h4<|pc (ob93 h6)<|pc (k_names_judge_bare h8)<|pc h9<|pn)
      · injection h with h; subst h; exact rl [1, 4, 7, 8, 9] [] [.t, .row (c93 x5), .b r7, .f] (pc h4<|pc (ob93 h6)<|pc (k_names_judge_bare h8)<|pc h9<|pn)
    · injection h with h; subst h; exact rl [4] [] [.f] (pc h4<|pn)
  · rcases r with _ | _ <;> exact Ex.noConfusion

theorem k_names_all_Domain_judge_bare {a1 : List Api_Domain} {a2 : Names_judge} {r : Bool} (h : names_all_Domain_judge_bare a1 a2 = some r) :
    CallsOK Tryz.prog UU 88 [.sl 93 a1, .fn (.func 89) [.agg (c132 a2)] []] [] (.v (.bool r)) [] := by
  unfold names_all_Domain_judge_bare at h
  obtain ⟨r11, h10, h⟩ := bo h
  rcases r11 with _ | _
  · injection h with h; subst h; exact rf Tryz.func88 none [.sum [1, 4, 7, 8, 9] [] .ret [(4, .v (.bool false))] []] (pc (k_names_all_Domain_judge_bare_L1 _ _ h10)<|pn)
  · injection h with h; subst h; exact rf Tryz.func88 none [.sum [1, 4, 7, 8, 9] [] (.exit 0) [(4, .v (.bool false))] []] (pc (k_names_all_Domain_judge_bare_L1 _ _ h10)<|pn)

theorem k_names_place_Domain {a1 : List Api_Domain} {a2 : Int} {r : Bool} (h : names_place_Domain a1 a2 = some r) :
    CallsOK Tryz.prog UU 156 [.sl 93 a1, .j a2] [] (.v (.bool r)) [] := by
  unfold names_place_Domain at h
  obtain ⟨h3, h⟩|⟨h3, h⟩ := ite_out h
  · injection h with h; subst h; exact rf Tryz.func156 none [.t] (pc h3<|pn)
  · injection h with h; subst h; exact rf Tryz.func156 none [.f] (pc h3<|pn)

theorem k_names_judge_vtep {a1 : Names_judge} {a2 : Api_Domain} {r : Bool} (h : names_judge_vtep a1 a2 = some r) :
    CallsOK Tryz.prog UU 222 [.agg (c132 a1), .agg (c93 a2)] [] (.v (.bool r)) [] := by
  unfold names_judge_vtep at h
  obtain ⟨x3, h4, h⟩ := bo h
  injection h with h; subst h; exact rf Tryz.func222 none [.row (c91 x3)] (pc (ob91 h4)<|pn)

theorem k_slices_Index_int_L1 {a1 : List Int} {a2 : Int} : LoopOK Tryz.prog UU 0 19 (subC (codeOf Tryz.f168) [1, 0, 1, 0, 0]) (ρ := Int ⊕ Unit) (slices_Index_int_L1 a1 a2)
    (fun v3 : Int => ([(0, .sl 3 a1), (1, .j a2), (4, .z), (7, .j (a1.length : Int)), (8, .j v3)] : Fr DD)) (fun v3 : Int => ([] : Heap DD)) (fun r => match r with | Sum.inl v9 => .ret | Sum.inr _ => .exit 0) (fun r => match r with | Sum.inl v9 => [(4, .j v9)] | Sum.inr _ => [(4, .z)]) (fun r => match r with | Sum.inl v9 => [] | Sum.inr _ => []) := by
  refine loop_sound3 (fun s q h => ?_) (fun r => ?_)
  · replace h : slices_Index_int_L1 a1 a2 s = some q := h; revert h; revert s; intro v3 h
    unfold slices_Index_int_L1 at h
    obtain ⟨h4, h⟩|⟨h4, h⟩ := ite_out h
    · obtain ⟨x5, h6, h⟩ := bo h
      obtain ⟨h7, h⟩|⟨h7, h⟩ := ite_out h
      · injection h with h; subst h; exact rl [4] [] [.t, .row (c3 x5), .t] (pc h4<|pc (ob3 h6)<|pc h7<|pn)
      · injection h with h; subst h; exact rl [0, 1, 4, 7, 8] [] [.t, .row (c3 x5), .f] (pc h4<|pc (ob3 h6)<|pc h7<|pn)
    · injection h with h; subst h; exact rl [4] [] [.f] (pc h4<|pn)
  · rcases r with _ | _ <;> exact Ex.noConfusion

theorem k_slices_Index_int {a1 : List Int} {a2 : Int} {r : Int} (h : slices_Index_int a1 a2 = some r) :
    CallsOK Tryz.prog UU 168 [.sl 3 a1, .j a2] [] (.j r) [] := by
  unfold slices_Index_int at h
  obtain ⟨r11, h10, h⟩ := bo h
  rcases r11 with v9 | _
  · injection h with h; subst h; exact rf Tryz.func168 none [.sum [0, 1, 4, 7, 8] [] .ret [(4, .j v9)] []] (pc (k_slices_Index_int_L1 _ _ h10)<|pn)
  · injection h with h; subst h; exact rf Tryz.func168 none [.sum [0, 1, 4, 7, 8] [] (.exit 0) [(4, .z)] []] (pc (k_slices_Index_int_L1 _ _ h10)<|pn)

theorem k_slices_Contains_int {a1 : List Int} {a2 : Int} {r : Bool} (h : slices_Contains_int a1 a2 = some r) :
    CallsOK Tryz.prog UU 105 [.sl 3 a1, .j a2] [] (.v (.bool r)) [] := by
  unfold slices_Contains_int at h
  obtain ⟨r3, h4, h⟩ := bo h
  injection h with h; subst h; exact rf Tryz.func105 none [.callv (.j r3)] (pc (k_slices_Index_int h4)<|pn)

theorem k_names_judge_peer {a1 : Names_judge} {a2 : Int} {a3 : Api_Domain} {a4 : Int} {r : Bool} (h : names_judge_peer a1 a2 a3 a4 = some r) :
    CallsOK Tryz.prog UU 167 [.agg (c132 a1), .j a2, .agg (c93 a3), .j a4] [] (.v (.bool r)) [] := by
  unfold names_judge_peer at h
  obtain ⟨r5, h6, h⟩ := bo h
  obtain ⟨h7, h⟩|⟨h7, h⟩ := ite_out h
  · injection h with h; subst h; exact rf Tryz.func167 none [.b r5, .t] (pc (k_names_place_Domain h6)<|pc h7<|pn)
  · obtain ⟨h8, h⟩|⟨h8, h⟩ := ite_out h
    · injection h with h; subst h; exact rf Tryz.func167 none [.b r5, .f, .t] (pc (k_names_place_Domain h6)<|pc h7<|pc h8<|pn)
    · obtain ⟨x9, h10, h⟩ := bo h
      obtain ⟨r11, h12, h⟩ := bo h
      obtain ⟨h13, h⟩|⟨h13, h⟩ := ite_out h
      · obtain ⟨h14, h⟩|⟨h14, h⟩ := ite_out h
        · obtain ⟨h15, h⟩|⟨h15, h⟩ := ite_out h
          · obtain ⟨h16, h⟩|⟨h16, h⟩ := ite_out h
            · obtain ⟨r17, h18, h⟩ := bo h
              obtain ⟨h19, h⟩|⟨h19, h⟩ := ite_out h
              · obtain ⟨r20, h21, h⟩ := bo h
                obtain ⟨h22, h⟩|⟨h22, h⟩ := ite_out h
                · obtain ⟨r23, h24, h⟩ := bo h
                  injection h with h; subst h; exact rf Tryz.func167 none [.b r5, .f, .f, .row (c93 x9), .b r11, .t, .t, .t, .t, .b r17, .t, .b r20, .t, .b r23] (pc (k_names_place_Domain h6)<|pc h7<|pc h8<|pc (ob93 h10)<|pc (k_names_place_Device h12)<|pc h13<|pc h14<|pc h15<|pc h16<|pc (k_names_judge_vtep h18)<|pc h19<|pc (k_names_judge_vtep h21)<|pc h22<|pc (k_slices_Contains_int h24)<|pn)
                · injection h with h; subst h; exact rf Tryz.func167 none [.b r5, .f, .f, .row (c93 x9), .b r11, .t, .t, .t, .t, .b r17, .t, .b r20, .f] (pc (k_names_place_Domain h6)<|pc h7<|pc h8<|pc (ob93 h10)<|pc (k_names_place_Device h12)<|pc h13<|pc h14<|pc h15<|pc h16<|pc (k_names_judge_vtep h18)<|pc h19<|pc (k_names_judge_vtep h21)<|pc h22<|pn)
              · injection h with h; subst h; exact rf Tryz.func167 none [.b r5, .f, .f, .row (c93 x9), .b r11, .t, .t, .t, .t, .b r17, .f] (pc (k_names_place_Domain h6)<|pc h7<|pc h8<|pc (ob93 h10)<|pc (k_names_place_Device h12)<|pc h13<|pc h14<|pc h15<|pc h16<|pc (k_names_judge_vtep h18)<|pc h19<|pn)
            · injection h with h; subst h; exact rf Tryz.func167 none [.b r5, .f, .f, .row (c93 x9), .b r11, .t, .t, .t, .f] (pc (k_names_place_Domain h6)<|pc h7<|pc h8<|pc (ob93 h10)<|pc (k_names_place_Device h12)<|pc h13<|pc h14<|pc h15<|pc h16<|pn)
          · injection h with h; subst h; exact rf Tryz.func167 none [.b r5, .f, .f, .row (c93 x9), .b r11, .t, .t, .f] (pc (k_names_place_Domain h6)<|pc h7<|pc h8<|pc (ob93 h10)<|pc (k_names_place_Device h12)<|pc h13<|pc h14<|pc h15<|pn)
        · injection h with h; subst h; exact rf Tryz.func167 none [.b r5, .f, .f, .row (c93 x9), .b r11, .t, .f] (pc (k_names_place_Domain h6)<|pc h7<|pc h8<|pc (ob93 h10)<|pc (k_names_place_Device h12)<|pc h13<|pc h14<|pn)
      · injection h with h; subst h; exact rf Tryz.func167 none [.b r5, .f, .f, .row (c93 x9), .b r11, .f] (pc (k_names_place_Domain h6)<|pc h7<|pc h8<|pc (ob93 h10)<|pc (k_names_place_Device h12)<|pc h13<|pn)

theorem k_names_judge_peers_1 {a1 : Int} {a2 : Int} {a3 : Names_judge} {a4 : Int} {a5 : Api_Domain} {r : Bool} (h : names_judge_peers_1 a1 a2 a3 a4 a5 = some r) :
    CallsOK Tryz.prog UU 166 [.j a1, .j a2, .rp (c132 a3) 0, .rp (c3 a4) 0, .rp (c93 a5) 0] [] (.v (.bool r)) [] := by
  unfold names_judge_peers_1 at h
  obtain ⟨r6, h7, h⟩ := bo h
  obtain ⟨h8, h⟩|⟨h8, h⟩ := ite_out h
  · obtain ⟨r9, h10, h⟩ := bo h
    injection h with h; subst h; exact rf Tryz.func166 none [.b r6, .t, .callv (.j r9)] (pc (k_names_judge_peer h7)<|pc h8<|pc (k_slices_Index_int h10)<|pn)
  · injection h with h; subst h; exact rf Tryz.func166 none [.b r6, .f] (pc (k_names_judge_peer h7)<|pc h8<|pn)

theorem k_names_all_int_judge_peers_1_L1 {a1 : List Int} {a2 : Names_judge} {a3 : Int} {a4 : Api_Domain} : LoopOK Tryz.prog UU 0 20 (subC (codeOf Tryz.f165) [1, 0, 1, 0, 0]) (ρ := Unit ⊕ Unit) (names_all_int_judge_peers_1_L1 a1 a2 a3 a4)
    (fun v5 : Int => ([(1, .fn (.func 166) [] [.rp (c132 a2) 0, .rp (c3 a3) 0, .rp (c93 a4) 0]), (4, .v (.bool false)), (7, .sl 3 a1), (8, .j (a1.length : Int)), (9, .j v5)] : Fr DD)) (fun v5 : Int => ([] : Heap DD)) (fun r => match r with | Sum.inl _ => .ret | Sum.inr _ => .exit 0) (fun r => match r with | Sum.inl _ => [(4, .v (.bool false))] | Sum.inr _ => [(4, .v (.bool false))]) (fun r => match r with | Sum.inl _ => [] | Sum.inr _ => []) := by
  refine loop_sound3 (fun s q h => ?_) (fun r => ?_)
  · replace h : names_all_int_judge_peers_1_L1 a1 a2 a3 a4 s = some q := h; revert h; revert s; intro v5 h
    unfold names_all_int_judge_peers_1_L1 at h
    obtain ⟨h6, h⟩|⟨h6, h⟩ := ite_out h
    · obtain ⟨x7, h8, h⟩ := bo h
      obtain ⟨r9, h10, h⟩ := bo h
      obtain ⟨h11, h⟩|⟨h11, h⟩ := ite_out h
      · injection h with h; subst h; exact rl [4] [] [.t, .row (c3 x7), .b r9, .t] (pc h6<|pc (ob3 h8)<|pc (k_names_judge_peers_1 h10)<|pc h11<|pn)
      · injection h with h; subst h; exact rl [1, 4, 7, 8, 9] [] [.t, .row (c3 x7), .b r9, .f] (pc h6<|pc (ob3 h8)<|pc (k_names_judge_peers_1 h10)<|pc h11<|pn)
    · injection h with h; subst h; exact rl [4] [] [.f] (pc h6<|pn)
  · rcases r with _ | _ <;> exact Ex.noConfusion

theorem k_names_all_int_judge_peers_1 {a1 : List Int} {a2 : Names_judge} {a3 : Int} {a4 : Api_Domain} {r : Bool} (h : names_all_int_judge_peers_1 a1 a2 a3 a4 = some r) :
    CallsOK Tryz.prog UU 165 [.sl 3 a1, .fn (.func 166) [] [.rp (c132 a2) 0, .rp (c3 a3) 0, .rp (c93 a4) 0]] [] (.v (.bool r)) [] := by
  unfold names_all_int_judge_peers_1 at h
  obtain ⟨r13, h12, h⟩ := bo h
  rcases r13 with _ | _
  · injection h with h; subst h; exact rf Tryz.func165 none [.sum [1, 4, 7, 8, 9] [] .ret [(4, .v (.bool false))] []] (pc (k_names_all_int_judge_peers_1_L1 _ _ h12)<|pn)
  · injection h with h; subst h; exact rf Tryz.func165 none [.sum [1, 4, 7, 8, 9] [] (.exit 0) [(4, .v (.bool false))] []] (pc (k_names_all_int_judge_peers_1_L1 _ _ h12)<|pn)

theorem k_names_judge_peers {a1 : Names_judge} {a2 : Int} {a3 : Api_Domain} {r : Bool} (h : names_judge_peers a1 a2 a3 = some r) :
    CallsOK Tryz.prog UU 90 [.agg (c132 a1), .j a2, .agg (c93 a3)] [] (.v (.bool r)) [] := by
  unfold names_judge_peers at h
  obtain ⟨r4, h5, h⟩ := bo h
  injection h with h; subst h; exact rf Tryz.func90 none [.b r4] (pc (k_names_all_int_judge_peers_1 h5)<|pn)

theorem k_names_all_Domain_judge_peers_L1 {a1 : List Api_Domain} {a2 : Names_judge} : LoopOK Tryz.prog UU 0 20 (subC (codeOf Tryz.f88) [1, 0, 1, 0, 0]) (ρ := Unit ⊕ Unit) (names_all_Domain_judge_peers_L1 a1 a2)
    (fun v3 : Int => ([(1, .fn (.func 90) [.agg (c132 a2)] []), (4, .v (.bool false)), (7, .sl 93 a1), (8, .j (a1.length : Int)), (9, .j v3)] : Fr DD)) (fun v3 : Int => ([] : Heap DD)) (fun r => match r with | Sum.inl _ => .ret | Sum.inr _ => .exit 0) (fun r => match r with | Sum.inl _ => [(4, .v (.bool false))] | Sum.inr _ => [(4, .v (.bool false))]) (fun r => match r with | Sum.inl _ => [] | Sum.inr _ => []) := by
  refine loop_sound3 (fun s q h => ?_) (fun r => ?_)
  · replace h : names_all_Domain_judge_peers_L1 a1 a2 s = some q := h; revert h; revert s; intro v3 h
    unfold names_all_Domain_judge_peers_L1 at h
    obtain ⟨h4, h⟩|⟨h4, h⟩ := ite_out h
    · obtain ⟨x5, h6, h⟩ := bo h
      obtain ⟨r7, h8, h⟩ := bo h
      obtain ⟨h9, h⟩|⟨h9, h⟩ := ite_out h
      · injection h with h; subst h; exact rl [4] [] [.t, .row (c93 x5), .b r7, .t] (pc h4<|pc (ob93 h6)<|pc (k_names_judge_peers h8)<|pc h9<|pn)
      · injection h with h; subst h; exact rl [1, 4, 7, 8, 9] [] [.t, .row (c93 x5), .b r7, .f] (pc h4<|pc (ob93 h6)<|pc (k_names_judge_peers h8)<|pc h9<|pn)
    · injection h with h; subst h; exact rl [4] [] [.f] (pc h4<|pn)
  · rcases r with _ | _ <;> exact Ex.noConfusion

theorem k_names_all_Domain_judge_peers {a1 : List Api_Domain} {a2 : Names_judge} {r : Bool} (h : names_all_Domain_judge_peers a1 a2 = some r) :
    CallsOK Tryz.prog UU 88 [.sl 93 a1, .fn (.func 90) [.agg (c132 a2)] []] [] (.v (.bool r)) [] := by
  unfold names_all_Domain_judge_peers at h
  obtain ⟨r11, h10, h⟩ := bo h
  rcases r11 with _ | _
  · injection h with h; subst h; exact rf Tryz.func88 none [.sum [1, 4, 7, 8, 9] [] .ret [(4, .v (.bool false))] []] (pc (k_names_all_Domain_judge_peers_L1 _ _ h10)<|pn)
  · injection h with h; subst h; exact rf Tryz.func88 none [.sum [1, 4, 7, 8, 9] [] (.exit 0) [(4, .v (.bool false))] []] (pc (k_names_all_Domain_judge_peers_L1 _ _ h10)<|pn)

theorem k_num_Rising_L1 {a1 : List Int} {a2 : Int} {a3 : Int} : LoopOK Tryz.prog UU 0 46 (subC (codeOf Tryz.f171) [1, 0, 1, 0, 0]) (ρ := Unit ⊕ Unit) (num_Rising_L1 a1 a2 a3)
    (fun v4 : Int => ([(0, .sl 3 a1), (1, .j a2), (2, .j a3), (6, .v (.bool false)), (9, .sl 3 a1), (10, .j (a1.length : Int)), (11, .j v4)] : Fr DD)) (fun v4 : Int => ([] : Heap DD)) (fun r => match r with | Sum.inl _ => .ret | Sum.inr _ => .exit 0) (fun r => match r with | Sum.inl _ => [(6, .v (.bool false))] | Sum.inr _ => [(0, .sl 3 a1), (6, .v (.bool false))]) (fun r => match r with | Sum.inl _ => [] | Sum.inr _ => []) := by
  refine loop_sound3 (fun s q h => ?_) (fun r => ?_)
  · replace h : num_Rising_L1 a1 a2 a3 s = some q := h; revert h; revert s; intro v4 h
    unfold num_Rising_L1 at h
    obtain ⟨h5, h⟩|⟨h5, h⟩ := ite_out h
    · obtain ⟨x6, h7, h⟩ := bo h
      obtain ⟨h8, h⟩|⟨h8, h⟩ := ite_out h
      · injection h with h; subst h; exact rl [6] [] [.t, .row (c3 x6), .t] (pc h5<|pc (ob3 h7)<|pc h8<|pn)
      · obtain ⟨h9, h⟩|⟨h9, h⟩ := ite_out h
        · injection h with h; subst h; exact rl [6] [] [.t, .row (c3 x6), .f, .t] (pc h5<|pc (ob3 h7)<|pc h8<|pc h9<|pn)
        · obtain ⟨h10, h⟩|⟨h10, h⟩ := ite_out h
          · obtain ⟨x11, h12, h⟩ := bo h
            obtain ⟨h13, h⟩|⟨h13, h⟩ := ite_out h
            · injection h with h; subst h; exact rl [6] [] [.t, .row (c3 x6), .f, .f, .t, .row (c3 x11), .t] (pc h5<|pc (ob3 h7)<|pc h8<|pc h9<|pc h10<|pc (ob3 h12)<|pc h13<|pn)
            · injection h with h; subst h; exact rl [0, 1, 2, 6, 9, 10, 11] [] [.t, .row (c3 x6), .f, .f, .t, .row (c3 x11), .f] (pc h5<|pc (ob3 h7)<|pc h8<|pc h9<|pc h10<|pc (ob3 h12)<|pc h13<|pn)
          · injection h with h; subst h; exact rl [0, 1, 2, 6, 9, 10, 11] [] [.t, .row (c3 x6), .f, .f, .f] (pc h5<|pc (ob3 h7)<|pc h8<|pc h9<|pc h10<|pn)
    · injection h with h; subst h; exact rl [0, 6] [] [.f] (pc h5<|pn)
  · rcases r with _ | _ <;> exact Ex.noConfusion

theorem k_num_Rising {a1 : List Int} {a2 : Int} {a3 : Int} {r : Bool} (h : num_Rising a1 a2 a3 = some r) :
    CallsOK Tryz.prog UU 171 [.sl 3 a1, .j a2, .j a3] [] (.v (.bool r)) [] := by
  unfold num_Rising at h
  obtain ⟨r15, h14, h⟩ := bo h
  rcases r15 with _ | _
  · injection h with h; subst h; exact rf Tryz.func171 none [.sum [0, 1, 2, 6, 9, 10, 11] [] .ret [(6, .v (.bool false))] []] (pc (k_num_Rising_L1 _ _ h14)<|pn)
  · obtain ⟨h16, h⟩|⟨h16, h⟩ := ite_out h
    · injection h with h; subst h; exact rf Tryz.func171 none [.sum [0, 1, 2, 6, 9, 10, 11] [] (.exit 0) [(0, .sl 3 a1), (6, .v (.bool false))] [], .t] (pc (k_num_Rising_L1 _ _ h14)<|pc h16<|pn)
    · injection h with h; subst h; exact rf Tryz.func171 none [.sum [0, 1, 2, 6, 9, 10, 11] [] (.exit 0) [(0, .sl 3 a1), (6, .v (.bool false))] [], .f] (pc (k_num_Rising_L1 _ _ h14)<|pc h16<|pn)

theorem k_names_rising {a1 : List Int} {a2 : Int} {r : Bool} (h : names_rising a1 a2 = some r) :
    CallsOK Tryz.prog UU 102 [.sl 3 a1, .j a2] [] (.v (.bool r)) [] := by
  unfold names_rising at h
  obtain ⟨h3, h⟩|⟨h3, h⟩ := ite_out h
  · injection h with h; subst h; exact rf Tryz.func102 none [.t] (pc h3<|pn)
  · obtain ⟨r4, h5, h⟩ := bo h
    injection h with h; subst h; exact rf Tryz.func102 none [.f, .b r4] (pc h3<|pc (k_num_Rising h5)<|pn)

theorem k_names_place_Link {a1 : List Api_Link} {a2 : Int} {r : Bool} (h : names_place_Link a1 a2 = some r) :
    CallsOK Tryz.prog UU 169 [.sl 112 a1, .j a2] [] (.v (.bool r)) [] := by
  unfold names_place_Link at h
  obtain ⟨h3, h⟩|⟨h3, h⟩ := ite_out h
  · injection h with h; subst h; exact rf Tryz.func169 none [.t] (pc h3<|pn)
  · injection h with h; subst h; exact rf Tryz.func169 none [.f] (pc h3<|pn)

theorem k_names_judge_port_J1 {a1 : Names_judge} {a2 : Int} {a3 : Api_Port} {r : Unit ⊕ Unit} (h : names_judge_port_J1 a1 a2 a3 = some r) :
    ExecOK Tryz.prog UU 0 111 (subC (codeOf Tryz.f92) [1, 0]) [(1, .j a2), (3, .op 0 1 0 0), (5, .op 1 1 0 0), (6, .v (.bool false))] [.box 132 (c132 a1) false, .box 56 (c56 a3) false] ((fun r => match r with | Sum.inl _ => .ret | Sum.inr _ => .nor) r) ((fun r => match r with | Sum.inl _ => [(6, .v (.bool false))] | Sum.inr _ => [(1, .j a2), (3, .op 0 1 0 0), (5, .op 1 1 0 0), (6, .v (.bool false))]) r) ((fun r => match r with | Sum.inl _ => [] | Sum.inr _ => [.box 132 (c132 a1) false, .box 56 (c56 a3) false]) r) := by
  unfold names_judge_port_J1 at h
  obtain ⟨r4, h5, h⟩ := bo h
  obtain ⟨h6, h⟩|⟨h6, h⟩ := ite_out h
  · injection h with h; subst h; exact rl [6] [] [.b r4, .t] (pc (k_names_place_Device h5)<|pc h6<|pn)
  · obtain ⟨h7, h⟩|⟨h7, h⟩ := ite_out h
    · injection h with h; subst h; exact rl [6] [] [.b r4, .f, .t] (pc (k_names_place_Device h5)<|pc h6<|pc h7<|pn)
    · obtain ⟨h8, h⟩|⟨h8, h⟩ := ite_out h
      · injection h with h; subst h; exact rl [6] [] [.b r4, .f, .f, .t] (pc (k_names_place_Device h5)<|pc h6<|pc h7<|pc h8<|pn)
      · obtain ⟨r9, h10, h⟩ := bo h
        obtain ⟨h11, h⟩|⟨h11, h⟩ := ite_out h
        · injection h with h; subst h; exact rl [6] [] [.b r4, .f, .f, .f, .b r9, .t] (pc (k_names_place_Device h5)<|pc h6<|pc h7<|pc h8<|pc (k_names_rising h10)<|pc h11<|pn)
        · obtain ⟨r12, h13, h⟩ := bo h
          obtain ⟨h14, h⟩|⟨h14, h⟩ := ite_out h
          · injection h with h; subst h; exact rl [6] [] [.b r4, .f, .f, .f, .b r9, .f, .b r12, .t] (pc (k_names_place_Device h5)<|pc h6<|pc h7<|pc h8<|pc (k_names_rising h10)<|pc h11<|pc (k_slices_Contains_int h13)<|pc h14<|pn)
          · obtain ⟨h15, h⟩|⟨h15, h⟩ := ite_out h
            · obtain ⟨h16, h⟩|⟨h16, h⟩ := ite_out h
              · injection h with h; subst h; exact rl [6] [] [.b r4, .f, .f, .f, .b r9, .f, .b r12, .f, .t, .t] (pc (k_names_place_Device h5)<|pc h6<|pc h7<|pc h8<|pc (k_names_rising h10)<|pc h11<|pc (k_slices_Contains_int h13)<|pc h14<|pc h15<|pc h16<|pn)
              · injection h with h; subst h; exact rl [1, 3, 5, 6] [0, 1] [.b r4, .f, .f, .f, .b r9, .f, .b r12, .f, .t, .f] (pc (k_names_place_Device h5)<|pc h6<|pc h7<|pc h8<|pc (k_names_rising h10)<|pc h11<|pc (k_slices_Contains_int h13)<|pc h14<|pc h15<|pc h16<|pn)
            · injection h with h; subst h; exact rl [1, 3, 5, 6] [0, 1] [.b r4, .f, .f, .f, .b r9, .f, .b r12, .f, .f] (pc (k_names_place_Device h5)<|pc h6<|pc h7<|pc h8<|pc (k_names_rising h10)<|pc h11<|pc (k_slices_Contains_int h13)<|pc h14<|pc h15<|pn)

theorem k_names_judge_port_L2 {a1 : Names_judge} {a2 : Int} {a3 : Api_Port} : LoopOK Tryz.prog UU 0 111 (subC (codeOf Tryz.f92) [1, 1, 0, 1, 0, 0]) (ρ := Unit ⊕ Unit) (names_judge_port_L2 a1 a2 a3)
    (fun v19 : Int => ([(1, .j a2), (3, .op 0 1 0 0), (5, .op 1 1 0 0), (6, .v (.bool false)), (51, .sl 3 a3.tagged), (52, .j (a3.tagged.length : Int)), (53, .j v19)] : Fr DD)) (fun v19 : Int => ([.box 132 (c132 a1) false, .box 56 (c56 a3) false] : Heap DD)) (fun r => match r with | Sum.inl _ => .ret | Sum.inr _ => .exit 0) (fun r => match r with | Sum.inl _ => [(6, .v (.bool false))] | Sum.inr _ => [(1, .j a2), (3, .op 0 1 0 0), (5, .op 1 1 0 0), (6, .v (.bool false))]) (fun r => match r with | Sum.inl _ => [] | Sum.inr _ => [.box 132 (c132 a1) false, .box 56 (c56 a3) false]) := by
  refine loop_sound3 (fun s q h => ?_) (fun r => ?_)
  · replace h : names_judge_port_L2 a1 a2 a3 s = some q := h; revert h; revert s; intro v19 h
    unfold names_judge_port_L2 at h
    obtain ⟨h20, h⟩|⟨h20, h⟩ := ite_out h
    · obtain ⟨x21, h22, h⟩ := bo h
      obtain ⟨r23, h24, h⟩ := bo h
      obtain ⟨h25, h⟩|⟨h25, h⟩ := ite_out h
      · injection h with h; subst h; exact rl [6] [] [.t, .row (c3 x21), .callv (.j r23), .t] (pc h20<|pc (ob3 h22)<|pc (k_names_judge_domain h24)<|pc h25<|pn)
      · injection h with h; subst h; exact rl [1, 3, 5, 6, 51, 52, 53] [0, 1] [.t, .row (c3 x21), .callv (.j r23), .f] (pc h20<|pc (ob3 h22)<|pc (k_names_judge_domain h24)<|pc h25<|pn)
    · injection h with h; subst h; exact rl [1, 3, 5, 6] [0, 1] [.f] (pc h20<|pn)
  · rcases r with _ | _ <;> exact Ex.noConfusion

theorem k_names_judge_port_J3 {a1 : Names_judge} {a2 : Int} {a3 : Api_Port} {r : Unit ⊕ Unit} (h : names_judge_port_J3 a1 a2 a3 = some r) :
    ExecOK Tryz.prog UU 0 111 (subC (codeOf Tryz.f92) [1, 1, 1, 0]) [(1, .j a2), (3, .op 0 1 0 0), (5, .op 1 1 0 0), (6, .v (.bool false))] [.box 132 (c132 a1) false, .box 56 (c56 a3) false] ((fun r => match r with | Sum.inl _ => .ret | Sum.inr _ => .nor) r) ((fun r => match r with | Sum.inl _ => [(6, .v (.bool false))] | Sum.inr _ => [(1, .j a2), (3, .op 0 1 0 0), (5, .op 1 1 0 0), (6, .v (.bool false))]) r) ((fun r => match r with | Sum.inl _ => [] | Sum.inr _ => [.box 132 (c132 a1) false, .box 56 (c56 a3) false]) r) := by
  unfold names_judge_port_J3 at h
  obtain ⟨h28, h⟩|⟨h28, h⟩ := ite_out h
  · obtain ⟨r29, h30, h⟩ := bo h
    obtain ⟨h31, h⟩|⟨h31, h⟩ := ite_out h
    · injection h with h; subst h; exact rl [6] [] [.t, .callv (.j r29), .t] (pc h28<|pc (k_names_judge_domain h30)<|pc h31<|pn)
    · injection h with h; subst h; exact rl [1, 3, 5, 6] [0, 1] [.t, .callv (.j r29), .f] (pc h28<|pc (k_names_judge_domain h30)<|pc h31<|pn)
  · injection h with h; subst h; exact rl [1, 3, 5, 6] [0, 1] [.f] (pc h28<|pn)

theorem k_names_judge_port {a1 : Names_judge} {a2 : Int} {a3 : Api_Port} {r : Bool} (h : names_judge_port a1 a2 a3 = some r) :
    CallsOK Tryz.prog UU 92 [.agg (c132 a1), .j a2, .agg (c56 a3)] [] (.v (.bool r)) [] := by
  unfold names_judge_port at h
  obtain ⟨r18, h17, h⟩ := bo h
  rcases r18 with _ | _
  · injection h with h; subst h; exact rf Tryz.func92 none [.skp, .cut [1, 3, 5, 6] [0, 1] .ret [(6, .v (.bool false))] []] (pc (k_names_judge_port_J1 h17)<|pn)
  · obtain ⟨r27, h26, h⟩ := bo h
    rcases r27 with _ | _
    · injection h with h; subst h; exact rf Tryz.func92 none [.skp, .cut [1, 3, 5, 6] [0, 1] .nor [(1, .j a2), (3, .op 0 1 0 0), (5, .op 1 1 0 0), (6, .v (.bool false))] [.box 132 (c132 a1) false, .box 56 (c56 a3) false], .sum [1, 3, 5, 6, 51, 52, 53] [0, 1] .ret [(6, .v (.bool false))] []] (pc (k_names_judge_port_J1 h17)<|pc (k_names_judge_port_L2 _ _ h26)<|pn)
    · obtain ⟨r33, h32, h⟩ := bo h
      rcases r33 with _ | _
      · injection h with h; subst h; exact rf Tryz.func92 none [.skp, .cut [1, 3, 5, 6] [0, 1] .nor [(1, .j a2), (3, .op 0 1 0 0), (5, .op 1 1 0 0), (6, .v (.bool false))] [.box 132 (c132 a1) false, .box 56 (c56 a3) false], .sum [1, 3, 5, 6, 51, 52, 53] [0, 1] (.exit 0) [(1, .j a2), (3, .op 0 1 0 0), (5, .op 1 1 0 0), (6, .v (.bool false))] [.box 132 (c132 a1) false, .box 56 (c56 a3) false], .cut [1, 3, 5, 6] [0, 1] .ret [(6, .v (.bool false))] []] (pc (k_names_judge_port_J1 h17)<|pc (k_names_judge_port_L2 _ _ h26)<|pc (k_names_judge_port_J3 h32)<|pn)
      · obtain ⟨h34, h⟩|⟨h34, h⟩ := ite_out h
        · injection h with h; subst h; exact rf Tryz.func92 none [.skp, .cut [1, 3, 5, 6] [0, 1] .nor [(1, .j a2), (3, .op 0 1 0 0), (5, .op 1 1 0 0), (6, .v (.bool false))] [.box 132 (c132 a1) false, .box 56 (c56 a3) false], .sum [1, 3, 5, 6, 51, 52, 53] [0, 1] (.exit 0) [(1, .j a2), (3, .op 0 1 0 0), (5, .op 1 1 0 0), (6, .v (.bool false))] [.box 132 (c132 a1) false, .box 56 (c56 a3) false], .cut [1, 3, 5, 6] [0, 1] .nor [(1, .j a2), (3, .op 0 1 0 0), (5, .op 1 1 0 0), (6, .v (.bool false))] [.box 132 (c132 a1) false, .box 56 (c56 a3) false], .t] (pc (k_names_judge_port_J1 h17)<|pc (k_names_judge_port_L2 _ _ h26)<|pc (k_names_judge_port_J3 h32)<|pc h34<|pn)
        · obtain ⟨r35, h36, h⟩ := bo h
          obtain ⟨h37, h⟩|⟨h37, h⟩ := ite_out h
          · obtain ⟨x38, h39, h⟩ := bo h
            obtain ⟨h40, h⟩|⟨h40, h⟩ := ite_out h
            · injection h with h; subst h; exact rf Tryz.func92 none [.skp, .cut [1, 3, 5, 6] [0, 1] .nor [(1, .j a2), (3, .op 0 1 0 0), (5, .op 1 1 0 0), (6, .v (.bool false))] [.box 132 (c132 a1) false, .box 56 (c56 a3) false], .sum [1, 3, 5, 6, 51, 52, 53] [0, 1] (.exit 0) [(1, .j a2), (3, .op 0 1 0 0), (5, .op 1 1 0 0), (6, .v (.bool false))] [.box 132 (c132 a1) false, .box 56 (c56 a3) false], .cut [1, 3, 5, 6] [0, 1] .nor [(1, .j a2), (3, .op 0 1 0 0), (5, .op 1 1 0 0), (6, .v (.bool false))] [.box 132 (c132 a1) false, .box 56 (c56 a3) false], .f, .b r35, .t, .row (c112 x38), .t] (pc (k_names_judge_port_J1 h17)<|pc (k_names_judge_port_L2 _ _ h26)<|pc (k_names_judge_port_J3 h32)<|pc h34<|pc (k_names_place_Link h36)<|pc h37<|pc (ob112 h39)<|pc h40<|pn)
            · obtain ⟨x41, h42, h⟩ := bo h
              injection h with h; subst h; exact rf Tryz.func92 none [.skp, .cut [1, 3, 5, 6] [0, 1] .nor [(1, .j a2), (3, .op 0 1 0 0), (5, .op 1 1 0 0), (6, .v (.bool false))] [.box 132 (c132 a1) false, .box 56 (c56 a3) false], .sum [1, 3, 5, 6, 51, 52, 53] [0, 1] (.exit 0) [(1, .j a2), (3, .op 0 1 0 0), (5, .op 1 1 0 0), (6, .v (.bool false))] [.box 132 (c132 a1) false, .box 56 (c56 a3) false], .cut [1, 3, 5, 6] [0, 1] .nor [(1, .j a2), (3, .op 0 1 0 0), (5, .op 1 1 0 0), (6, .v (.bool false))] [.box 132 (c132 a1) false, .box 56 (c56 a3) false], .f, .b r35, .t, .row (c112 x38), .f, .row (c112 x41)] (pc (k_names_judge_port_J1 h17)<|pc (k_names_judge_port_L2 _ _ h26)<|pc (k_names_judge_port_J3 h32)<|pc h34<|pc (k_names_place_Link h36)<|pc h37<|pc (ob112 h39)<|pc h40<|pc (ob112 h42)<|pn)
          · injection h with h; subst h; exact rf Tryz.func92 none [.skp, .cut [1, 3, 5, 6] [0, 1] .nor [(1, .j a2), (3, .op 0 1 0 0), (5, .op 1 1 0 0), (6, .v (.bool false))] [.box 132 (c132 a1) false, .box 56 (c56 a3) false], .sum [1, 3, 5, 6, 51, 52, 53] [0, 1] (.exit 0) [(1, .j a2), (3, .op 0 1 0 0), (5, .op 1 1 0 0), (6, .v (.bool false))] [.box 132 (c132 a1) false, .box 56 (c56 a3) false], .cut [1, 3, 5, 6] [0, 1] .nor [(1, .j a2), (3, .op 0 1 0 0), (5, .op 1 1 0 0), (6, .v (.bool false))] [.box 132 (c132 a1) false, .box 56 (c56 a3) false], .f, .b r35, .f] (pc (k_names_judge_port_J1 h17)<|pc (k_names_judge_port_L2 _ _ h26)<|pc (k_names_judge_port_J3 h32)<|pc h34<|pc (k_names_place_Link h36)<|pc h37<|pn)

theorem k_names_all_Port_judge_port_L1 {a1 : List Api_Port} {a2 : Names_judge} : LoopOK Tryz.prog UU 0 20 (subC (codeOf Tryz.f91) [1, 0, 1, 0, 0]) (ρ := Unit ⊕ Unit) (names_all_Port_judge_port_L1 a1 a2)
    (fun v3 : Int => ([(1, .fn (.func 92) [.agg (c132 a2)] []), (4, .v (.bool false)), (7, .sl 56 a1), (8, .j (a1.length : Int)), (9, .j v3)] : Fr DD)) (fun v3 : Int => ([] : Heap DD)) (fun r => match r with | Sum.inl _ => .ret | Sum.inr _ => .exit 0) (fun r => match r with | Sum.inl _ => [(4, .v (.bool false))] | Sum.inr _ => [(4, .v (.bool false))]) (fun r => match r with | Sum.inl _ => [] | Sum.inr _ => []) := by
  refine loop_sound3 (fun s q h => ?_) (fun r => ?_)
  · replace h : names_all_Port_judge_port_L1 a1 a2 s = some q := h; revert h; revert s; intro v3 h
    unfold names_all_Port_judge_port_L1 at h
    obtain ⟨h4, h⟩|⟨h4, h⟩ := ite_out h
    · obtain ⟨x5, h6, h⟩ := bo h
      obtain ⟨r7, h8, h⟩ := bo h
      obtain ⟨h9, h⟩|⟨h9, h⟩ := ite_out h
      · injection h with h; subst h; exact rl [4] [] [.t, .row (c56 x5), .b r7, .t] (pc h4<|pc (ob56 h6)<|pc (k_names_judge_port h8)<|pc h9<|pn)
      · injection h with h; subst h; exact rl [1, 4, 7, 8, 9] [] [.t, .row (c56 x5), .b r7, .f] (pc h4<|pc (ob56 h6)<|pc (k_names_judge_port h8)<|pc h9<|pn)
    · injection h with h; subst h; exact rl [4] [] [.f] (pc h4<|pn)
  · rcases r with _ | _ <;> exact Ex.noConfusion

theorem k_names_all_Port_judge_port {a1 : List Api_Port} {a2 : Names_judge} {r : Bool} (h : names_all_Port_judge_port a1 a2 = some r) :
    CallsOK Tryz.prog UU 91 [.sl 56 a1, .fn (.func 92) [.agg (c132 a2)] []] [] (.v (.bool r)) [] := by
  unfold names_all_Port_judge_port at h
  obtain ⟨r11, h10, h⟩ := bo h
  rcases r11 with _ | _
  · injection h with h; subst h; exact rf Tryz.func91 none [.sum [1, 4, 7, 8, 9] [] .ret [(4, .v (.bool false))] []] (pc (k_names_all_Port_judge_port_L1 _ _ h10)<|pn)
  · injection h with h; subst h; exact rf Tryz.func91 none [.sum [1, 4, 7, 8, 9] [] (.exit 0) [(4, .v (.bool false))] []] (pc (k_names_all_Port_judge_port_L1 _ _ h10)<|pn)

theorem k_names_place_Port {a1 : List Api_Port} {a2 : Int} {r : Bool} (h : names_place_Port a1 a2 = some r) :
    CallsOK Tryz.prog UU 170 [.sl 56 a1, .j a2] [] (.v (.bool r)) [] := by
  unfold names_place_Port at h
  obtain ⟨h3, h⟩|⟨h3, h⟩ := ite_out h
  · injection h with h; subst h; exact rf Tryz.func170 none [.t] (pc h3<|pn)
  · injection h with h; subst h; exact rf Tryz.func170 none [.f] (pc h3<|pn)

theorem k_names_judge_link {a1 : Names_judge} {a2 : Int} {a3 : Api_Link} {r : Bool} (h : names_judge_link a1 a2 a3 = some r) :
    CallsOK Tryz.prog UU 94 [.agg (c132 a1), .j a2, .agg (c112 a3)] [] (.v (.bool r)) [] := by
  unfold names_judge_link at h
  obtain ⟨r4, h5, h⟩ := bo h
  obtain ⟨h6, h⟩|⟨h6, h⟩ := ite_out h
  · injection h with h; subst h; exact rf Tryz.func94 none [.b r4, .t] (pc (k_names_place_Port h5)<|pc h6<|pn)
  · obtain ⟨r7, h8, h⟩ := bo h
    obtain ⟨h9, h⟩|⟨h9, h⟩ := ite_out h
    · injection h with h; subst h; exact rf Tryz.func94 none [.b r4, .f, .b r7, .t] (pc (k_names_place_Port h5)<|pc h6<|pc (k_names_place_Port h8)<|pc h9<|pn)
    · obtain ⟨x10, h11, h⟩ := bo h
      obtain ⟨x12, h13, h⟩ := bo h
      obtain ⟨h14, h⟩|⟨h14, h⟩ := ite_out h
      · obtain ⟨h15, h⟩|⟨h15, h⟩ := ite_out h
        · injection h with h; subst h; exact rf Tryz.func94 none [.b r4, .f, .b r7, .f, .row (c56 x10), .row (c56 x12), .t, .t] (pc (k_names_place_Port h5)<|pc h6<|pc (k_names_place_Port h8)<|pc h9<|pc (ob56 h11)<|pc (ob56 h13)<|pc h14<|pc h15<|pn)
        · injection h with h; subst h; exact rf Tryz.func94 none [.b r4, .f, .b r7, .f, .row (c56 x10), .row (c56 x12), .t, .f] (pc (k_names_place_Port h5)<|pc h6<|pc (k_names_place_Port h8)<|pc h9<|pc (ob56 h11)<|pc (ob56 h13)<|pc h14<|pc h15<|pn)
      · injection h with h; subst h; exact rf Tryz.func94 none [.b r4, .f, .b r7, .f, .row (c56 x10), .row (c56 x12), .f] (pc (k_names_place_Port h5)<|pc h6<|pc (k_names_place_Port h8)<|pc h9<|pc (ob56 h11)<|pc (ob56 h13)<|pc h14<|pn)

theorem k_names_all_Link_judge_link_L1 {a1 : List Api_Link} {a2 : Names_judge} : LoopOK Tryz.prog UU 0 20 (subC (codeOf Tryz.f93) [1, 0, 1, 0, 0]) (ρ := Unit ⊕ Unit) (names_all_Link_judge_link_L1 a1 a2)
    (fun v3 : Int => ([(1, .fn (.func 94) [.agg (c132 a2)] []), (4, .v (.bool false)), (7, .sl 112 a1), (8, .j (a1.length : Int)), (9, .j v3)] : Fr DD)) (fun v3 : Int => ([] : Heap DD)) (fun r => match r with | Sum.inl _ => .ret | Sum.inr _ => .exit 0) (fun r => match r with | Sum.inl _ => [(4, .v (.bool false))] | Sum.inr _ => [(4, .v (.bool false))]) (fun r => match r with | Sum.inl _ => [] | Sum.inr _ => []) := by
  refine loop_sound3 (fun s q h => ?_) (fun r => ?_)
  · replace h : names_all_Link_judge_link_L1 a1 a2 s = some q := h; revert h; revert s; intro v3 h
    unfold names_all_Link_judge_link_L1 at h
    obtain ⟨h4, h⟩|⟨h4, h⟩ := ite_out h
    · obtain ⟨x5, h6, h⟩ := bo h
      obtain ⟨r7, h8, h⟩ := bo h
      obtain ⟨h9, h⟩|⟨h9, h⟩ := ite_out h
      · injection h with h; subst h; exact rl [4] [] [.t, .row (c112 x5), .b r7, .t] (pc h4<|pc (ob112 h6)<|pc (k_names_judge_link h8)<|pc h9<|pn)
      · injection h with h; subst h; exact rl [1, 4, 7, 8, 9] [] [.t, .row (c112 x5), .b r7, .f] (pc h4<|pc (ob112 h6)<|pc (k_names_judge_link h8)<|pc h9<|pn)
    · injection h with h; subst h; exact rl [4] [] [.f] (pc h4<|pn)
  · rcases r with _ | _ <;> exact Ex.noConfusion

theorem k_names_all_Link_judge_link {a1 : List Api_Link} {a2 : Names_judge} {r : Bool} (h : names_all_Link_judge_link a1 a2 = some r) :
    CallsOK Tryz.prog UU 93 [.sl 112 a1, .fn (.func 94) [.agg (c132 a2)] []] [] (.v (.bool r)) [] := by
  unfold names_all_Link_judge_link at h
  obtain ⟨r11, h10, h⟩ := bo h
  rcases r11 with _ | _
  · injection h with h; subst h; exact rf Tryz.func93 none [.sum [1, 4, 7, 8, 9] [] .ret [(4, .v (.bool false))] []] (pc (k_names_all_Link_judge_link_L1 _ _ h10)<|pn)
  · injection h with h; subst h; exact rf Tryz.func93 none [.sum [1, 4, 7, 8, 9] [] (.exit 0) [(4, .v (.bool false))] []] (pc (k_names_all_Link_judge_link_L1 _ _ h10)<|pn)

theorem k_names_Member {a1 : Api_Port} {a2 : Int} {r : Bool} (h : names_Member a1 a2 = some r) :
    CallsOK Tryz.prog UU 29 [.agg (c56 a1), .j a2] [] (.v (.bool r)) [] := by
  unfold names_Member at h
  obtain ⟨h3, h⟩|⟨h3, h⟩ := ite_out h
  · obtain ⟨h4, h⟩|⟨h4, h⟩ := ite_out h
    · injection h with h; subst h; exact rf Tryz.func29 none [.t, .t] (pc h3<|pc h4<|pn)
    · obtain ⟨r5, h6, h⟩ := bo h
      injection h with h; subst h; exact rf Tryz.func29 none [.t, .f, .b r5] (pc h3<|pc h4<|pc (k_slices_Contains_int h6)<|pn)
  · injection h with h; subst h; exact rf Tryz.func29 none [.f] (pc h3<|pn)

theorem k_names_judge_static {a1 : Names_judge} {a2 : Int} {a3 : Api_Static} {r : Bool} (h : names_judge_static a1 a2 a3 = some r) :
    CallsOK Tryz.prog UU 96 [.agg (c132 a1), .j a2, .agg (c97 a3)] [] (.v (.bool r)) [] := by
  unfold names_judge_static at h
  obtain ⟨r4, h5, h⟩ := bo h
  obtain ⟨h6, h⟩|⟨h6, h⟩ := ite_out h
  · injection h with h; subst h; exact rf Tryz.func96 none [.b r4, .t] (pc (k_names_place_Domain h5)<|pc h6<|pn)
  · obtain ⟨r7, h8, h⟩ := bo h
    obtain ⟨h9, h⟩|⟨h9, h⟩ := ite_out h
    · injection h with h; subst h; exact rf Tryz.func96 none [.b r4, .f, .b r7, .t] (pc (k_names_place_Domain h5)<|pc h6<|pc (k_names_place_Port h8)<|pc h9<|pn)
    · obtain ⟨x10, h11, h⟩ := bo h
      obtain ⟨x12, h13, h⟩ := bo h
      obtain ⟨h14, h⟩|⟨h14, h⟩ := ite_out h
      · obtain ⟨r15, h16, h⟩ := bo h
        injection h with h; subst h; exact rf Tryz.func96 none [.b r4, .f, .b r7, .f, .row (c56 x10), .row (c93 x12), .t, .b r15] (pc (k_names_place_Domain h5)<|pc h6<|pc (k_names_place_Port h8)<|pc h9<|pc (ob56 h11)<|pc (ob93 h13)<|pc h14<|pc (k_names_Member h16)<|pn)
      · injection h with h; subst h; exact rf Tryz.func96 none [.b r4, .f, .b r7, .f, .row (c56 x10), .row (c93 x12), .f] (pc (k_names_place_Domain h5)<|pc h6<|pc (k_names_place_Port h8)<|pc h9<|pc (ob56 h11)<|pc (ob93 h13)<|pc h14<|pn)

theorem k_names_all_Static_judge_static_L1 {a1 : List Api_Static} {a2 : Names_judge} : LoopOK Tryz.prog UU 0 20 (subC (codeOf Tryz.f95) [1, 0, 1, 0, 0]) (ρ := Unit ⊕ Unit) (names_all_Static_judge_static_L1 a1 a2)
    (fun v3 : Int => ([(1, .fn (.func 96) [.agg (c132 a2)] []), (4, .v (.bool false)), (7, .sl 97 a1), (8, .j (a1.length : Int)), (9, .j v3)] : Fr DD)) (fun v3 : Int => ([] : Heap DD)) (fun r => match r with | Sum.inl _ => .ret | Sum.inr _ => .exit 0) (fun r => match r with | Sum.inl _ => [(4, .v (.bool false))] | Sum.inr _ => [(4, .v (.bool false))]) (fun r => match r with | Sum.inl _ => [] | Sum.inr _ => []) := by
  refine loop_sound3 (fun s q h => ?_) (fun r => ?_)
  · replace h : names_all_Static_judge_static_L1 a1 a2 s = some q := h; revert h; revert s; intro v3 h
    unfold names_all_Static_judge_static_L1 at h
    obtain ⟨h4, h⟩|⟨h4, h⟩ := ite_out h
    · obtain ⟨x5, h6, h⟩ := bo h
      obtain ⟨r7, h8, h⟩ := bo h
      obtain ⟨h9, h⟩|⟨h9, h⟩ := ite_out h
      · injection h with h; subst h; exact rl [4] [] [.t, .row (c97 x5), .b r7, .t] (pc h4<|pc (ob97 h6)<|pc (k_names_judge_static h8)<|pc h9<|pn)
      · injection h with h; subst h; exact rl [1, 4, 7, 8, 9] [] [.t, .row (c97 x5), .b r7, .f] (pc h4<|pc (ob97 h6)<|pc (k_names_judge_static h8)<|pc h9<|pn)
    · injection h with h; subst h; exact rl [4] [] [.f] (pc h4<|pn)
  · rcases r with _ | _ <;> exact Ex.noConfusion

theorem k_names_all_Static_judge_static {a1 : List Api_Static} {a2 : Names_judge} {r : Bool} (h : names_all_Static_judge_static a1 a2 = some r) :
    CallsOK Tryz.prog UU 95 [.sl 97 a1, .fn (.func 96) [.agg (c132 a2)] []] [] (.v (.bool r)) [] := by
  unfold names_all_Static_judge_static at h
  obtain ⟨r11, h10, h⟩ := bo h
  rcases r11 with _ | _
  · injection h with h; subst h; exact rf Tryz.func95 none [.sum [1, 4, 7, 8, 9] [] .ret [(4, .v (.bool false))] []] (pc (k_names_all_Static_judge_static_L1 _ _ h10)<|pn)
  · injection h with h; subst h; exact rf Tryz.func95 none [.sum [1, 4, 7, 8, 9] [] (.exit 0) [(4, .v (.bool false))] []] (pc (k_names_all_Static_judge_static_L1 _ _ h10)<|pn)

theorem k_names_Right_1 {a1 : Int} {a2 : Api_Flood} {a3 : Api_Net} {r : Bool} (h : names_Right_1 a1 a2 a3 = some r) :
    CallsOK Tryz.prog UU 98 [.j a1, .agg (c100 a2), .rp (c31 a3) 0] [] (.v (.bool r)) [] := by
  unfold names_Right_1 at h
  obtain ⟨r4, h5, h⟩ := bo h
  obtain ⟨h6, h⟩|⟨h6, h⟩ := ite_out h
  · injection h with h; subst h; exact rf Tryz.func98 none [.b r4, .t] (pc (k_names_place_Device h5)<|pc h6<|pn)
  · injection h with h; subst h; exact rf Tryz.func98 none [.b r4, .f] (pc (k_names_place_Device h5)<|pc h6<|pn)

theorem k_names_all_Flood_Right_1_L1 {a1 : List Api_Flood} {a2 : Api_Net} : LoopOK Tryz.prog UU 0 20 (subC (codeOf Tryz.f97) [1, 0, 1, 0, 0]) (ρ := Unit ⊕ Unit) (names_all_Flood_Right_1_L1 a1 a2)
    (fun v3 : Int => ([(1, .fn (.func 98) [] [.rp (c31 a2) 0]), (4, .v (.bool false)), (7, .sl 100 a1), (8, .j (a1.length : Int)), (9, .j v3)] : Fr DD)) (fun v3 : Int => ([] : Heap DD)) (fun r => match r with | Sum.inl _ => .ret | Sum.inr _ => .exit 0) (fun r => match r with | Sum.inl _ => [(4, .v (.bool false))] | Sum.inr _ => [(4, .v (.bool false))]) (fun r => match r with | Sum.inl _ => [] | Sum.inr _ => []) := by
  refine loop_sound3 (fun s q h => ?_) (fun r => ?_)
  · replace h : names_all_Flood_Right_1_L1 a1 a2 s = some q := h; revert h; revert s; intro v3 h
    unfold names_all_Flood_Right_1_L1 at h
    obtain ⟨h4, h⟩|⟨h4, h⟩ := ite_out h
    · obtain ⟨x5, h6, h⟩ := bo h
      obtain ⟨r7, h8, h⟩ := bo h
      obtain ⟨h9, h⟩|⟨h9, h⟩ := ite_out h
      · injection h with h; subst h; exact rl [4] [] [.t, .row (c100 x5), .b r7, .t] (pc h4<|pc (ob100 h6)<|pc (k_names_Right_1 h8)<|pc h9<|pn)
      · injection h with h; subst h; exact rl [1, 4, 7, 8, 9] [] [.t, .row (c100 x5), .b r7, .f] (pc h4<|pc (ob100 h6)<|pc (k_names_Right_1 h8)<|pc h9<|pn)
    · injection h with h; subst h; exact rl [4] [] [.f] (pc h4<|pn)
  · rcases r with _ | _ <;> exact Ex.noConfusion

theorem k_names_all_Flood_Right_1 {a1 : List Api_Flood} {a2 : Api_Net} {r : Bool} (h : names_all_Flood_Right_1 a1 a2 = some r) :
    CallsOK Tryz.prog UU 97 [.sl 100 a1, .fn (.func 98) [] [.rp (c31 a2) 0]] [] (.v (.bool r)) [] := by
  unfold names_all_Flood_Right_1 at h
  obtain ⟨r11, h10, h⟩ := bo h
  rcases r11 with _ | _
  · injection h with h; subst h; exact rf Tryz.func97 none [.sum [1, 4, 7, 8, 9] [] .ret [(4, .v (.bool false))] []] (pc (k_names_all_Flood_Right_1_L1 _ _ h10)<|pn)
  · injection h with h; subst h; exact rf Tryz.func97 none [.sum [1, 4, 7, 8, 9] [] (.exit 0) [(4, .v (.bool false))] []] (pc (k_names_all_Flood_Right_1_L1 _ _ h10)<|pn)

theorem k_names_Right_2 {a1 : Int} {a2 : Api_Vrf} {a3 : Api_Net} {r : Bool} (h : names_Right_2 a1 a2 a3 = some r) :
    CallsOK Tryz.prog UU 101 [.j a1, .agg (c103 a2), .rp (c31 a3) 0] [] (.v (.bool r)) [] := by
  unfold names_Right_2 at h
  obtain ⟨r4, h5, h⟩ := bo h
  obtain ⟨h6, h⟩|⟨h6, h⟩ := ite_out h
  · obtain ⟨r7, h8, h⟩ := bo h
    obtain ⟨h9, h⟩|⟨h9, h⟩ := ite_out h
    · obtain ⟨r10, h11, h⟩ := bo h
      injection h with h; subst h; exact rf Tryz.func101 none [.b r4, .t, .b r7, .t, .b r10] (pc (k_names_place_Device h5)<|pc h6<|pc (k_names_rising h8)<|pc h9<|pc (k_names_rising h11)<|pn)
    · injection h with h; subst h; exact rf Tryz.func101 none [.b r4, .t, .b r7, .f] (pc (k_names_place_Device h5)<|pc h6<|pc (k_names_rising h8)<|pc h9<|pn)
  · injection h with h; subst h; exact rf Tryz.func101 none [.b r4, .f] (pc (k_names_place_Device h5)<|pc h6<|pn)

theorem k_names_all_Vrf_Right_2_L1 {a1 : List Api_Vrf} {a2 : Api_Net} : LoopOK Tryz.prog UU 0 20 (subC (codeOf Tryz.f100) [1, 0, 1, 0, 0]) (ρ := Unit ⊕ Unit) (names_all_Vrf_Right_2_L1 a1 a2)
    (fun v3 : Int => ([(1, .fn (.func 101) [] [.rp (c31 a2) 0]), (4, .v (.bool false)), (7, .sl 103 a1), (8, .j (a1.length : Int)), (9, .j v3)] : Fr DD)) (fun v3 : Int => ([] : Heap DD)) (fun r => match r with | Sum.inl _ => .ret | Sum.inr _ => .exit 0) (fun r => match r with | Sum.inl _ => [(4, .v (.bool false))] | Sum.inr _ => [(4, .v (.bool false))]) (fun r => match r with | Sum.inl _ => [] | Sum.inr _ => []) := by
  refine loop_sound3 (fun s q h => ?_) (fun r => ?_)
  · replace h : names_all_Vrf_Right_2_L1 a1 a2 s = some q := h; revert h; revert s; intro v3 h
    unfold names_all_Vrf_Right_2_L1 at h
    obtain ⟨h4, h⟩|⟨h4, h⟩ := ite_out h
    · obtain ⟨x5, h6, h⟩ := bo h
      obtain ⟨r7, h8, h⟩ := bo h
      obtain ⟨h9, h⟩|⟨h9, h⟩ := ite_out h
      · injection h with h; subst h; exact rl [4] [] [.t, .row (c103 x5), .b r7, .t] (pc h4<|pc (ob103 h6)<|pc (k_names_Right_2 h8)<|pc h9<|pn)
      · injection h with h; subst h; exact rl [1, 4, 7, 8, 9] [] [.t, .row (c103 x5), .b r7, .f] (pc h4<|pc (ob103 h6)<|pc (k_names_Right_2 h8)<|pc h9<|pn)
    · injection h with h; subst h; exact rl [4] [] [.f] (pc h4<|pn)
  · rcases r with _ | _ <;> exact Ex.noConfusion

theorem k_names_all_Vrf_Right_2 {a1 : List Api_Vrf} {a2 : Api_Net} {r : Bool} (h : names_all_Vrf_Right_2 a1 a2 = some r) :
    CallsOK Tryz.prog UU 100 [.sl 103 a1, .fn (.func 101) [] [.rp (c31 a2) 0]] [] (.v (.bool r)) [] := by
  unfold names_all_Vrf_Right_2 at h
  obtain ⟨r11, h10, h⟩ := bo h
  rcases r11 with _ | _
  · injection h with h; subst h; exact rf Tryz.func100 none [.sum [1, 4, 7, 8, 9] [] .ret [(4, .v (.bool false))] []] (pc (k_names_all_Vrf_Right_2_L1 _ _ h10)<|pn)
  · injection h with h; subst h; exact rf Tryz.func100 none [.sum [1, 4, 7, 8, 9] [] (.exit 0) [(4, .v (.bool false))] []] (pc (k_names_all_Vrf_Right_2_L1 _ _ h10)<|pn)

theorem k_names_place_Vrf {a1 : List Api_Vrf} {a2 : Int} {r : Bool} (h : names_place_Vrf a1 a2 = some r) :
    CallsOK Tryz.prog UU 172 [.sl 103 a1, .j a2] [] (.v (.bool r)) [] := by
  unfold names_place_Vrf at h
  obtain ⟨h3, h⟩|⟨h3, h⟩ := ite_out h
  · injection h with h; subst h; exact rf Tryz.func172 none [.t] (pc h3<|pn)
  · injection h with h; subst h; exact rf Tryz.func172 none [.f] (pc h3<|pn)

theorem k_names_judge_irb {a1 : Names_judge} {a2 : Int} {a3 : Api_Irb} {r : Bool} (h : names_judge_irb a1 a2 a3 = some r) :
    CallsOK Tryz.prog UU 104 [.agg (c132 a1), .j a2, .agg (c118 a3)] [] (.v (.bool r)) [] := by
  unfold names_judge_irb at h
  obtain ⟨r4, h5, h⟩ := bo h
  obtain ⟨h6, h⟩|⟨h6, h⟩ := ite_out h
  · obtain ⟨r7, h8, h⟩ := bo h
    obtain ⟨h9, h⟩|⟨h9, h⟩ := ite_out h
    · obtain ⟨x10, h11, h⟩ := bo h
      obtain ⟨x12, h13, h⟩ := bo h
      obtain ⟨h14, h⟩|⟨h14, h⟩ := ite_out h
      · obtain ⟨x15, h16, h⟩ := bo h
        obtain ⟨h17, h⟩|⟨h17, h⟩ := ite_out h
        · obtain ⟨h18, h⟩|⟨h18, h⟩ := ite_out h
          · injection h with h; subst h; exact rf Tryz.func104 none [.b r4, .t, .b r7, .t, .row (c93 x10), .row (c103 x12), .t, .row (c93 x15), .t, .t] (pc (k_names_place_Domain h5)<|pc h6<|pc (k_names_place_Vrf h8)<|pc h9<|pc (ob93 h11)<|pc (ob103 h13)<|pc h14<|pc (ob93 h16)<|pc h17<|pc h18<|pn)
          · injection h with h; subst h; exact rf Tryz.func104 none [.b r4, .t, .b r7, .t, .row (c93 x10), .row (c103 x12), .t, .row (c93 x15), .t, .f] (pc (k_names_place_Domain h5)<|pc h6<|pc (k_names_place_Vrf h8)<|pc h9<|pc (ob93 h11)<|pc (ob103 h13)<|pc h14<|pc (ob93 h16)<|pc h17<|pc h18<|pn)
        · injection h with h; subst h; exact rf Tryz.func104 none [.b r4, .t, .b r7, .t, .row (c93 x10), .row (c103 x12), .t, .row (c93 x15), .f] (pc (k_names_place_Domain h5)<|pc h6<|pc (k_names_place_Vrf h8)<|pc h9<|pc (ob93 h11)<|pc (ob103 h13)<|pc h14<|pc (ob93 h16)<|pc h17<|pn)
      · injection h with h; subst h; exact rf Tryz.func104 none [.b r4, .t, .b r7, .t, .row (c93 x10), .row (c103 x12), .f] (pc (k_names_place_Domain h5)<|pc h6<|pc (k_names_place_Vrf h8)<|pc h9<|pc (ob93 h11)<|pc (ob103 h13)<|pc h14<|pn)
    · injection h with h; subst h; exact rf Tryz.func104 none [.b r4, .t, .b r7, .f] (pc (k_names_place_Domain h5)<|pc h6<|pc (k_names_place_Vrf h8)<|pc h9<|pn)
  · injection h with h; subst h; exact rf Tryz.func104 none [.b r4, .f] (pc (k_names_place_Domain h5)<|pc h6<|pn)

theorem k_names_all_Irb_judge_irb_L1 {a1 : List Api_Irb} {a2 : Names_judge} : LoopOK Tryz.prog UU 0 20 (subC (codeOf Tryz.f103) [1, 0, 1, 0, 0]) (ρ := Unit ⊕ Unit) (names_all_Irb_judge_irb_L1 a1 a2)
    (fun v3 : Int => ([(1, .fn (.func 104) [.agg (c132 a2)] []), (4, .v (.bool false)), (7, .sl 118 a1), (8, .j (a1.length : Int)), (9, .j v3)] : Fr DD)) (fun v3 : Int => ([] : Heap DD)) (fun r => match r with | Sum.inl _ => .ret | Sum.inr _ => .exit 0) (fun r => match r with | Sum.inl _ => [(4, .v (.bool false))] | Sum.inr _ => [(4, .v (.bool false))]) (fun r => match r with | Sum.inl _ => [] | Sum.inr _ => []) := by
  refine loop_sound3 (fun s q h => ?_) (fun r => ?_)
  · replace h : names_all_Irb_judge_irb_L1 a1 a2 s = some q := h; revert h; revert s; intro v3 h
    unfold names_all_Irb_judge_irb_L1 at h
    obtain ⟨h4, h⟩|⟨h4, h⟩ := ite_out h
    · obtain ⟨x5, h6, h⟩ := bo h
      obtain ⟨r7, h8, h⟩ := bo h
      obtain ⟨h9, h⟩|⟨h9, h⟩ := ite_out h
      · injection h with h; subst h; exact rl [4] [] [.t, .row (c118 x5), .b r7, .t] (pc h4<|pc (ob118 h6)<|pc (k_names_judge_irb h8)<|pc h9<|pn)
      · injection h with h; subst h; exact rl [1, 4, 7, 8, 9] [] [.t, .row (c118 x5), .b r7, .f] (pc h4<|pc (ob118 h6)<|pc (k_names_judge_irb h8)<|pc h9<|pn)
    · injection h with h; subst h; exact rl [4] [] [.f] (pc h4<|pn)
  · rcases r with _ | _ <;> exact Ex.noConfusion

theorem k_names_all_Irb_judge_irb {a1 : List Api_Irb} {a2 : Names_judge} {r : Bool} (h : names_all_Irb_judge_irb a1 a2 = some r) :
    CallsOK Tryz.prog UU 103 [.sl 118 a1, .fn (.func 104) [.agg (c132 a2)] []] [] (.v (.bool r)) [] := by
  unfold names_all_Irb_judge_irb at h
  obtain ⟨r11, h10, h⟩ := bo h
  rcases r11 with _ | _
  · injection h with h; subst h; exact rf Tryz.func103 none [.sum [1, 4, 7, 8, 9] [] .ret [(4, .v (.bool false))] []] (pc (k_names_all_Irb_judge_irb_L1 _ _ h10)<|pn)
  · injection h with h; subst h; exact rf Tryz.func103 none [.sum [1, 4, 7, 8, 9] [] (.exit 0) [(4, .v (.bool false))] []] (pc (k_names_all_Irb_judge_irb_L1 _ _ h10)<|pn)

theorem k_names_Right {a1 : Api_Net} {r : Bool} (h : names_Right a1 = some r) :
    CallsOK Tryz.prog UU 27 [.agg (c31 a1)] [] (.v (.bool r)) [] := by
  unfold names_Right at h
  obtain ⟨r2, h3, h⟩ := bo h
  obtain ⟨h4, h⟩|⟨h4, h⟩ := ite_out h
  · obtain ⟨r5, h6, h⟩ := bo h
    obtain ⟨h7, h⟩|⟨h7, h⟩ := ite_out h
    · obtain ⟨r8, h9, h⟩ := bo h
      obtain ⟨h10, h⟩|⟨h10, h⟩ := ite_out h
      · obtain ⟨r11, h12, h⟩ := bo h
        obtain ⟨h13, h⟩|⟨h13, h⟩ := ite_out h
        · obtain ⟨r14, h15, h⟩ := bo h
          obtain ⟨h16, h⟩|⟨h16, h⟩ := ite_out h
          · obtain ⟨r17, h18, h⟩ := bo h
            obtain ⟨h19, h⟩|⟨h19, h⟩ := ite_out h
            · obtain ⟨r20, h21, h⟩ := bo h
              obtain ⟨h22, h⟩|⟨h22, h⟩ := ite_out h
              · obtain ⟨r23, h24, h⟩ := bo h
                obtain ⟨h25, h⟩|⟨h25, h⟩ := ite_out h
                · obtain ⟨r26, h27, h⟩ := bo h
                  injection h with h; subst h; exact rf Tryz.func27 none [.b r2, .t, .b r5, .t, .b r8, .t, .b r11, .t, .b r14, .t, .b r17, .t, .b r20, .t, .b r23, .t, .b r26] (pc (k_names_judge_few h3)<|pc h4<|pc (k_names_all_Domain_judge_bare h6)<|pc h7<|pc (k_names_all_Domain_judge_peers h9)<|pc h10<|pc (k_names_all_Port_judge_port h12)<|pc h13<|pc (k_names_all_Link_judge_link h15)<|pc h16<|pc (k_names_all_Static_judge_static h18)<|pc h19<|pc (k_names_all_Flood_Right_1 h21)<|pc h22<|pc (k_names_all_Vrf_Right_2 h24)<|pc h25<|pc (k_names_all_Irb_judge_irb h27)<|pn)
                · injection h with h; subst h; exact rf Tryz.func27 none [.b r2, .t, .b r5, .t, .b r8, .t, .b r11, .t, .b r14, .t, .b r17, .t, .b r20, .t, .b r23, .f] (pc (k_names_judge_few h3)<|pc h4<|pc (k_names_all_Domain_judge_bare h6)<|pc h7<|pc (k_names_all_Domain_judge_peers h9)<|pc h10<|pc (k_names_all_Port_judge_port h12)<|pc h13<|pc (k_names_all_Link_judge_link h15)<|pc h16<|pc (k_names_all_Static_judge_static h18)<|pc h19<|pc (k_names_all_Flood_Right_1 h21)<|pc h22<|pc (k_names_all_Vrf_Right_2 h24)<|pc h25<|pn)
              · injection h with h; subst h; exact rf Tryz.func27 none [.b r2, .t, .b r5, .t, .b r8, .t, .b r11, .t, .b r14, .t, .b r17, .t, .b r20, .f] (pc (k_names_judge_few h3)<|pc h4<|pc (k_names_all_Domain_judge_bare h6)<|pc h7<|pc (k_names_all_Domain_judge_peers h9)<|pc h10<|pc (k_names_all_Port_judge_port h12)<|pc h13<|pc (k_names_all_Link_judge_link h15)<|pc h16<|pc (k_names_all_Static_judge_static h18)<|pc h19<|pc (k_names_all_Flood_Right_1 h21)<|pc h22<|pn)
            · injection h with h; subst h; exact rf Tryz.func27 none [.b r2, .t, .b r5, .t, .b r8, .t, .b r11, .t, .b r14, .t, .b r17, .f] (pc (k_names_judge_few h3)<|pc h4<|pc (k_names_all_Domain_judge_bare h6)<|pc h7<|pc (k_names_all_Domain_judge_peers h9)<|pc h10<|pc (k_names_all_Port_judge_port h12)<|pc h13<|pc (k_names_all_Link_judge_link h15)<|pc h16<|pc (k_names_all_Static_judge_static h18)<|pc h19<|pn)
          · injection h with h; subst h; exact rf Tryz.func27 none [.b r2, .t, .b r5, .t, .b r8, .t, .b r11, .t, .b r14, .f] (pc (k_names_judge_few h3)<|pc h4<|pc (k_names_all_Domain_judge_bare h6)<|pc h7<|pc (k_names_all_Domain_judge_peers h9)<|pc h10<|pc (k_names_all_Port_judge_port h12)<|pc h13<|pc (k_names_all_Link_judge_link h15)<|pc h16<|pn)
        · injection h with h; subst h; exact rf Tryz.func27 none [.b r2, .t, .b r5, .t, .b r8, .t, .b r11, .f] (pc (k_names_judge_few h3)<|pc h4<|pc (k_names_all_Domain_judge_bare h6)<|pc h7<|pc (k_names_all_Domain_judge_peers h9)<|pc h10<|pc (k_names_all_Port_judge_port h12)<|pc h13<|pn)
      · injection h with h; subst h; exact rf Tryz.func27 none [.b r2, .t, .b r5, .t, .b r8, .f] (pc (k_names_judge_few h3)<|pc h4<|pc (k_names_all_Domain_judge_bare h6)<|pc h7<|pc (k_names_all_Domain_judge_peers h9)<|pc h10<|pn)
    · injection h with h; subst h; exact rf Tryz.func27 none [.b r2, .t, .b r5, .f] (pc (k_names_judge_few h3)<|pc h4<|pc (k_names_all_Domain_judge_bare h6)<|pc h7<|pn)
  · injection h with h; subst h; exact rf Tryz.func27 none [.b r2, .f] (pc (k_names_judge_few h3)<|pc h4<|pn)

theorem k_names_Members_L1 {a1 : Api_Net} {a2 : Int} : LoopOK Tryz.prog UU 0 51 (subC (codeOf Tryz.f58) [1, 1, 1, 0, 1, 0, 0]) (fun s : (List Int) × Int => match s with | (l9, v10) => names_Members_L1 a1 a2 l9 v10)
    (fun s : (List Int) × Int => (match s with | (l9, v10) => [(1, .j a2), (2, .op 0 1 0 0), (4, .os 1 0), (5, .os 2 l9.length), (19, .sl 56 a1.ports), (20, .j (a1.ports.length : Int)), (21, .j v10)] : Fr DD)) (fun s : (List Int) × Int => (match s with | (l9, v10) => [.box 31 (c31 a1) false, .n 3, .arr 3 l9 l9.length false] : Heap DD)) (fun r => match r with | l25 => .exit 0) (fun r => match r with | l25 => [(4, .os 0 0), (5, .os 1 l25.length)]) (fun r => match r with | l25 => [.n 3, .arr 3 l25 l25.length false]) := by
  refine loop_sound3 (fun s q h => ?_) (fun r => ?_)
  · obtain ⟨l9, v10⟩ := s; replace h : names_Members_L1 a1 a2 l9 v10 = some q := h
    unfold names_Members_L1 at h
    obtain ⟨h11, h⟩|⟨h11, h⟩ := ite_out h
    · obtain ⟨x12, h13, h⟩ := bo h
      obtain ⟨x14, h15, h⟩ := bo h
      obtain ⟨h16, h⟩|⟨h16, h⟩ := ite_out h
      · obtain ⟨x17, h18, h⟩ := bo h
        obtain ⟨r19, h20, h⟩ := bo h
        obtain ⟨h21, h⟩|⟨h21, h⟩ := ite_out h
        · obtain ⟨h22, h⟩|⟨h22, h⟩ := ite_out h
          · injection h with h; subst h; exact rl [1, 2, 4, 5, 19, 20, 21] [0, 1, 2] [.t, .row (c56 x12), .row (c93 x14), .t, .row (c93 x17), .b r19, .t, .obj [] (.arr 3 [v10] (List.length [v10]) false), .obj [] (.arr 3 (l9 ++ [v10]) (List.length (l9 ++ [v10])) false)] (pc h11<|pc (ob56 h13)<|pc (ob93 h15)<|pc h16<|pc (ob93 h18)<|pc (k_names_Member h20)<|pc h21<|pc (bs_ob 3 [v10])<|pc (app_ob 3 (n := l9.length) (l := l9) (xs := [v10]) h22)<|pc ((rn (List.length [v10])))<|pn)
          · cases h
        · injection h with h; subst h; exact rl [1, 2, 4, 5, 19, 20, 21] [0, 1, 2] [.t, .row (c56 x12), .row (c93 x14), .t, .row (c93 x17), .b r19, .f] (pc h11<|pc (ob56 h13)<|pc (ob93 h15)<|pc h16<|pc (ob93 h18)<|pc (k_names_Member h20)<|pc h21<|pn)
      · injection h with h; subst h; exact rl [1, 2, 4, 5, 19, 20, 21] [0, 1, 2] [.t, .row (c56 x12), .row (c93 x14), .f] (pc h11<|pc (ob56 h13)<|pc (ob93 h15)<|pc h16<|pn)
    · injection h with h; subst h; exact rl [4, 5] [1, 2] [.f] (pc h11<|pn)
  · exact Ex.noConfusion

theorem k_names_Members {a1 : Api_Net} {a2 : Int} {r : ((List Int))} (h : names_Members a1 a2 = some r) :
    CallsOK Tryz.prog UU 58 [.agg (c31 a1), .j a2] [] ((fun r => match r with | l28 => .os 0 l28.length) r) ((fun r => match r with | l28 => [.arr 3 l28 l28.length false]) r) := by
  unfold names_Members at h
  obtain ⟨r3, h4, h⟩ := bo h
  obtain ⟨h5, h⟩|⟨h5, h⟩ := ite_out h
  · injection h with h; subst h; exact rf Tryz.func58 (some [2]) [.b r3, .t] (pc (k_names_Right h4)<|pc h5<|pn)
  · obtain ⟨r6, h7, h⟩ := bo h
    obtain ⟨h8, h⟩|⟨h8, h⟩ := ite_out h
    · injection h with h; subst h; exact rf Tryz.func58 (some [2]) [.b r3, .f, .b r6, .t] (pc (k_names_Right h4)<|pc h5<|pc (k_names_place_Domain h7)<|pc h8<|pn)
    · obtain ⟨l25, h26, h⟩ := bo h
      injection h with h; subst h; exact rf Tryz.func58 (some [1]) [.b r3, .f, .b r6, .f, .sum [1, 2, 4, 5, 19, 20, 21] [0, 1, 2] (.exit 0) [(4, .os 0 0), (5, .os 1 l25.length)] [.n 3, .arr 3 l25 l25.length false]] (pc (k_names_Right h4)<|pc h5<|pc (k_names_place_Domain h7)<|pc h8<|pc (k_names_Members_L1 _ _ h26)<|pn)

theorem k_lookup_open {a1 : Api_Net} {a2 : List Bool} {a3 : Int} {a4 : Int} {r : (Unit) ⊕ ((List Int) × Bool)} (h : lookup_open a1 a2 a3 a4 = some r) :
    CallsOK Tryz.prog UU 173 [.agg (c31 a1), .sl 4 a2, .j a3, .j a4] [] ((fun r => match r with | Sum.inl () => .tup [.v (.pointer none), .v (.bool false)] | Sum.inr (l18, v19) => .tup [.op 0 1 0 0, .v (.bool v19)]) r) ((fun r => match r with | Sum.inl () => [] | Sum.inr (l18, v19) => [.box 219 [.sl 91 a1.devices, .sl 56 a1.ports, .sl 112 a1.links, .sl 93 a1.domains, .sl 97 a1.statics, .sl 100 a1.floods, .sl 103 a1.vrfs, .sl 118 a1.irbs, .sl 4 a2, .j a3, .j a4, .os 1 l18.length] false, .arr 3 l18 l18.length false]) r) := by
  unfold lookup_open at h
  obtain ⟨h5, h⟩|⟨h5, h⟩ := ite_out h
  · injection h with h; subst h; exact rf Tryz.func173 (some []) [.t] (pc h5<|pn)
  · obtain ⟨h6, h⟩|⟨h6, h⟩ := ite_out h
    · injection h with h; subst h; exact rf Tryz.func173 (some []) [.f, .t] (pc h5<|pc h6<|pn)
    · obtain ⟨h7, h⟩|⟨h7, h⟩ := ite_out h
      · injection h with h; subst h; exact rf Tryz.func173 (some []) [.f, .f, .t] (pc h5<|pc h6<|pc h7<|pn)
      · obtain ⟨r8, h9, h⟩ := bo h
        obtain ⟨h10, h⟩|⟨h10, h⟩ := ite_out h
        · injection h with h; subst h; exact rf Tryz.func173 (some []) [.f, .f, .f, .b r8, .t] (pc h5<|pc h6<|pc h7<|pc (k_names_Right h9)<|pc h10<|pn)
        · obtain ⟨l13, h12, h⟩ := bo h
          obtain ⟨h14, h⟩|⟨h14, h⟩ := ite_out h
          · injection h with h; subst h; exact rf Tryz.func173 (some [2, 1]) [.f, .f, .f, .b r8, .f, .sum [6] [] .nor [] [.box 31 (c31 a1) false, .arr 3 l13 l13.length false], .callo (.os 0 l13.length) [.arr 3 l13 l13.length false], .t] (pc h5<|pc h6<|pc h7<|pc (k_names_Right h9)<|pc h10<|pc ((rfl : (.agg [.sl 91 a1.devices, .sl 56 a1.ports, .sl 112 a1.links, .sl 93 a1.domains, .sl 97 a1.statics, .sl 100 a1.floods, .sl 103 a1.vrfs, .sl 118 a1.irbs] : AV DD) = .agg [.sl 91 a1.devices, .sl 56 a1.ports, .sl 112 a1.links, .sl 93 a1.domains, .sl 97 a1.statics, .sl 100 a1.floods, .sl 103 a1.vrfs, .sl 118 a1.irbs]))<|pc ((rfl : (.sl 4 a2 : AV DD) = .sl 4 a2))<|pc ((rfl : (.j a3 : AV DD) = .j a3))<|pc ((rfl : (.j a4 : AV DD) = .j a4))<|pc ((rfl : ([.box 31 (c31 a1) false, .arr 3 l13 l13.length false] : Heap DD) = [.box 31 (c31 a1) false, .arr 3 l13 l13.length false]))<|pc (k_names_Members h12)<|pc (im3 l13)<|pc h14<|pn)
          · obtain ⟨h15, h⟩|⟨h15, h⟩ := ite_out h
            · injection h with h; subst h; exact rf Tryz.func173 (some [2, 1]) [.f, .f, .f, .b r8, .f, .sum [6] [] .nor [] [.box 31 (c31 a1) false, .arr 3 l13 l13.length false], .callo (.os 0 l13.length) [.arr 3 l13 l13.length false], .f, .t] (pc h5<|pc h6<|pc h7<|pc (k_names_Right h9)<|pc h10<|pc ((rfl : (.agg [.sl 91 a1.devices, .sl 56 a1.ports, .sl 112 a1.links, .sl 93 a1.domains, .sl 97 a1.statics, .sl 100 a1.floods, .sl 103 a1.vrfs, .sl 118 a1.irbs] : AV DD) = .agg [.sl 91 a1.devices, .sl 56 a1.ports, .sl 112 a1.links, .sl 93 a1.domains, .sl 97 a1.statics, .sl 100 a1.floods, .sl 103 a1.vrfs, .sl 118 a1.irbs]))<|pc ((rfl : (.sl 4 a2 : AV DD) = .sl 4 a2))<|pc ((rfl : (.j a3 : AV DD) = .j a3))<|pc ((rfl : (.j a4 : AV DD) = .j a4))<|pc ((rfl : ([.box 31 (c31 a1) false, .arr 3 l13 l13.length false] : Heap DD) = [.box 31 (c31 a1) false, .arr 3 l13 l13.length false]))<|pc (k_names_Members h12)<|pc (im3 l13)<|pc h14<|pc h15<|pn)
            · obtain ⟨r16, h17, h⟩ := bo h
              injection h with h; subst h; exact rf Tryz.func173 (some [2, 1]) [.f, .f, .f, .b r8, .f, .sum [6] [] .nor [] [.box 31 (c31 a1) false, .arr 3 l13 l13.length false], .callo (.os 0 l13.length) [.arr 3 l13 l13.length false], .f, .f, .b r16] (pc h5<|pc h6<|pc h7<|pc (k_names_Right h9)<|pc h10<|pc ((rfl : (.agg [.sl 91 a1.devices, .sl 56 a1.ports, .sl 112 a1.links, .sl 93 a1.domains, .sl 97 a1.statics, .sl 100 a1.floods, .sl 103 a1.vrfs, .sl 118 a1.irbs] : AV DD) = .agg [.sl 91 a1.devices, .sl 56 a1.ports, .sl 112 a1.links, .sl 93 a1.domains, .sl 97 a1.statics, .sl 100 a1.floods, .sl 103 a1.vrfs, .sl 118 a1.irbs]))<|pc ((rfl : (.sl 4 a2 : AV DD) = .sl 4 a2))<|pc ((rfl : (.j a3 : AV DD) = .j a3))<|pc ((rfl : (.j a4 : AV DD) = .j a4))<|pc ((rfl : ([.box 31 (c31 a1) false, .arr 3 l13 l13.length false] : Heap DD) = [.box 31 (c31 a1) false, .arr 3 l13 l13.length false]))<|pc (k_names_Members h12)<|pc (im3 l13)<|pc h14<|pc h15<|pc (k_slices_Contains_int h17)<|pc (rn l13.length)<|pn)

theorem k_slices_Clone_int {a1 : List Int} {r : List Int} (h : slices_Clone_int a1 = some r) :
    CallsOK Tryz.prog UU 151 [.sl 3 a1] [] (.os 0 r.length) [.arr 3 r r.length false] := by
  unfold slices_Clone_int at h
  obtain ⟨h1, h⟩|⟨h1, h⟩ := ite_out h
  · injection h with h; subst h
    refine sn_split ?_ (fun e => ?_)
    · exact rf Tryz.func151 (some [1]) [.obj [] (.n 3), .obj [] (.arr 3 a1 a1.length false)] (pc (bs_ob 3 [])<|pc (app_ob 3 (n := 0) (l := []) (xs := a1) h1)<|pn)
    · subst e; exact rf Tryz.func151 (some [1]) [] (pn)
  · cases h

theorem k_lookup_usable {a1 : Api_Net} {a2 : List Bool} {a3 : Int} {r : Bool} (h : lookup_usable a1 a2 a3 = some r) :
    CallsOK Tryz.prog UU 126 [.agg (c31 a1), .sl 4 a2, .j a3] [] (.v (.bool r)) [] := by
  unfold lookup_usable at h
  obtain ⟨x4, h5, h⟩ := bo h
  obtain ⟨h6, h⟩|⟨h6, h⟩ := ite_out h
  · injection h with h; subst h; exact rf Tryz.func126 none [.row (c56 x4), .t] (pc (ob56 h5)<|pc h6<|pn)
  · obtain ⟨x7, h8, h⟩ := bo h
    injection h with h; subst h; exact rf Tryz.func126 none [.row (c56 x4), .f, .row (c4 x7)] (pc (ob56 h5)<|pc h6<|pc (ob4 h8)<|pn)

theorem k_lookup_room_ports_1 {a1 : Int} {a2 : Lookup_room} {r : Bool} (h : lookup_room_ports_1 a1 a2 = some r) :
    CallsOK Tryz.prog UU 223 [.j a1, .rp [.rp (c219 a2) 0] 0] [] (.v (.bool r)) [] := by
  unfold lookup_room_ports_1 at h
  obtain ⟨h3, h⟩|⟨h3, h⟩ := ite_out h
  · injection h with h; subst h; exact rf Tryz.func223 none [.t] (pc h3<|pn)
  · obtain ⟨r4, h5, h⟩ := bo h
    injection h with h; subst h; exact rf Tryz.func223 none [.f, .b r4] (pc h3<|pc (k_lookup_usable h5)<|pn)

theorem k_slices_IndexFunc_int_room_ports_1_L1 {a1 : List Int} {a2 : Lookup_room} : LoopOK Tryz.prog UU 0 19 (subC (codeOf Tryz.f155) [1, 0, 1, 0, 0]) (ρ := Int ⊕ Unit) (slices_IndexFunc_int_room_ports_1_L1 a1 a2)
    (fun v3 : Int => ([(0, .sl 3 a1), (1, .fn (.func 223) [] [.rp [.rp (c219 a2) 0] 0]), (4, .z), (7, .j (a1.length : Int)), (8, .j v3)] : Fr DD)) (fun v3 : Int => ([] : Heap DD)) (fun r => match r with | Sum.inl v11 => .ret | Sum.inr _ => .exit 0) (fun r => match r with | Sum.inl v11 => [(4, .j v11)] | Sum.inr _ => [(4, .z)]) (fun r => match r with | Sum.inl v11 => [] | Sum.inr _ => []) := by
  refine loop_sound3 (fun s q h => ?_) (fun r => ?_)
  · replace h : slices_IndexFunc_int_room_ports_1_L1 a1 a2 s = some q := h; revert h; revert s; intro v3 h
    unfold slices_IndexFunc_int_room_ports_1_L1 at h
    obtain ⟨h4, h⟩|⟨h4, h⟩ := ite_out h
    · obtain ⟨x5, h6, h⟩ := bo h
      obtain ⟨r7, h8, h⟩ := bo h
      obtain ⟨h9, h⟩|⟨h9, h⟩ := ite_out h
      · injection h with h; subst h; exact rl [4] [] [.t, .row (c3 x5), .b r7, .t] (pc h4<|pc (ob3 h6)<|pc (k_lookup_room_ports_1 h8)<|pc h9<|pn)
      · injection h with h; subst h; exact rl [0, 1, 4, 7, 8] [] [.t, .row (c3 x5), .b r7, .f] (pc h4<|pc (ob3 h6)<|pc (k_lookup_room_ports_1 h8)<|pc h9<|pn)
    · injection h with h; subst h; exact rl [4] [] [.f] (pc h4<|pn)
  · rcases r with _ | _ <;> exact Ex.noConfusion

theorem k_slices_IndexFunc_int_room_ports_1 {a1 : List Int} {a2 : Lookup_room} {r : Int} (h : slices_IndexFunc_int_room_ports_1 a1 a2 = some r) :
    CallsOK Tryz.prog UU 155 [.sl 3 a1, .fn (.func 223) [] [.rp [.rp (c219 a2) 0] 0]] [] (.j r) [] := by
  unfold slices_IndexFunc_int_room_ports_1 at h
  obtain ⟨r13, h12, h⟩ := bo h
  rcases r13 with v11 | _
  · injection h with h; subst h; exact rf Tryz.func155 none [.sum [0, 1, 4, 7, 8] [] .ret [(4, .j v11)] []] (pc (k_slices_IndexFunc_int_room_ports_1_L1 _ _ h12)<|pn)
  · injection h with h; subst h; exact rf Tryz.func155 none [.sum [0, 1, 4, 7, 8] [] (.exit 0) [(4, .z)] []] (pc (k_slices_IndexFunc_int_room_ports_1_L1 _ _ h12)<|pn)

theorem k_slices_DeleteFunc_int_room_ports_1_own_L1 {a1 : List Int} {a2 : Lookup_room} : LoopOK Tryz.prog UU 2 42 (subC (codeOf Tryz.f57) [1, 1, 1, 0, 1, 0, 0]) (fun s : (List Int) × Int × Int => match s with | (l6, v7, v8) => slices_DeleteFunc_int_room_ports_1_own_L1 a1 a2 l6 v7 v8)
    (fun s : (List Int) × Int × Int => (match s with | (l6, v7, v8) => [(0, .os 0 a1.length), (1, .fn (.func 223) [] [.op 1 1 0 0]), (4, .os 2 0), (5, .j v7), (6, .j v8)] : Fr DD)) (fun s : (List Int) × Int × Int => (match s with | (l6, v7, v8) => [.arr 3 l6 a1.length false, .box 214 [.rp (c219 a2) 0] false, .n 3] : Heap DD)) (fun r => match r with | (l23, v24) => .exit 0) (fun r => match r with | (l23, v24) => [(0, .os 0 a1.length), (4, .os 2 0), (5, .j v24)]) (fun r => match r with | (l23, v24) => [.arr 3 l23 a1.length false, .box 214 [.rp (c219 a2) 0] false, .n 3]) := by
  refine loop_sound3 (fun s q h => ?_) (fun r => ?_)
  · obtain ⟨l6, v7, v8⟩ := s; replace h : slices_DeleteFunc_int_room_ports_1_own_L1 a1 a2 l6 v7 v8 = some q := h
    unfold slices_DeleteFunc_int_room_ports_1_own_L1 at h
    obtain ⟨h9, h⟩|⟨h9, h⟩ := ite_out h
    · obtain ⟨h10, h⟩|⟨h10, h⟩ := ite_out h
      · obtain ⟨x11, h12, h⟩ := bo h
        obtain ⟨r13, h14, h⟩ := bo h
        obtain ⟨h15, h⟩|⟨h15, h⟩ := ite_out h
        · obtain ⟨h16, h⟩|⟨h16, h⟩ := ite_out h
          · obtain ⟨x17, h18, h⟩ := bo h
            injection h with h; subst h; exact rl [0, 1, 4, 5, 6] [0, 1, 2] [.t, .row (c3 x11), .b r13, .t, .row (c3 x17), .obj [] (.arr 3 (List.set l6 v7.toNat x11) a1.length false)] (pc (rn a1.length)<|pc h9<|pc (an a1.length (lin_ob h10))<|pc (an a1.length (obn3 h12))<|pc (k_lookup_room_ports_1 h14)<|pc h15<|pc (an a1.length (lin_ob h16))<|pc (st_ob (e := 3) (n := a1.length) (l := l6) (i := v7.toNat) x11 [.j x11] (obn3 h18) rfl)<|pn)
          · cases h
        · injection h with h; subst h; exact rl [0, 1, 4, 5, 6] [0, 1, 2] [.t, .row (c3 x11), .b r13, .f] (pc (rn a1.length)<|pc h9<|pc (an a1.length (lin_ob h10))<|pc (an a1.length (obn3 h12))<|pc (k_lookup_room_ports_1 h14)<|pc h15<|pn)
      · cases h
    · injection h with h; subst h; exact rl [0, 4, 5] [0, 1, 2] [.f] (pc (rn a1.length)<|pc h9<|pn)
  · exact Ex.noConfusion

theorem k_slices_DeleteFunc_int_room_ports_1_own {a1 : List Int} {a2 : Lookup_room} {r : ((List Int) × (List Int))} (h : slices_DeleteFunc_int_room_ports_1_own a1 a2 = some r) :
    CallsOK Tryz.prog UU 57 [.os 0 a1.length, .fn (.func 223) [] [.op 1 1 0 0]] [.arr 3 a1 a1.length false, .box 214 [.rp (c219 a2) 0] false] ((fun r => match r with | (l29, l30) => .sl 3 l30) r) ((fun r => match r with | (l29, l30) => [.arr 3 l29 a1.length true, .box 214 [.rp (c219 a2) 0] false]) r) := by
  unfold slices_DeleteFunc_int_room_ports_1_own at h
  obtain ⟨r3, h4, h⟩ := bo h
  obtain ⟨h5, h⟩|⟨h5, h⟩ := ite_out h
  · injection h with h; subst h; exact runFz_sound mixedOrders Tryz.func57 rfl (ids := [0, 1]) (fz := [0]) (π := [.callv (.j r3), .t]) (hrun := by kernel_rfl) (hps := pc (k_slices_IndexFunc_int_room_ports_1 h4)<|pc (rn a1.length)<|pc h5<|pc (rn a1.length)<|pn)
  · obtain ⟨r26, h25, h⟩ := bo h
    obtain ⟨l23, v24⟩ := r26
    obtain ⟨h27, h⟩|⟨h27, h⟩ := ite_out h
    · obtain ⟨h28, h⟩|⟨h28, h⟩ := ite_out h
      · injection h with h; subst h; exact runFz_sound mixedOrders Tryz.func57 rfl (ids := [0, 1]) (fz := [0]) (π := [.callv (.j r3), .f, .sum [0, 1, 4, 5, 6] [0, 1, 2] (.exit 0) [(0, .os 0 a1.length), (4, .os 2 0), (5, .j v24)] [.arr 3 l23 a1.length false, .box 214 [.rp (c219 a2) 0] false, .n 3], .obj [] (.arr 3 (List.take v24.toNat l23 ++ (List.replicate ((Int.toNat (l23.length : Int)) - v24.toNat) (0 : Int) ++ List.drop (Int.toNat (l23.length : Int)) l23)) a1.length false)]) (hrun := by kernel_rfl) (hps := pc (k_slices_IndexFunc_int_room_ports_1 h4)<|pc (rn a1.length)<|pc h5<|pc (k_slices_DeleteFunc_int_room_ports_1_own_L1 _ _ h25)<|pc (rn a1.length)<|pc (sl_ob h27)<|pc (cl_ob (e := 3) (n := a1.length) (l := l23) (a := v24.toNat) (b := (Int.toNat (l23.length : Int))) (0 : Int))<|pc (rn a1.length)<|pc (sl_ob h28)<|pc (rn a1.length)<|pn)
      · cases h
    · cases h

theorem k_lookup_room_ports {a1 : Lookup_room} {a2 : List Int} {r : (List Int)} (h : lookup_room_ports a1 a2 = some r) :
    CallsOK Tryz.prog UU 174 [.rp (c219 a1) 0, .sl 3 a2] [] (.sl 3 r) [] := by
  unfold lookup_room_ports at h
  obtain ⟨l5, h4, h⟩ := bo h
  obtain ⟨r6, h7, h⟩ := bo h
  obtain ⟨l8, l9⟩ := r6
  injection h with h; subst h; exact rf Tryz.func174 none [.callo (.os 0 l5.length) [.arr 3 l5 l5.length false], .callm [2, 0] (.sl 3 l9) [.arr 3 l8 l5.length true, .box 214 [.rp (c219 a1) 0] false]] (pc (k_slices_Clone_int h4)<|pc (im3 l5)<|pc (k_slices_DeleteFunc_int_room_ports_1_own h7)<|pn)

theorem k_lookup_room_peers {a1 : Lookup_room} {r : ((List Int))} (h : lookup_room_peers a1 = some r) :
    CallsOK Tryz.prog UU 175 [.rp (c219 a1) 0] [] ((fun r => match r with | l8 => .os 0 l8.length) r) ((fun r => match r with | l8 => [.arr 3 l8 l8.length false]) r) := by
  unfold lookup_room_peers at h
  obtain ⟨h2, h⟩|⟨h2, h⟩ := ite_out h
  · injection h with h; subst h; exact rf Tryz.func175 (some [1]) [.t] (pc h2<|pn)
  · obtain ⟨x3, h4, h⟩ := bo h
    obtain ⟨l7, h6, h⟩ := bo h
    injection h with h; subst h; exact rf Tryz.func175 (some [1]) [.f, .row (c93 x3), .callo (.os 0 l7.length) [.arr 3 l7 l7.length false]] (pc h2<|pc (ob93 h4)<|pc (k_slices_Clone_int h6)<|pc (im3 l7)<|pn)

end Go.Eng
