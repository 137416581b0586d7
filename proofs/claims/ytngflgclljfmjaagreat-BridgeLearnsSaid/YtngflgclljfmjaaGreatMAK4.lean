/- Part of the proof of BridgeLearns: printed mirrors of the functions, or their contracts. No conditions. -/
import Derived.Test.YtngflgclljfmjaaGreatMAK3
set_option linter.unusedVariables false
set_option maxRecDepth 100000
namespace Go.Eng
open Go Go.Proofs
theorem k_palinglaw31_BridgeLearns_L1 {a3 : List Api_Entry} {a5 : Api_Queued} {r21 : List Api_Entry} : LoopOK Tryz.prog UU 0 124 (subC (codeOf Tryz.f8) [1, 1, 1, 1, 1, 1, 0, 1, 0, 0]) (ρ := Unit ⊕ Unit) (palinglaw31_BridgeLearns_L1 a3 a5 r21)
    (fun v28 : Int => ([(2, .sl 84 a3), (10, .op 0 1 0 0), (12, .v (.bool false)), (13, .sl 84 r21), (68, .sl 84 r21), (69, .j (r21.length : Int)), (70, .j v28)] : Fr DD)) (fun v28 : Int => ([.box 64 (c64 a5) false] : Heap DD)) (fun r => match r with | Sum.inl _ => .ret | Sum.inr _ => .exit 0) (fun r => match r with | Sum.inl _ => [(12, .v (.bool false))] | Sum.inr _ => [(2, .sl 84 a3), (10, .op 0 1 0 0), (12, .v (.bool false)), (13, .sl 84 r21)]) (fun r => match r with | Sum.inl _ => [] | Sum.inr _ => [.box 64 (c64 a5) false]) := by
  refine loop_sound3 (fun s q h => ?_) (fun r => ?_)
  · replace h : palinglaw31_BridgeLearns_L1 a3 a5 r21 s = some q := h; revert h; revert s; intro v28 h
    unfold palinglaw31_BridgeLearns_L1 at h
    obtain ⟨h29, h⟩|⟨h29, h⟩ := ite_out h
    · obtain ⟨x30, h31, h⟩ := bo h
      obtain ⟨r32, h33, h⟩ := bo h
      obtain ⟨h34, h⟩|⟨h34, h⟩ := ite_out h
      · obtain ⟨h35, h⟩|⟨h35, h⟩ := ite_out h
        · injection h with h; subst h; exact rl [12] [] [.t, .row (c84 x30), .callv (.tup [.v (.int .i64 r32.1), .v (.bool r32.2)]), .t, .t] (pc h29<|pc (ob84 h31)<|pc (k_table_Find h33)<|pc h34<|pc h35<|pn)
        · injection h with h; subst h; exact rl [2, 10, 12, 13, 68, 69, 70] [0] [.t, .row (c84 x30), .callv (.tup [.v (.int .i64 r32.1), .v (.bool r32.2)]), .t, .f] (pc h29<|pc (ob84 h31)<|pc (k_table_Find h33)<|pc h34<|pc h35<|pn)
      · injection h with h; subst h; exact rl [2, 10, 12, 13, 68, 69, 70] [0] [.t, .row (c84 x30), .callv (.tup [.v (.int .i64 r32.1), .v (.bool r32.2)]), .f] (pc h29<|pc (ob84 h31)<|pc (k_table_Find h33)<|pc h34<|pn)
    · injection h with h; subst h; exact rl [2, 10, 12, 13] [0] [.f] (pc h29<|pn)
  · rcases r with _ | _ <;> exact Ex.noConfusion

theorem k_palinglaw31_BridgeLearns {a1 : Api_Net} {a2 : List Bool} {a3 : List Api_Entry} {a4 : Int} {a5 : Api_Queued} {a6 : Int} {r : Bool} (h : palinglaw31_BridgeLearns a1 a2 a3 a4 a5 a6 = some r) :
    CallsOK Tryz.prog UU 8 [.agg (c31 a1), .sl 4 a2, .sl 84 a3, .j a4, .agg (c64 a5), .j a6] [] (.v (.bool r)) [] := by
  unfold palinglaw31_BridgeLearns at h
  obtain ⟨r7, h8, h⟩ := bo h
  obtain ⟨h9, h⟩|⟨h9, h⟩ := ite_out h
  · injection h with h; subst h; exact rf Tryz.func8 none [.b r7, .t] (pc (k_palinglaw31_works h8)<|pc h9<|pn)
  · obtain ⟨r10, h11, h⟩ := bo h
    obtain ⟨h12, h⟩|⟨h12, h⟩ := ite_out h
    · injection h with h; subst h; exact rf Tryz.func8 none [.b r7, .f, .b r10, .t] (pc (k_palinglaw31_works h8)<|pc h9<|pc (k_palinglaw31_Great h11)<|pc h12<|pn)
    · obtain ⟨r13, h14, h⟩ := bo h
      obtain ⟨h15, h⟩|⟨h15, h⟩ := ite_out h
      · injection h with h; subst h; exact rf Tryz.func8 none [.b r7, .f, .b r10, .f, .b r13, .t] (pc (k_palinglaw31_works h8)<|pc h9<|pc (k_palinglaw31_Great h11)<|pc h12<|pc (k_mac_Group h14)<|pc h15<|pn)
      · obtain ⟨h16, h⟩|⟨h16, h⟩ := ite_out h
        · injection h with h; subst h; exact rf Tryz.func8 none [.b r7, .f, .b r10, .f, .b r13, .f, .t] (pc (k_palinglaw31_works h8)<|pc h9<|pc (k_palinglaw31_Great h11)<|pc h12<|pc (k_mac_Group h14)<|pc h15<|pc h16<|pn)
        · obtain ⟨h17, h⟩|⟨h17, h⟩ := ite_out h
          · injection h with h; subst h; exact rf Tryz.func8 none [.b r7, .f, .b r10, .f, .b r13, .f, .f, .t] (pc (k_palinglaw31_works h8)<|pc h9<|pc (k_palinglaw31_Great h11)<|pc h12<|pc (k_mac_Group h14)<|pc h15<|pc h16<|pc h17<|pn)
          · obtain ⟨h18, h⟩|⟨h18, h⟩ := ite_out h
            · injection h with h; subst h; exact rf Tryz.func8 none [.b r7, .f, .b r10, .f, .b r13, .f, .f, .f, .t] (pc (k_palinglaw31_works h8)<|pc h9<|pc (k_palinglaw31_Great h11)<|pc h12<|pc (k_mac_Group h14)<|pc h15<|pc h16<|pc h17<|pc h18<|pn)
            · obtain ⟨r19, h20, h⟩ := bo h
              obtain ⟨r21, r22, r23⟩ := r19
              obtain ⟨h24, h⟩|⟨h24, h⟩ := ite_out h
              · injection h with h; subst h; exact rf Tryz.func8 none [.b r7, .f, .b r10, .f, .b r13, .f, .f, .f, .f, .callm [] (.tup [.sl 84 r21, .sl 77 r22, .j r23]) [], .t] (pc (k_palinglaw31_works h8)<|pc h9<|pc (k_palinglaw31_Great h11)<|pc h12<|pc (k_mac_Group h14)<|pc h15<|pc h16<|pc h17<|pc h18<|pc (k_bridge_Step h20)<|pc h24<|pn)
              · obtain ⟨r25, h26, h⟩ := bo h
                obtain ⟨h27, h⟩|⟨h27, h⟩ := ite_out h
                · injection h with h; subst h; exact rf Tryz.func8 none [.b r7, .f, .b r10, .f, .b r13, .f, .f, .f, .f, .callm [] (.tup [.sl 84 r21, .sl 77 r22, .j r23]) [], .f, .b r25, .t] (pc (k_palinglaw31_works h8)<|pc h9<|pc (k_palinglaw31_Great h11)<|pc h12<|pc (k_mac_Group h14)<|pc h15<|pc h16<|pc h17<|pc h18<|pc (k_bridge_Step h20)<|pc h24<|pc (k_table_Right h26)<|pc h27<|pn)
                · obtain ⟨r37, h36, h⟩ := bo h
                  rcases r37 with _ | _
                  · injection h with h; subst h; exact rf Tryz.func8 none [.b r7, .f, .b r10, .f, .b r13, .f, .f, .f, .f, .callm [] (.tup [.sl 84 r21, .sl 77 r22, .j r23]) [], .f, .b r25, .f, .sum [2, 10, 12, 13, 68, 69, 70] [1] .ret [(12, .v (.bool false))] []] (pc (k_palinglaw31_works h8)<|pc h9<|pc (k_palinglaw31_Great h11)<|pc h12<|pc (k_mac_Group h14)<|pc h15<|pc h16<|pc h17<|pc h18<|pc (k_bridge_Step h20)<|pc h24<|pc (k_table_Right h26)<|pc h27<|pc (k_palinglaw31_BridgeLearns_L1 _ _ h36)<|pn)
                  · obtain ⟨r38, h39, h⟩ := bo h
                    obtain ⟨h40, h⟩|⟨h40, h⟩ := ite_out h
                    · obtain ⟨r41, h42, h⟩ := bo h
                      injection h with h; subst h; exact rf Tryz.func8 none [.b r7, .f, .b r10, .f, .b r13, .f, .f, .f, .f, .callm [] (.tup [.sl 84 r21, .sl 77 r22, .j r23]) [], .f, .b r25, .f, .sum [2, 10, 12, 13, 68, 69, 70] [1] (.exit 0) [(2, .sl 84 a3), (10, .op 0 1 0 0), (12, .v (.bool false)), (13, .sl 84 r21)] [.box 64 (c64 a5) false], .callv (.tup [.v (.int .i64 r38.1), .v (.bool r38.2)]), .t, .b r41] (pc (k_palinglaw31_works h8)<|pc h9<|pc (k_palinglaw31_Great h11)<|pc h12<|pc (k_mac_Group h14)<|pc h15<|pc h16<|pc h17<|pc h18<|pc (k_bridge_Step h20)<|pc h24<|pc (k_table_Right h26)<|pc h27<|pc (k_palinglaw31_BridgeLearns_L1 _ _ h36)<|pc (k_table_Find h39)<|pc h40<|pc (k_table_Same h42)<|pn)
                    · obtain ⟨h43, h⟩|⟨h43, h⟩ := ite_out h
                      · obtain ⟨h44, h⟩|⟨h44, h⟩ := ite_out h
                        · injection h with h; subst h; exact rf Tryz.func8 none [.b r7, .f, .b r10, .f, .b r13, .f, .f, .f, .f, .callm [] (.tup [.sl 84 r21, .sl 77 r22, .j r23]) [], .f, .b r25, .f, .sum [2, 10, 12, 13, 68, 69, 70] [1] (.exit 0) [(2, .sl 84 a3), (10, .op 0 1 0 0), (12, .v (.bool false)), (13, .sl 84 r21)] [.box 64 (c64 a5) false], .callv (.tup [.v (.int .i64 r38.1), .v (.bool r38.2)]), .f, .t, .t] (pc (k_palinglaw31_works h8)<|pc h9<|pc (k_palinglaw31_Great h11)<|pc h12<|pc (k_mac_Group h14)<|pc h15<|pc h16<|pc h17<|pc h18<|pc (k_bridge_Step h20)<|pc h24<|pc (k_table_Right h26)<|pc h27<|pc (k_palinglaw31_BridgeLearns_L1 _ _ h36)<|pc (k_table_Find h39)<|pc h40<|pc h43<|pc h44<|pn)
                        · injection h with h; subst h; exact rf Tryz.func8 none [.b r7, .f, .b r10, .f, .b r13, .f, .f, .f, .f, .callm [] (.tup [.sl 84 r21, .sl 77 r22, .j r23]) [], .f, .b r25, .f, .sum [2, 10, 12, 13, 68, 69, 70] [1] (.exit 0) [(2, .sl 84 a3), (10, .op 0 1 0 0), (12, .v (.bool false)), (13, .sl 84 r21)] [.box 64 (c64 a5) false], .callv (.tup [.v (.int .i64 r38.1), .v (.bool r38.2)]), .f, .t, .f] (pc (k_palinglaw31_works h8)<|pc h9<|pc (k_palinglaw31_Great h11)<|pc h12<|pc (k_mac_Group h14)<|pc h15<|pc h16<|pc h17<|pc h18<|pc (k_bridge_Step h20)<|pc h24<|pc (k_table_Right h26)<|pc h27<|pc (k_palinglaw31_BridgeLearns_L1 _ _ h36)<|pc (k_table_Find h39)<|pc h40<|pc h43<|pc h44<|pn)
                      · obtain ⟨h45, h⟩|⟨h45, h⟩ := ite_out h
                        · injection h with h; subst h; exact rf Tryz.func8 none [.b r7, .f, .b r10, .f, .b r13, .f, .f, .f, .f, .callm [] (.tup [.sl 84 r21, .sl 77 r22, .j r23]) [], .f, .b r25, .f, .sum [2, 10, 12, 13, 68, 69, 70] [1] (.exit 0) [(2, .sl 84 a3), (10, .op 0 1 0 0), (12, .v (.bool false)), (13, .sl 84 r21)] [.box 64 (c64 a5) false], .callv (.tup [.v (.int .i64 r38.1), .v (.bool r38.2)]), .f, .f, .t] (pc (k_palinglaw31_works h8)<|pc h9<|pc (k_palinglaw31_Great h11)<|pc h12<|pc (k_mac_Group h14)<|pc h15<|pc h16<|pc h17<|pc h18<|pc (k_bridge_Step h20)<|pc h24<|pc (k_table_Right h26)<|pc h27<|pc (k_palinglaw31_BridgeLearns_L1 _ _ h36)<|pc (k_table_Find h39)<|pc h40<|pc h43<|pc h45<|pn)
                        · injection h with h; subst h; exact rf Tryz.func8 none [.b r7, .f, .b r10, .f, .b r13, .f, .f, .f, .f, .callm [] (.tup [.sl 84 r21, .sl 77 r22, .j r23]) [], .f, .b r25, .f, .sum [2, 10, 12, 13, 68, 69, 70] [1] (.exit 0) [(2, .sl 84 a3), (10, .op 0 1 0 0), (12, .v (.bool false)), (13, .sl 84 r21)] [.box 64 (c64 a5) false], .callv (.tup [.v (.int .i64 r38.1), .v (.bool r38.2)]), .f, .f, .f] (pc (k_palinglaw31_works h8)<|pc h9<|pc (k_palinglaw31_Great h11)<|pc h12<|pc (k_mac_Group h14)<|pc h15<|pc h16<|pc h17<|pc h18<|pc (k_bridge_Step h20)<|pc h24<|pc (k_table_Right h26)<|pc h27<|pc (k_palinglaw31_BridgeLearns_L1 _ _ h36)<|pc (k_table_Find h39)<|pc h40<|pc h43<|pc h45<|pn)

end Go.Eng
