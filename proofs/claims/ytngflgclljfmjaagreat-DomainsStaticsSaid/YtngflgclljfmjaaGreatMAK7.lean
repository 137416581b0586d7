/- Part of the proof of DomainsStatics: printed mirrors of the functions, or their contracts. No conditions. -/
import Derived.Test.YtngflgclljfmjaaGreatMAK6
set_option linter.unusedVariables false
set_option maxRecDepth 100000
namespace Go.Eng
open Go Go.Proofs
theorem k_palingref03_Addrs_L1 {a1 : List Int} {a2 : List Int} : LoopOK Tryz.prog UU 0 26 (subC (codeOf Tryz.f56) [1, 1, 0, 1, 0, 0]) (ρ := Unit ⊕ Unit) (palingref03_Addrs_L1 a1 a2)
    (fun v4 : Int => ([(0, .sl 33 a1), (1, .sl 33 a2), (4, .v (.bool false)), (5, .j v4)] : Fr DD)) (fun v4 : Int => ([] : Heap DD)) (fun r => match r with | Sum.inl _ => .ret | Sum.inr _ => .exit 0) (fun r => match r with | Sum.inl _ => [(4, .v (.bool false))] | Sum.inr _ => [(4, .v (.bool false))]) (fun r => match r with | Sum.inl _ => [] | Sum.inr _ => []) := by
  refine loop_sound3 (fun s q h => ?_) (fun r => ?_)
  · replace h : palingref03_Addrs_L1 a1 a2 s = some q := h; revert h; revert s; intro v4 h
    unfold palingref03_Addrs_L1 at h
    obtain ⟨h5, h⟩|⟨h5, h⟩ := ite_out h
    · obtain ⟨x6, h7, h⟩ := bo h
      obtain ⟨x8, h9, h⟩ := bo h
      obtain ⟨h10, h⟩|⟨h10, h⟩ := ite_out h
      · injection h with h; subst h; exact rl [4] [] [.t, .row (c33 x6), .row (c33 x8), .t] (pc h5<|pc (ob33 h7)<|pc (ob33 h9)<|pc h10<|pn)
      · injection h with h; subst h; exact rl [0, 1, 4, 5] [] [.t, .row (c33 x6), .row (c33 x8), .f] (pc h5<|pc (ob33 h7)<|pc (ob33 h9)<|pc h10<|pn)
    · injection h with h; subst h; exact rl [4] [] [.f] (pc h5<|pn)
  · rcases r with _ | _ <;> exact Ex.noConfusion

theorem k_palingref03_Addrs {a1 : List Int} {a2 : List Int} {r : Bool} (h : palingref03_Addrs a1 a2 = some r) :
    CallsOK Tryz.prog UU 56 [.sl 33 a1, .sl 33 a2] [] (.v (.bool r)) [] := by
  unfold palingref03_Addrs at h
  obtain ⟨h3, h⟩|⟨h3, h⟩ := ite_out h
  · injection h with h; subst h; exact rf Tryz.func56 none [.t] (pc h3<|pn)
  · obtain ⟨r12, h11, h⟩ := bo h
    rcases r12 with _ | _
    · injection h with h; subst h; exact rf Tryz.func56 none [.f, .sum [0, 1, 4, 5] [] .ret [(4, .v (.bool false))] []] (pc h3<|pc (k_palingref03_Addrs_L1 _ _ h11)<|pn)
    · injection h with h; subst h; exact rf Tryz.func56 none [.f, .sum [0, 1, 4, 5] [] (.exit 0) [(4, .v (.bool false))] []] (pc h3<|pc (k_palingref03_Addrs_L1 _ _ h11)<|pn)

theorem k_palingref11_Same {a1 : Api_Line} {a2 : Api_Line} {r : Bool} (h : palingref11_Same a1 a2 = some r) :
    CallsOK Tryz.prog UU 216 [.agg (c37 a1), .agg (c37 a2)] [] (.v (.bool r)) [] := by
  unfold palingref11_Same at h
  obtain ⟨h3, h⟩|⟨h3, h⟩ := ite_out h
  · obtain ⟨h4, h⟩|⟨h4, h⟩ := ite_out h
    · obtain ⟨h5, h⟩|⟨h5, h⟩ := ite_out h
      · obtain ⟨h6, h⟩|⟨h6, h⟩ := ite_out h
        · obtain ⟨h7, h⟩|⟨h7, h⟩ := ite_out h
          · obtain ⟨h8, h⟩|⟨h8, h⟩ := ite_out h
            · obtain ⟨h9, h⟩|⟨h9, h⟩ := ite_out h
              · obtain ⟨h10, h⟩|⟨h10, h⟩ := ite_out h
                · obtain ⟨h11, h⟩|⟨h11, h⟩ := ite_out h
                  · obtain ⟨h12, h⟩|⟨h12, h⟩ := ite_out h
                    · obtain ⟨h13, h⟩|⟨h13, h⟩ := ite_out h
                      · obtain ⟨h14, h⟩|⟨h14, h⟩ := ite_out h
                        · obtain ⟨h15, h⟩|⟨h15, h⟩ := ite_out h
                          · obtain ⟨r16, h17, h⟩ := bo h
                            obtain ⟨h18, h⟩|⟨h18, h⟩ := ite_out h
                            · obtain ⟨r19, h20, h⟩ := bo h
                              obtain ⟨h21, h⟩|⟨h21, h⟩ := ite_out h
                              · obtain ⟨r22, h23, h⟩ := bo h
                                obtain ⟨h24, h⟩|⟨h24, h⟩ := ite_out h
                                · obtain ⟨r25, h26, h⟩ := bo h
                                  injection h with h; subst h; exact rf Tryz.func216 none [.t, .t, .t, .t, .t, .t, .t, .t, .t, .t, .t, .t, .t, .b r16, .t, .b r19, .t, .b r22, .t, .b r25] (pc h3<|pc h4<|pc h5<|pc h6<|pc h7<|pc h8<|pc h9<|pc h10<|pc h11<|pc h12<|pc h13<|pc h14<|pc h15<|pc (k_palingref03_Ints h17)<|pc h18<|pc (k_palingref03_Ints h20)<|pc h21<|pc (k_palingref03_Ints h23)<|pc h24<|pc (k_palingref03_Addrs h26)<|pn)
                                · injection h with h; subst h; exact rf Tryz.func216 none [.t, .t, .t, .t, .t, .t, .t, .t, .t, .t, .t, .t, .t, .b r16, .t, .b r19, .t, .b r22, .f] (pc h3<|pc h4<|pc h5<|pc h6<|pc h7<|pc h8<|pc h9<|pc h10<|pc h11<|pc h12<|pc h13<|pc h14<|pc h15<|pc (k_palingref03_Ints h17)<|pc h18<|pc (k_palingref03_Ints h20)<|pc h21<|pc (k_palingref03_Ints h23)<|pc h24<|pn)
                              · injection h with h; subst h; exact rf Tryz.func216 none [.t, .t, .t, .t, .t, .t, .t, .t, .t, .t, .t, .t, .t, .b r16, .t, .b r19, .f] (pc h3<|pc h4<|pc h5<|pc h6<|pc h7<|pc h8<|pc h9<|pc h10<|pc h11<|pc h12<|pc h13<|pc h14<|pc h15<|pc (k_palingref03_Ints h17)<|pc h18<|pc (k_palingref03_Ints h20)<|pc h21<|pn)
                            · injection h with h; subst h; exact rf Tryz.func216 none [.t, .t, .t, .t, .t, .t, .t, .t, .t, .t, .t, .t, .t, .b r16, .f] (pc h3<|pc h4<|pc h5<|pc h6<|pc h7<|pc h8<|pc h9<|pc h10<|pc h11<|pc h12<|pc h13<|pc h14<|pc h15<|pc (k_palingref03_Ints h17)<|pc h18<|pn)
                          · injection h with h; subst h; exact rf Tryz.func216 none [.t, .t, .t, .t, .t, .t, .t, .t, .t, .t, .t, .t, .f] (pc h3<|pc h4<|pc h5<|pc h6<|pc h7<|pc h8<|pc h9<|pc h10<|pc h11<|pc h12<|pc h13<|pc h14<|pc h15<|pn)
                        · injection h with h; subst h; exact rf Tryz.func216 none [.t, .t, .t, .t, .t, .t, .t, .t, .t, .t, .t, .f] (pc h3<|pc h4<|pc h5<|pc h6<|pc h7<|pc h8<|pc h9<|pc h10<|pc h11<|pc h12<|pc h13<|pc h14<|pn)
                      · injection h with h; subst h; exact rf Tryz.func216 none [.t, .t, .t, .t, .t, .t, .t, .t, .t, .t, .f] (pc h3<|pc h4<|pc h5<|pc h6<|pc h7<|pc h8<|pc h9<|pc h10<|pc h11<|pc h12<|pc h13<|pn)
                    · injection h with h; subst h; exact rf Tryz.func216 none [.t, .t, .t, .t, .t, .t, .t, .t, .t, .f] (pc h3<|pc h4<|pc h5<|pc h6<|pc h7<|pc h8<|pc h9<|pc h10<|pc h11<|pc h12<|pn)
                  · injection h with h; subst h; exact rf Tryz.func216 none [.t, .t, .t, .t, .t, .t, .t, .t, .f] (pc h3<|pc h4<|pc h5<|pc h6<|pc h7<|pc h8<|pc h9<|pc h10<|pc h11<|pn)
                · injection h with h; subst h; exact rf Tryz.func216 none [.t, .t, .t, .t, .t, .t, .t, .f] (pc h3<|pc h4<|pc h5<|pc h6<|pc h7<|pc h8<|pc h9<|pc h10<|pn)
              · injection h with h; subst h; exact rf Tryz.func216 none [.t, .t, .t, .t, .t, .t, .f] (pc h3<|pc h4<|pc h5<|pc h6<|pc h7<|pc h8<|pc h9<|pn)
            · injection h with h; subst h; exact rf Tryz.func216 none [.t, .t, .t, .t, .t, .f] (pc h3<|pc h4<|pc h5<|pc h6<|pc h7<|pc h8<|pn)
          · injection h with h; subst h; exact rf Tryz.func216 none [.t, .t, .t, .t, .f] (pc h3<|pc h4<|pc h5<|pc h6<|pc h7<|pn)
        · injection h with h; subst h; exact rf Tryz.func216 none [.t, .t, .t, .f] (pc h3<|pc h4<|pc h5<|pc h6<|pn)
      · injection h with h; subst h; exact rf Tryz.func216 none [.t, .t, .f] (pc h3<|pc h4<|pc h5<|pn)
    · injection h with h; subst h; exact rf Tryz.func216 none [.t, .f] (pc h3<|pc h4<|pn)
  · injection h with h; subst h; exact rf Tryz.func216 none [.f] (pc h3<|pn)

theorem k_palingref11_Right {a1 : Api_Line} {r : Bool} (h : palingref11_Right a1 = some r) :
    CallsOK Tryz.prog UU 153 [.agg (c37 a1)] [] (.v (.bool r)) [] := by
  unfold palingref11_Right at h
  obtain ⟨h2, h⟩|⟨h2, h⟩ := ite_out h
  · injection h with h; subst h; exact rf Tryz.func153 none [.t] (pc h2<|pn)
  · obtain ⟨h3, h⟩|⟨h3, h⟩ := ite_out h
    · injection h with h; subst h; exact rf Tryz.func153 none [.f, .t] (pc h2<|pc h3<|pn)
    · obtain ⟨h4, h⟩|⟨h4, h⟩ := ite_out h
      · injection h with h; subst h; exact rf Tryz.func153 none [.f, .f, .t] (pc h2<|pc h3<|pc h4<|pn)
      · obtain ⟨h5, h⟩|⟨h5, h⟩ := ite_out h
        · injection h with h; subst h; exact rf Tryz.func153 none [.f, .f, .f, .t] (pc h2<|pc h3<|pc h4<|pc h5<|pn)
        · obtain ⟨l8, h7, h⟩ := bo h
          obtain ⟨r9, h10, h⟩ := bo h
          obtain ⟨l11, l12, l13, l14, v15, v16, v17, v18, v19, v20, v21, v22, v23, v24, v25, v26, v27, v28⟩ := r9
          obtain ⟨h29, h⟩|⟨h29, h⟩ := ite_out h
          · obtain ⟨r30, h31, h⟩ := bo h
            injection h with h; subst h; exact rf Tryz.func153 none [.f, .f, .f, .f, .sum [1] [] .nor [] [.box 37 (c37 a1) false, .arr 9 l8 l8.length false], .sum [4] [] .nor [] [.box 37 (c37 a1) false, .arr 9 l8 l8.length false, .arr 3 l11 l11.length false, .arr 3 l12 l12.length false, .arr 3 l13 l13.length false, .arr 33 l14 l14.length false], .callo (.os 0 l8.length) [.arr 9 l8 l8.length false], .callo (.tup [.agg [.j v15, .j v16, .v (.string v17), .v (.string v18), .v (.string v19), .v (.string v20), .v (.string v21), .v (.int .u64 v22), .v (.int .u32 v23), .j v24, .j v25, .j v26, .j v27, .os 0 l11.length, .os 1 l12.length, .os 2 l13.length, .os 3 l14.length], .j v28]) [.arr 3 l11 l11.length false, .arr 3 l12 l12.length false, .arr 3 l13 l13.length false, .arr 33 l14 l14.length false], .t, .b r30] (pc h2<|pc h3<|pc h4<|pc h5<|pc ((rfl : ([.box 37 (c37 a1) false, .arr 9 l8 l8.length false] : Heap DD) = [.box 37 (c37 a1) false, .arr 9 l8 l8.length false]))<|pc (k_palingref11_Words h7)<|pc (im9 l8)<|pc ((rfl : (.op 0 1 0 0 : AV DD) = .op 0 1 0 0))<|pc ((rfl : (.v (.int .i64 a1.row) : AV DD) = .v (.int .i64 a1.row)))<|pc ((rfl : ([.box 37 (c37 a1) false, .arr 9 l8 l8.length false, .arr 3 l11 l11.length false, .arr 3 l12 l12.length false, .arr 3 l13 l13.length false, .arr 33 l14 l14.length false] : Heap DD) = [.box 37 (c37 a1) false, .arr 9 l8 l8.length false, .arr 3 l11 l11.length false, .arr 3 l12 l12.length false, .arr 3 l13 l13.length false, .arr 33 l14 l14.length false]))<|pc (k_palingref11_Read h10)<|pc (im3 l11)<|pc (im3 l12)<|pc (im3 l13)<|pc (im33 l14)<|pc (rn l8.length)<|pc h29<|pc (k_palingref11_Same h31)<|pc (rn l11.length)<|pc (rn l12.length)<|pc (rn l13.length)<|pc (rn l14.length)<|pn)
          · injection h with h; subst h; exact rf Tryz.func153 none [.f, .f, .f, .f, .sum [1] [] .nor [] [.box 37 (c37 a1) false, .arr 9 l8 l8.length false], .sum [4] [] .nor [] [.box 37 (c37 a1) false, .arr 9 l8 l8.length false, .arr 3 l11 l11.length false, .arr 3 l12 l12.length false, .arr 3 l13 l13.length false, .arr 33 l14 l14.length false], .callo (.os 0 l8.length) [.arr 9 l8 l8.length false], .callo (.tup [.agg [.j v15, .j v16, .v (.string v17), .v (.string v18), .v (.string v19), .v (.string v20), .v (.string v21), .v (.int .u64 v22), .v (.int .u32 v23), .j v24, .j v25, .j v26, .j v27, .os 0 l11.length, .os 1 l12.length, .os 2 l13.length, .os 3 l14.length], .j v28]) [.arr 3 l11 l11.length false, .arr 3 l12 l12.length false, .arr 3 l13 l13.length false, .arr 33 l14 l14.length false], .f] (pc h2<|pc h3<|pc h4<|pc h5<|pc ((rfl : ([.box 37 (c37 a1) false, .arr 9 l8 l8.length false] : Heap DD) = [.box 37 (c37 a1) false, .arr 9 l8 l8.length false]))<|pc (k_palingref11_Words h7)<|pc (im9 l8)<|pc ((rfl : (.op 0 1 0 0 : AV DD) = .op 0 1 0 0))<|pc ((rfl : (.v (.int .i64 a1.row) : AV DD) = .v (.int .i64 a1.row)))<|pc ((rfl : ([.box 37 (c37 a1) false, .arr 9 l8 l8.length false, .arr 3 l11 l11.length false, .arr 3 l12 l12.length false, .arr 3 l13 l13.length false, .arr 33 l14 l14.length false] : Heap DD) = [.box 37 (c37 a1) false, .arr 9 l8 l8.length false, .arr 3 l11 l11.length false, .arr 3 l12 l12.length false, .arr 3 l13 l13.length false, .arr 33 l14 l14.length false]))<|pc (k_palingref11_Read h10)<|pc (im3 l11)<|pc (im3 l12)<|pc (im3 l13)<|pc (im33 l14)<|pc (rn l8.length)<|pc h29<|pn)

theorem k_palingref15_Place {a1 : Int} {a2 : Int} {r : Bool} (h : palingref15_Place a1 a2 = some r) :
    CallsOK Tryz.prog UU 67 [.j a1, .j a2] [] (.v (.bool r)) [] := by
  unfold palingref15_Place at h
  obtain ⟨h3, h⟩|⟨h3, h⟩ := ite_out h
  · injection h with h; subst h; exact rf Tryz.func67 none [.t] (pc h3<|pn)
  · injection h with h; subst h; exact rf Tryz.func67 none [.f] (pc h3<|pn)

theorem k_palingref15_At_L1 {a1 : Api_Net} {a2 : Int} {a3 : Int} : LoopOK Tryz.prog UU 0 34 (subC (codeOf Tryz.f53) [1, 0, 1, 0, 0]) (ρ := Int ⊕ Unit) (palingref15_At_L1 a1 a2 a3)
    (fun v4 : Int => ([(1, .j a2), (2, .j a3), (3, .op 0 1 0 0), (6, .z), (7, .j v4)] : Fr DD)) (fun v4 : Int => ([.box 31 (c31 a1) false] : Heap DD)) (fun r => match r with | Sum.inl v13 => .ret | Sum.inr _ => .exit 0) (fun r => match r with | Sum.inl v13 => [(6, .j v13)] | Sum.inr _ => [(6, .z)]) (fun r => match r with | Sum.inl v13 => [] | Sum.inr _ => []) := by
  refine loop_sound3 (fun s q h => ?_) (fun r => ?_)
  · replace h : palingref15_At_L1 a1 a2 a3 s = some q := h; revert h; revert s; intro v4 h
    unfold palingref15_At_L1 at h
    obtain ⟨h5, h⟩|⟨h5, h⟩ := ite_out h
    · obtain ⟨x6, h7, h⟩ := bo h
      obtain ⟨h8, h⟩|⟨h8, h⟩ := ite_out h
      · obtain ⟨x9, h10, h⟩ := bo h
        obtain ⟨h11, h⟩|⟨h11, h⟩ := ite_out h
        · injection h with h; subst h; exact rl [6] [] [.t, .row (c93 x6), .t, .row (c93 x9), .t] (pc h5<|pc (ob93 h7)<|pc h8<|pc (ob93 h10)<|pc h11<|pn)
        · injection h with h; subst h; exact rl [1, 2, 3, 6, 7] [0] [.t, .row (c93 x6), .t, .row (c93 x9), .f] (pc h5<|pc (ob93 h7)<|pc h8<|pc (ob93 h10)<|pc h11<|pn)
      · injection h with h; subst h; exact rl [1, 2, 3, 6, 7] [0] [.t, .row (c93 x6), .f] (pc h5<|pc (ob93 h7)<|pc h8<|pn)
    · injection h with h; subst h; exact rl [6] [] [.f] (pc h5<|pn)
  · rcases r with _ | _ <;> exact Ex.noConfusion

theorem k_palingref15_At {a1 : Api_Net} {a2 : Int} {a3 : Int} {r : Int} (h : palingref15_At a1 a2 a3 = some r) :
    CallsOK Tryz.prog UU 53 [.agg (c31 a1), .j a2, .j a3] [] (.j r) [] := by
  unfold palingref15_At at h
  obtain ⟨r15, h14, h⟩ := bo h
  rcases r15 with v13 | _
  · injection h with h; subst h; exact rf Tryz.func53 none [.sum [1, 2, 3, 6, 7] [0] .ret [(6, .j v13)] []] (pc (k_palingref15_At_L1 _ _ h14)<|pn)
  · injection h with h; subst h; exact rf Tryz.func53 none [.sum [1, 2, 3, 6, 7] [0] (.exit 0) [(6, .z)] []] (pc (k_palingref15_At_L1 _ _ h14)<|pn)

theorem k_palingref15_In_L1 {a1 : List Int} {a2 : Int} : LoopOK Tryz.prog UU 0 18 (subC (codeOf Tryz.f154) [1, 0, 1, 0, 0]) (ρ := Unit ⊕ Unit) (palingref15_In_L1 a1 a2)
    (fun v3 : Int => ([(0, .sl 3 a1), (1, .j a2), (4, .v (.bool false)), (5, .j v3)] : Fr DD)) (fun v3 : Int => ([] : Heap DD)) (fun r => match r with | Sum.inl _ => .ret | Sum.inr _ => .exit 0) (fun r => match r with | Sum.inl _ => [(4, .v (.bool true))] | Sum.inr _ => [(4, .v (.bool false))]) (fun r => match r with | Sum.inl _ => [] | Sum.inr _ => []) := by
  refine loop_sound3 (fun s q h => ?_) (fun r => ?_)
  · replace h : palingref15_In_L1 a1 a2 s = some q := h; revert h; revert s; intro v3 h
    unfold palingref15_In_L1 at h
    obtain ⟨h4, h⟩|⟨h4, h⟩ := ite_out h
    · obtain ⟨x5, h6, h⟩ := bo h
      obtain ⟨h7, h⟩|⟨h7, h⟩ := ite_out h
      · injection h with h; subst h; exact rl [4] [] [.t, .row (c3 x5), .t] (pc h4<|pc (ob3 h6)<|pc h7<|pn)
      · injection h with h; subst h; exact rl [0, 1, 4, 5] [] [.t, .row (c3 x5), .f] (pc h4<|pc (ob3 h6)<|pc h7<|pn)
    · injection h with h; subst h; exact rl [4] [] [.f] (pc h4<|pn)
  · rcases r with _ | _ <;> exact Ex.noConfusion

theorem k_palingref15_In {a1 : List Int} {a2 : Int} {r : Bool} (h : palingref15_In a1 a2 = some r) :
    CallsOK Tryz.prog UU 154 [.sl 3 a1, .j a2] [] (.v (.bool r)) [] := by
  unfold palingref15_In at h
  obtain ⟨r9, h8, h⟩ := bo h
  rcases r9 with _ | _
  · injection h with h; subst h; exact rf Tryz.func154 none [.sum [0, 1, 4, 5] [] .ret [(4, .v (.bool true))] []] (pc (k_palingref15_In_L1 _ _ h8)<|pn)
  · injection h with h; subst h; exact rf Tryz.func154 none [.sum [0, 1, 4, 5] [] (.exit 0) [(4, .v (.bool false))] []] (pc (k_palingref15_In_L1 _ _ h8)<|pn)

theorem k_palingref15_peer {a1 : Api_Net} {a2 : Int} {a3 : Int} {r : Bool} (h : palingref15_peer a1 a2 a3 = some r) :
    CallsOK Tryz.prog UU 158 [.agg (c31 a1), .j a2, .j a3] [] (.v (.bool r)) [] := by
  unfold palingref15_peer at h
  obtain ⟨r4, h5, h⟩ := bo h
  obtain ⟨h6, h⟩|⟨h6, h⟩ := ite_out h
  · injection h with h; subst h; exact rf Tryz.func158 none [.b r4, .t] (pc (k_palingref15_Place h5)<|pc h6<|pn)
  · obtain ⟨h7, h⟩|⟨h7, h⟩ := ite_out h
    · injection h with h; subst h; exact rf Tryz.func158 none [.b r4, .f, .t] (pc (k_palingref15_Place h5)<|pc h6<|pc h7<|pn)
    · obtain ⟨x8, h9, h⟩ := bo h
      obtain ⟨x10, h11, h⟩ := bo h
      obtain ⟨h12, h⟩|⟨h12, h⟩ := ite_out h
      · obtain ⟨h13, h⟩|⟨h13, h⟩ := ite_out h
        · obtain ⟨h14, h⟩|⟨h14, h⟩ := ite_out h
          · obtain ⟨x15, h16, h⟩ := bo h
            obtain ⟨h17, h⟩|⟨h17, h⟩ := ite_out h
            · obtain ⟨x18, h19, h⟩ := bo h
              obtain ⟨h20, h⟩|⟨h20, h⟩ := ite_out h
              · obtain ⟨r21, h22, h⟩ := bo h
                injection h with h; subst h; exact rf Tryz.func158 none [.b r4, .f, .f, .row (c93 x8), .row (c93 x10), .t, .t, .t, .row (c91 x15), .t, .row (c91 x18), .t, .b r21] (pc (k_palingref15_Place h5)<|pc h6<|pc h7<|pc (ob93 h9)<|pc (ob93 h11)<|pc h12<|pc h13<|pc h14<|pc (ob91 h16)<|pc h17<|pc (ob91 h19)<|pc h20<|pc (k_palingref15_In h22)<|pn)
              · injection h with h; subst h; exact rf Tryz.func158 none [.b r4, .f, .f, .row (c93 x8), .row (c93 x10), .t, .t, .t, .row (c91 x15), .t, .row (c91 x18), .f] (pc (k_palingref15_Place h5)<|pc h6<|pc h7<|pc (ob93 h9)<|pc (ob93 h11)<|pc h12<|pc h13<|pc h14<|pc (ob91 h16)<|pc h17<|pc (ob91 h19)<|pc h20<|pn)
            · injection h with h; subst h; exact rf Tryz.func158 none [.b r4, .f, .f, .row (c93 x8), .row (c93 x10), .t, .t, .t, .row (c91 x15), .f] (pc (k_palingref15_Place h5)<|pc h6<|pc h7<|pc (ob93 h9)<|pc (ob93 h11)<|pc h12<|pc h13<|pc h14<|pc (ob91 h16)<|pc h17<|pn)
          · injection h with h; subst h; exact rf Tryz.func158 none [.b r4, .f, .f, .row (c93 x8), .row (c93 x10), .t, .t, .f] (pc (k_palingref15_Place h5)<|pc h6<|pc h7<|pc (ob93 h9)<|pc (ob93 h11)<|pc h12<|pc h13<|pc h14<|pn)
        · injection h with h; subst h; exact rf Tryz.func158 none [.b r4, .f, .f, .row (c93 x8), .row (c93 x10), .t, .f] (pc (k_palingref15_Place h5)<|pc h6<|pc h7<|pc (ob93 h9)<|pc (ob93 h11)<|pc h12<|pc h13<|pn)
      · injection h with h; subst h; exact rf Tryz.func158 none [.b r4, .f, .f, .row (c93 x8), .row (c93 x10), .f] (pc (k_palingref15_Place h5)<|pc h6<|pc h7<|pc (ob93 h9)<|pc (ob93 h11)<|pc h12<|pn)

theorem k_palingref15_domains_L1 {a1 : Api_Net} : LoopOK Tryz.prog UU 0 120 (subC (codeOf Tryz.f62) [1, 0, 1, 0, 0]) (ρ := Unit ⊕ Unit) (palingref15_domains_L1 a1)
    (fun v2 : Int => ([(1, .op 0 1 0 0), (2, .v (.bool false)), (3, .j v2)] : Fr DD)) (fun v2 : Int => ([.box 31 (c31 a1) false] : Heap DD)) (fun r => match r with | Sum.inl _ => .ret | Sum.inr _ => .exit 0) (fun r => match r with | Sum.inl _ => [(2, .v (.bool false))] | Sum.inr _ => [(1, .op 0 1 0 0), (2, .v (.bool false))]) (fun r => match r with | Sum.inl _ => [] | Sum.inr _ => [.box 31 (c31 a1) false]) := by
  refine loop_sound3 (fun s q h => ?_) (fun r => ?_)
  · replace h : palingref15_domains_L1 a1 s = some q := h; revert h; revert s; intro v2 h
    unfold palingref15_domains_L1 at h
    obtain ⟨h3, h⟩|⟨h3, h⟩ := ite_out h
    · obtain ⟨x4, h5, h⟩ := bo h
      obtain ⟨r6, h7, h⟩ := bo h
      obtain ⟨h8, h⟩|⟨h8, h⟩ := ite_out h
      · injection h with h; subst h; exact rl [2] [] [.t, .row (c93 x4), .b r6, .t] (pc h3<|pc (ob93 h5)<|pc (k_palingref15_Place h7)<|pc h8<|pn)
      · obtain ⟨h9, h⟩|⟨h9, h⟩ := ite_out h
        · injection h with h; subst h; exact rl [2] [] [.t, .row (c93 x4), .b r6, .f, .t] (pc h3<|pc (ob93 h5)<|pc (k_palingref15_Place h7)<|pc h8<|pc h9<|pn)
        · obtain ⟨h10, h⟩|⟨h10, h⟩ := ite_out h
          · injection h with h; subst h; exact rl [2] [] [.t, .row (c93 x4), .b r6, .f, .f, .t] (pc h3<|pc (ob93 h5)<|pc (k_palingref15_Place h7)<|pc h8<|pc h9<|pc h10<|pn)
          · obtain ⟨h11, h⟩|⟨h11, h⟩ := ite_out h
            · injection h with h; subst h; exact rl [2] [] [.t, .row (c93 x4), .b r6, .f, .f, .f, .t] (pc h3<|pc (ob93 h5)<|pc (k_palingref15_Place h7)<|pc h8<|pc h9<|pc h10<|pc h11<|pn)
            · obtain ⟨h12, h⟩|⟨h12, h⟩ := ite_out h
              · injection h with h; subst h; exact rl [2] [] [.t, .row (c93 x4), .b r6, .f, .f, .f, .f, .t] (pc h3<|pc (ob93 h5)<|pc (k_palingref15_Place h7)<|pc h8<|pc h9<|pc h10<|pc h11<|pc h12<|pn)
              · obtain ⟨r13, h14, h⟩ := bo h
                obtain ⟨h15, h⟩|⟨h15, h⟩ := ite_out h
                · injection h with h; subst h; exact rl [2] [] [.t, .row (c93 x4), .b r6, .f, .f, .f, .f, .f, .callv (.j r13), .t] (pc h3<|pc (ob93 h5)<|pc (k_palingref15_Place h7)<|pc h8<|pc h9<|pc h10<|pc h11<|pc h12<|pc (k_palingref15_At h14)<|pc h15<|pn)
                · obtain ⟨h16, h⟩|⟨h16, h⟩ := ite_out h
                  · obtain ⟨r17, h18, h⟩ := bo h
                    obtain ⟨h19, h⟩|⟨h19, h⟩ := ite_out h
                    · injection h with h; subst h; exact rl [2] [] [.t, .row (c93 x4), .b r6, .f, .f, .f, .f, .f, .callv (.j r13), .f, .t, .b r17, .t] (pc h3<|pc (ob93 h5)<|pc (k_palingref15_Place h7)<|pc h8<|pc h9<|pc h10<|pc h11<|pc h12<|pc (k_palingref15_At h14)<|pc h15<|pc h16<|pc (k_palingref15_Place h18)<|pc h19<|pn)
                    · obtain ⟨x20, h21, h⟩ := bo h
                      obtain ⟨h22, h⟩|⟨h22, h⟩ := ite_out h
                      · injection h with h; subst h; exact rl [2] [] [.t, .row (c93 x4), .b r6, .f, .f, .f, .f, .f, .callv (.j r13), .f, .t, .b r17, .f, .row (c118 x20), .t] (pc h3<|pc (ob93 h5)<|pc (k_palingref15_Place h7)<|pc h8<|pc h9<|pc h10<|pc h11<|pc h12<|pc (k_palingref15_At h14)<|pc h15<|pc h16<|pc (k_palingref15_Place h18)<|pc h19<|pc (ob118 h21)<|pc h22<|pn)
                      · injection h with h; subst h; exact rl [1, 2, 3] [0] [.t, .row (c93 x4), .b r6, .f, .f, .f, .f, .f, .callv (.j r13), .f, .t, .b r17, .f, .row (c118 x20), .f] (pc h3<|pc (ob93 h5)<|pc (k_palingref15_Place h7)<|pc h8<|pc h9<|pc h10<|pc h11<|pc h12<|pc (k_palingref15_At h14)<|pc h15<|pc h16<|pc (k_palingref15_Place h18)<|pc h19<|pc (ob118 h21)<|pc h22<|pn)
                  · injection h with h; subst h; exact rl [1, 2, 3] [0] [.t, .row (c93 x4), .b r6, .f, .f, .f, .f, .f, .callv (.j r13), .f, .f] (pc h3<|pc (ob93 h5)<|pc (k_palingref15_Place h7)<|pc h8<|pc h9<|pc h10<|pc h11<|pc h12<|pc (k_palingref15_At h14)<|pc h15<|pc h16<|pn)
    · injection h with h; subst h; exact rl [1, 2] [0] [.f] (pc h3<|pn)
  · rcases r with _ | _ <;> exact Ex.noConfusion

theorem k_palingref15_domains_L3 {a1 : Api_Net} {v25 : Int} {x27 : Api_Domain} : LoopOK Tryz.prog UU 0 120 (subC (codeOf Tryz.f62) [1, 1, 0, 1, 0, 0, 1, 0, 0, 1, 1, 0, 0]) (ρ := Unit ⊕ Unit) (palingref15_domains_L3 a1 v25 x27)
    (fun v29 : Int => ([(1, .op 0 1 0 0), (2, .v (.bool false)), (5, .j v25), (6, .op 1 1 0 0), (7, .j v29)] : Fr DD)) (fun v29 : Int => ([.box 31 (c31 a1) false, .box 93 (c93 x27) false] : Heap DD)) (fun r => match r with | Sum.inl _ => .ret | Sum.inr _ => .exit 4) (fun r => match r with | Sum.inl _ => [(2, .v (.bool false))] | Sum.inr _ => [(1, .op 0 1 0 0), (2, .v (.bool false)), (5, .j v25)]) (fun r => match r with | Sum.inl _ => [] | Sum.inr _ => [.box 31 (c31 a1) false]) := by
  refine loop_sound3 (fun s q h => ?_) (fun r => ?_)
  · replace h : palingref15_domains_L3 a1 v25 x27 s = some q := h; revert h; revert s; intro v29 h
    unfold palingref15_domains_L3 at h
    obtain ⟨h30, h⟩|⟨h30, h⟩ := ite_out h
    · obtain ⟨x31, h32, h⟩ := bo h
      obtain ⟨r33, h34, h⟩ := bo h
      obtain ⟨h35, h⟩|⟨h35, h⟩ := ite_out h
      · injection h with h; subst h; exact rl [2] [] [.t, .row (c3 x31), .b r33, .t] (pc h30<|pc (ob3 h32)<|pc (k_palingref15_peer h34)<|pc h35<|pn)
      · obtain ⟨h36, h⟩|⟨h36, h⟩ := ite_out h
        · obtain ⟨x37, h38, h⟩ := bo h
          obtain ⟨r39, h40, h⟩ := bo h
          obtain ⟨h41, h⟩|⟨h41, h⟩ := ite_out h
          · injection h with h; subst h; exact rl [2] [] [.t, .row (c3 x31), .b r33, .f, .row (c3 x37), .b r39, .t] (pc h30<|pc (ob3 h32)<|pc (k_palingref15_peer h34)<|pc h35<|pc (sl_ob h36)<|pc (ob3 h38)<|pc (k_palingref15_In h40)<|pc h41<|pn)
          · injection h with h; subst h; exact rl [1, 2, 5, 6, 7] [0, 1] [.t, .row (c3 x31), .b r33, .f, .row (c3 x37), .b r39, .f] (pc h30<|pc (ob3 h32)<|pc (k_palingref15_peer h34)<|pc h35<|pc (sl_ob h36)<|pc (ob3 h38)<|pc (k_palingref15_In h40)<|pc h41<|pn)
        · cases h
    · injection h with h; subst h; exact rl [1, 2, 5] [0] [.f] (pc h30<|pn)
  · rcases r with _ | _ <;> exact Ex.noConfusion

theorem k_palingref15_domains_L2 {a1 : Api_Net} : LoopOK Tryz.prog UU 0 120 (subC (codeOf Tryz.f62) [1, 1, 0, 1, 0, 0]) (ρ := Unit ⊕ Unit) (palingref15_domains_L2 a1)
    (fun v25 : Int => ([(1, .op 0 1 0 0), (2, .v (.bool false)), (5, .j v25)] : Fr DD)) (fun v25 : Int => ([.box 31 (c31 a1) false] : Heap DD)) (fun r => match r with | Sum.inl _ => .ret | Sum.inr _ => .exit 2) (fun r => match r with | Sum.inl _ => [(2, .v (.bool false))] | Sum.inr _ => [(2, .v (.bool false))]) (fun r => match r with | Sum.inl _ => [] | Sum.inr _ => []) := by
  refine loop_sound3 (fun s q h => ?_) (fun r => ?_)
  · replace h : palingref15_domains_L2 a1 s = some q := h; revert h; revert s; intro v25 h
    unfold palingref15_domains_L2 at h
    obtain ⟨h26, h⟩|⟨h26, h⟩ := ite_out h
    · obtain ⟨x27, h28, h⟩ := bo h
      obtain ⟨r43, h42, h⟩ := bo h
      rcases r43 with _ | _
      · injection h with h; subst h; exact rl [2] [] [.t, .row (c93 x27), .sum [1, 2, 5, 6, 7] [0, 2] .ret [(2, .v (.bool false))] []] (pc h26<|pc (ob93 h28)<|pc (k_palingref15_domains_L3 _ _ h42)<|pn)
      · injection h with h; subst h; exact rl [1, 2, 5] [0] [.t, .row (c93 x27), .sum [1, 2, 5, 6, 7] [0, 2] (.exit 4) [(1, .op 0 1 0 0), (2, .v (.bool false)), (5, .j v25)] [.box 31 (c31 a1) false]] (pc h26<|pc (ob93 h28)<|pc (k_palingref15_domains_L3 _ _ h42)<|pn)
    · injection h with h; subst h; exact rl [2] [] [.f] (pc h26<|pn)
  · rcases r with _ | _ <;> exact Ex.noConfusion

theorem k_palingref15_domains {a1 : Api_Net} {r : Bool} (h : palingref15_domains a1 = some r) :
    CallsOK Tryz.prog UU 62 [.agg (c31 a1)] [] (.v (.bool r)) [] := by
  unfold palingref15_domains at h
  obtain ⟨r24, h23, h⟩ := bo h
  rcases r24 with _ | _
  · injection h with h; subst h; exact rf Tryz.func62 none [.sum [1, 2, 3] [0] .ret [(2, .v (.bool false))] []] (pc (k_palingref15_domains_L1 _ _ h23)<|pn)
  · obtain ⟨r45, h44, h⟩ := bo h
    rcases r45 with _ | _
    · injection h with h; subst h; exact rf Tryz.func62 none [.sum [1, 2, 3] [0] (.exit 0) [(1, .op 0 1 0 0), (2, .v (.bool false))] [.box 31 (c31 a1) false], .sum [1, 2, 5] [0] .ret [(2, .v (.bool false))] []] (pc (k_palingref15_domains_L1 _ _ h23)<|pc (k_palingref15_domains_L2 _ _ h44)<|pn)
    · injection h with h; subst h; exact rf Tryz.func62 none [.sum [1, 2, 3] [0] (.exit 0) [(1, .op 0 1 0 0), (2, .v (.bool false))] [.box 31 (c31 a1) false], .sum [1, 2, 5] [0] (.exit 2) [(2, .v (.bool false))] []] (pc (k_palingref15_domains_L1 _ _ h23)<|pc (k_palingref15_domains_L2 _ _ h44)<|pn)

theorem k_palingref15_rising {a1 : List Int} {a2 : Int} {r : Bool} (h : palingref15_rising a1 a2 = some r) :
    CallsOK Tryz.prog UU 159 [.sl 3 a1, .j a2] [] (.v (.bool r)) [] := by
  unfold palingref15_rising at h
  obtain ⟨h3, h⟩|⟨h3, h⟩ := ite_out h
  · injection h with h; subst h; exact rf Tryz.func159 none [.t] (pc h3<|pn)
  · obtain ⟨r4, h5, h⟩ := bo h
    injection h with h; subst h; exact rf Tryz.func159 none [.f, .b r4] (pc h3<|pc (k_palingref03_Rising h5)<|pn)

theorem k_palingref15_ports_J2 {a1 : Api_Net} {v2 : Int} {x4 : Api_Port} {r : Unit ⊕ Unit} (h : palingref15_ports_J2 a1 v2 x4 = some r) :
    ExecOK Tryz.prog UU 0 120 (subC (codeOf Tryz.f63) [1, 0, 1, 0, 0, 1, 0, 0, 1, 1, 0]) [(1, .op 0 1 0 0), (2, .v (.bool false)), (3, .j v2), (4, .op 1 1 0 0)] [.box 31 (c31 a1) false, .box 56 (c56 x4) false] ((fun r => match r with | Sum.inl _ => .ret | Sum.inr _ => .nor) r) ((fun r => match r with | Sum.inl _ => [(2, .v (.bool false))] | Sum.inr _ => [(1, .op 0 1 0 0), (2, .v (.bool false)), (3, .j v2), (4, .op 1 1 0 0)]) r) ((fun r => match r with | Sum.inl _ => [] | Sum.inr _ => [.box 31 (c31 a1) false, .box 56 (c56 x4) false]) r) := by
  unfold palingref15_ports_J2 at h
  obtain ⟨h17, h⟩|⟨h17, h⟩ := ite_out h
  · obtain ⟨h18, h⟩|⟨h18, h⟩ := ite_out h
    · injection h with h; subst h; exact rl [2] [] [.t, .t] (pc h17<|pc h18<|pn)
    · obtain ⟨h19, h⟩|⟨h19, h⟩ := ite_out h
      · obtain ⟨r20, h21, h⟩ := bo h
        obtain ⟨h22, h⟩|⟨h22, h⟩ := ite_out h
        · injection h with h; subst h; exact rl [2] [] [.t, .f, .t, .callv (.j r20), .t] (pc h17<|pc h18<|pc h19<|pc (k_palingref15_At h21)<|pc h22<|pn)
        · injection h with h; subst h; exact rl [1, 2, 3, 4] [0, 1] [.t, .f, .t, .callv (.j r20), .f] (pc h17<|pc h18<|pc h19<|pc (k_palingref15_At h21)<|pc h22<|pn)
      · injection h with h; subst h; exact rl [1, 2, 3, 4] [0, 1] [.t, .f, .f] (pc h17<|pc h18<|pc h19<|pn)
  · obtain ⟨h23, h⟩|⟨h23, h⟩ := ite_out h
    · obtain ⟨r24, h25, h⟩ := bo h
      obtain ⟨h26, h⟩|⟨h26, h⟩ := ite_out h
      · injection h with h; subst h; exact rl [2] [] [.f, .t, .callv (.j r24), .t] (pc h17<|pc h23<|pc (k_palingref15_At h25)<|pc h26<|pn)
      · injection h with h; subst h; exact rl [1, 2, 3, 4] [0, 1] [.f, .t, .callv (.j r24), .f] (pc h17<|pc h23<|pc (k_palingref15_At h25)<|pc h26<|pn)
    · injection h with h; subst h; exact rl [1, 2, 3, 4] [0, 1] [.f, .f] (pc h17<|pc h23<|pn)

theorem k_palingref15_ports_L3 {a1 : Api_Net} {v2 : Int} {x4 : Api_Port} : LoopOK Tryz.prog UU 0 120 (subC (codeOf Tryz.f63) [1, 0, 1, 0, 0, 1, 0, 0, 1, 1, 1, 0, 1, 0, 0]) (ρ := Unit ⊕ Unit) (palingref15_ports_L3 a1 v2 x4)
    (fun v29 : Int => ([(1, .op 0 1 0 0), (2, .v (.bool false)), (3, .j v2), (4, .op 1 1 0 0), (5, .j v29)] : Fr DD)) (fun v29 : Int => ([.box 31 (c31 a1) false, .box 56 (c56 x4) false] : Heap DD)) (fun r => match r with | Sum.inl _ => .ret | Sum.inr _ => .exit 2) (fun r => match r with | Sum.inl _ => [(2, .v (.bool false))] | Sum.inr _ => [(1, .op 0 1 0 0), (2, .v (.bool false)), (3, .j v2), (4, .op 1 1 0 0)]) (fun r => match r with | Sum.inl _ => [] | Sum.inr _ => [.box 31 (c31 a1) false, .box 56 (c56 x4) false]) := by
  refine loop_sound3 (fun s q h => ?_) (fun r => ?_)
  · replace h : palingref15_ports_L3 a1 v2 x4 s = some q := h; revert h; revert s; intro v29 h
    unfold palingref15_ports_L3 at h
    obtain ⟨h30, h⟩|⟨h30, h⟩ := ite_out h
    · obtain ⟨x31, h32, h⟩ := bo h
      obtain ⟨r33, h34, h⟩ := bo h
      obtain ⟨h35, h⟩|⟨h35, h⟩ := ite_out h
      · injection h with h; subst h; exact rl [2] [] [.t, .row (c3 x31), .callv (.j r33), .t] (pc h30<|pc (ob3 h32)<|pc (k_palingref15_At h34)<|pc h35<|pn)
      · injection h with h; subst h; exact rl [1, 2, 3, 4, 5] [0, 1] [.t, .row (c3 x31), .callv (.j r33), .f] (pc h30<|pc (ob3 h32)<|pc (k_palingref15_At h34)<|pc h35<|pn)
    · injection h with h; subst h; exact rl [1, 2, 3, 4] [0, 1] [.f] (pc h30<|pn)
  · rcases r with _ | _ <;> exact Ex.noConfusion

theorem k_palingref15_ports_L1 {a1 : Api_Net} : LoopOK Tryz.prog UU 0 120 (subC (codeOf Tryz.f63) [1, 0, 1, 0, 0]) (ρ := Unit ⊕ Unit) (palingref15_ports_L1 a1)
    (fun v2 : Int => ([(1, .op 0 1 0 0), (2, .v (.bool false)), (3, .j v2)] : Fr DD)) (fun v2 : Int => ([.box 31 (c31 a1) false] : Heap DD)) (fun r => match r with | Sum.inl _ => .ret | Sum.inr _ => .exit 0) (fun r => match r with | Sum.inl _ => [(2, .v (.bool false))] | Sum.inr _ => [(2, .v (.bool false))]) (fun r => match r with | Sum.inl _ => [] | Sum.inr _ => []) := by
  refine loop_sound3 (fun s q h => ?_) (fun r => ?_)
  · replace h : palingref15_ports_L1 a1 s = some q := h; revert h; revert s; intro v2 h
    unfold palingref15_ports_L1 at h
    obtain ⟨h3, h⟩|⟨h3, h⟩ := ite_out h
    · obtain ⟨x4, h5, h⟩ := bo h
      obtain ⟨r6, h7, h⟩ := bo h
      obtain ⟨h8, h⟩|⟨h8, h⟩ := ite_out h
      · injection h with h; subst h; exact rl [2] [] [.t, .row (c56 x4), .b r6, .t] (pc h3<|pc (ob56 h5)<|pc (k_palingref15_Place h7)<|pc h8<|pn)
      · obtain ⟨h9, h⟩|⟨h9, h⟩ := ite_out h
        · injection h with h; subst h; exact rl [2] [] [.t, .row (c56 x4), .b r6, .f, .t] (pc h3<|pc (ob56 h5)<|pc (k_palingref15_Place h7)<|pc h8<|pc h9<|pn)
        · obtain ⟨h10, h⟩|⟨h10, h⟩ := ite_out h
          · injection h with h; subst h; exact rl [2] [] [.t, .row (c56 x4), .b r6, .f, .f, .t] (pc h3<|pc (ob56 h5)<|pc (k_palingref15_Place h7)<|pc h8<|pc h9<|pc h10<|pn)
          · obtain ⟨r11, h12, h⟩ := bo h
            obtain ⟨h13, h⟩|⟨h13, h⟩ := ite_out h
            · injection h with h; subst h; exact rl [2] [] [.t, .row (c56 x4), .b r6, .f, .f, .f, .b r11, .t] (pc h3<|pc (ob56 h5)<|pc (k_palingref15_Place h7)<|pc h8<|pc h9<|pc h10<|pc (k_palingref15_rising h12)<|pc h13<|pn)
            · obtain ⟨r14, h15, h⟩ := bo h
              obtain ⟨h16, h⟩|⟨h16, h⟩ := ite_out h
              · injection h with h; subst h; exact rl [2] [] [.t, .row (c56 x4), .b r6, .f, .f, .f, .b r11, .f, .b r14, .t] (pc h3<|pc (ob56 h5)<|pc (k_palingref15_Place h7)<|pc h8<|pc h9<|pc h10<|pc (k_palingref15_rising h12)<|pc h13<|pc (k_palingref15_In h15)<|pc h16<|pn)
              · obtain ⟨r28, h27, h⟩ := bo h
                rcases r28 with _ | _
                · injection h with h; subst h; exact rl [2] [] [.t, .row (c56 x4), .b r6, .f, .f, .f, .b r11, .f, .b r14, .f, .cut [1, 2, 3, 4] [0, 2] .ret [(2, .v (.bool false))] []] (pc h3<|pc (ob56 h5)<|pc (k_palingref15_Place h7)<|pc h8<|pc h9<|pc h10<|pc (k_palingref15_rising h12)<|pc h13<|pc (k_palingref15_In h15)<|pc h16<|pc (k_palingref15_ports_J2 h27)<|pn)
                · obtain ⟨r37, h36, h⟩ := bo h
                  rcases r37 with _ | _
                  · injection h with h; subst h; exact rl [2] [] [.t, .row (c56 x4), .b r6, .f, .f, .f, .b r11, .f, .b r14, .f, .cut [1, 2, 3, 4] [0, 2] .nor [(1, .op 0 1 0 0), (2, .v (.bool false)), (3, .j v2), (4, .op 1 1 0 0)] [.box 31 (c31 a1) false, .box 56 (c56 x4) false], .sum [1, 2, 3, 4, 5] [0, 1] .ret [(2, .v (.bool false))] []] (pc h3<|pc (ob56 h5)<|pc (k_palingref15_Place h7)<|pc h8<|pc h9<|pc h10<|pc (k_palingref15_rising h12)<|pc h13<|pc (k_palingref15_In h15)<|pc h16<|pc (k_palingref15_ports_J2 h27)<|pc (k_palingref15_ports_L3 _ _ h36)<|pn)
                  · obtain ⟨h38, h⟩|⟨h38, h⟩ := ite_out h
                    · injection h with h; subst h; exact rl [1, 2, 3] [0] [.t, .row (c56 x4), .b r6, .f, .f, .f, .b r11, .f, .b r14, .f, .cut [1, 2, 3, 4] [0, 2] .nor [(1, .op 0 1 0 0), (2, .v (.bool false)), (3, .j v2), (4, .op 1 1 0 0)] [.box 31 (c31 a1) false, .box 56 (c56 x4) false], .sum [1, 2, 3, 4, 5] [0, 1] (.exit 2) [(1, .op 0 1 0 0), (2, .v (.bool false)), (3, .j v2), (4, .op 1 1 0 0)] [.box 31 (c31 a1) false, .box 56 (c56 x4) false], .t] (pc h3<|pc (ob56 h5)<|pc (k_palingref15_Place h7)<|pc h8<|pc h9<|pc h10<|pc (k_palingref15_rising h12)<|pc h13<|pc (k_palingref15_In h15)<|pc h16<|pc (k_palingref15_ports_J2 h27)<|pc (k_palingref15_ports_L3 _ _ h36)<|pc h38<|pn)
                    · obtain ⟨r39, h40, h⟩ := bo h
                      obtain ⟨h41, h⟩|⟨h41, h⟩ := ite_out h
                      · injection h with h; subst h; exact rl [2] [] [.t, .row (c56 x4), .b r6, .f, .f, .f, .b r11, .f, .b r14, .f, .cut [1, 2, 3, 4] [0, 2] .nor [(1, .op 0 1 0 0), (2, .v (.bool false)), (3, .j v2), (4, .op 1 1 0 0)] [.box 31 (c31 a1) false, .box 56 (c56 x4) false], .sum [1, 2, 3, 4, 5] [0, 1] (.exit 2) [(1, .op 0 1 0 0), (2, .v (.bool false)), (3, .j v2), (4, .op 1 1 0 0)] [.box 31 (c31 a1) false, .box 56 (c56 x4) false], .f, .b r39, .t] (pc h3<|pc (ob56 h5)<|pc (k_palingref15_Place h7)<|pc h8<|pc h9<|pc h10<|pc (k_palingref15_rising h12)<|pc h13<|pc (k_palingref15_In h15)<|pc h16<|pc (k_palingref15_ports_J2 h27)<|pc (k_palingref15_ports_L3 _ _ h36)<|pc h38<|pc (k_palingref15_Place h40)<|pc h41<|pn)
                      · obtain ⟨x42, h43, h⟩ := bo h
                        obtain ⟨h44, h⟩|⟨h44, h⟩ := ite_out h
                        · obtain ⟨x45, h46, h⟩ := bo h
                          obtain ⟨h47, h⟩|⟨h47, h⟩ := ite_out h
                          · injection h with h; subst h; exact rl [2] [] [.t, .row (c56 x4), .b r6, .f, .f, .f, .b r11, .f, .b r14, .f, .cut [1, 2, 3, 4] [0, 2] .nor [(1, .op 0 1 0 0), (2, .v (.bool false)), (3, .j v2), (4, .op 1 1 0 0)] [.box 31 (c31 a1) false, .box 56 (c56 x4) false], .sum [1, 2, 3, 4, 5] [0, 1] (.exit 2) [(1, .op 0 1 0 0), (2, .v (.bool false)), (3, .j v2), (4, .op 1 1 0 0)] [.box 31 (c31 a1) false, .box 56 (c56 x4) false], .f, .b r39, .f, .row (c112 x42), .t, .row (c112 x45), .t] (pc h3<|pc (ob56 h5)<|pc (k_palingref15_Place h7)<|pc h8<|pc h9<|pc h10<|pc (k_palingref15_rising h12)<|pc h13<|pc (k_palingref15_In h15)<|pc h16<|pc (k_palingref15_ports_J2 h27)<|pc (k_palingref15_ports_L3 _ _ h36)<|pc h38<|pc (k_palingref15_Place h40)<|pc h41<|pc (ob112 h43)<|pc h44<|pc (ob112 h46)<|pc h47<|pn)
                          · injection h with h; subst h; exact rl [1, 2, 3] [0] [.t, .row (c56 x4), .b r6, .f, .f, .f, .b r11, .f, .b r14, .f, .cut [1, 2, 3, 4] [0, 2] .nor [(1, .op 0 1 0 0), (2, .v (.bool false)), (3, .j v2), (4, .op 1 1 0 0)] [.box 31 (c31 a1) false, .box 56 (c56 x4) false], .sum [1, 2, 3, 4, 5] [0, 1] (.exit 2) [(1, .op 0 1 0 0), (2, .v (.bool false)), (3, .j v2), (4, .op 1 1 0 0)] [.box 31 (c31 a1) false, .box 56 (c56 x4) false], .f, .b r39, .f, .row (c112 x42), .t, .row (c112 x45), .f] (pc h3<|pc (ob56 h5)<|pc (k_palingref15_Place h7)<|pc h8<|pc h9<|pc h10<|pc (k_palingref15_rising h12)<|pc h13<|pc (k_palingref15_In h15)<|pc h16<|pc (k_palingref15_ports_J2 h27)<|pc (k_palingref15_ports_L3 _ _ h36)<|pc h38<|pc (k_palingref15_Place h40)<|pc h41<|pc (ob112 h43)<|pc h44<|pc (ob112 h46)<|pc h47<|pn)
                        · injection h with h; subst h; exact rl [1, 2, 3] [0] [.t, .row (c56 x4), .b r6, .f, .f, .f, .b r11, .f, .b r14, .f, .cut [1, 2, 3, 4] [0, 2] .nor [(1, .op 0 1 0 0), (2, .v (.bool false)), (3, .j v2), (4, .op 1 1 0 0)] [.box 31 (c31 a1) false, .box 56 (c56 x4) false], .sum [1, 2, 3, 4, 5] [0, 1] (.exit 2) [(1, .op 0 1 0 0), (2, .v (.bool false)), (3, .j v2), (4, .op 1 1 0 0)] [.box 31 (c31 a1) false, .box 56 (c56 x4) false], .f, .b r39, .f, .row (c112 x42), .f] (pc h3<|pc (ob56 h5)<|pc (k_palingref15_Place h7)<|pc h8<|pc h9<|pc h10<|pc (k_palingref15_rising h12)<|pc h13<|pc (k_palingref15_In h15)<|pc h16<|pc (k_palingref15_ports_J2 h27)<|pc (k_palingref15_ports_L3 _ _ h36)<|pc h38<|pc (k_palingref15_Place h40)<|pc h41<|pc (ob112 h43)<|pc h44<|pn)
    · injection h with h; subst h; exact rl [2] [] [.f] (pc h3<|pn)
  · rcases r with _ | _ <;> exact Ex.noConfusion

theorem k_palingref15_ports {a1 : Api_Net} {r : Bool} (h : palingref15_ports a1 = some r) :
    CallsOK Tryz.prog UU 63 [.agg (c31 a1)] [] (.v (.bool r)) [] := by
  unfold palingref15_ports at h
  obtain ⟨r49, h48, h⟩ := bo h
  rcases r49 with _ | _
  · injection h with h; subst h; exact rf Tryz.func63 none [.sum [1, 2, 3] [0] .ret [(2, .v (.bool false))] []] (pc (k_palingref15_ports_L1 _ _ h48)<|pn)
  · injection h with h; subst h; exact rf Tryz.func63 none [.sum [1, 2, 3] [0] (.exit 0) [(2, .v (.bool false))] []] (pc (k_palingref15_ports_L1 _ _ h48)<|pn)

theorem k_palingref15_links_L1 {a1 : Api_Net} : LoopOK Tryz.prog UU 0 70 (subC (codeOf Tryz.f64) [1, 0, 1, 0, 0]) (ρ := Unit ⊕ Unit) (palingref15_links_L1 a1)
    (fun v2 : Int => ([(1, .op 0 1 0 0), (2, .v (.bool false)), (3, .j v2)] : Fr DD)) (fun v2 : Int => ([.box 31 (c31 a1) false] : Heap DD)) (fun r => match r with | Sum.inl _ => .ret | Sum.inr _ => .exit 0) (fun r => match r with | Sum.inl _ => [(2, .v (.bool false))] | Sum.inr _ => [(2, .v (.bool false))]) (fun r => match r with | Sum.inl _ => [] | Sum.inr _ => []) := by
  refine loop_sound3 (fun s q h => ?_) (fun r => ?_)
  · replace h : palingref15_links_L1 a1 s = some q := h; revert h; revert s; intro v2 h
    unfold palingref15_links_L1 at h
    obtain ⟨h3, h⟩|⟨h3, h⟩ := ite_out h
    · obtain ⟨x4, h5, h⟩ := bo h
      obtain ⟨r6, h7, h⟩ := bo h
      obtain ⟨h8, h⟩|⟨h8, h⟩ := ite_out h
      · injection h with h; subst h; exact rl [2] [] [.t, .row (c112 x4), .b r6, .t] (pc h3<|pc (ob112 h5)<|pc (k_palingref15_Place h7)<|pc h8<|pn)
      · obtain ⟨r9, h10, h⟩ := bo h
        obtain ⟨h11, h⟩|⟨h11, h⟩ := ite_out h
        · injection h with h; subst h; exact rl [2] [] [.t, .row (c112 x4), .b r6, .f, .b r9, .t] (pc h3<|pc (ob112 h5)<|pc (k_palingref15_Place h7)<|pc h8<|pc (k_palingref15_Place h10)<|pc h11<|pn)
        · obtain ⟨x12, h13, h⟩ := bo h
          obtain ⟨x14, h15, h⟩ := bo h
          obtain ⟨h16, h⟩|⟨h16, h⟩ := ite_out h
          · injection h with h; subst h; exact rl [2] [] [.t, .row (c112 x4), .b r6, .f, .b r9, .f, .row (c56 x12), .row (c56 x14), .t] (pc h3<|pc (ob112 h5)<|pc (k_palingref15_Place h7)<|pc h8<|pc (k_palingref15_Place h10)<|pc h11<|pc (ob56 h13)<|pc (ob56 h15)<|pc h16<|pn)
          · obtain ⟨x17, h18, h⟩ := bo h
            obtain ⟨h19, h⟩|⟨h19, h⟩ := ite_out h
            · injection h with h; subst h; exact rl [2] [] [.t, .row (c112 x4), .b r6, .f, .b r9, .f, .row (c56 x12), .row (c56 x14), .f, .row (c56 x17), .t] (pc h3<|pc (ob112 h5)<|pc (k_palingref15_Place h7)<|pc h8<|pc (k_palingref15_Place h10)<|pc h11<|pc (ob56 h13)<|pc (ob56 h15)<|pc h16<|pc (ob56 h18)<|pc h19<|pn)
            · obtain ⟨x20, h21, h⟩ := bo h
              obtain ⟨h22, h⟩|⟨h22, h⟩ := ite_out h
              · injection h with h; subst h; exact rl [2] [] [.t, .row (c112 x4), .b r6, .f, .b r9, .f, .row (c56 x12), .row (c56 x14), .f, .row (c56 x17), .f, .row (c56 x20), .t] (pc h3<|pc (ob112 h5)<|pc (k_palingref15_Place h7)<|pc h8<|pc (k_palingref15_Place h10)<|pc h11<|pc (ob56 h13)<|pc (ob56 h15)<|pc h16<|pc (ob56 h18)<|pc h19<|pc (ob56 h21)<|pc h22<|pn)
              · injection h with h; subst h; exact rl [1, 2, 3] [0] [.t, .row (c112 x4), .b r6, .f, .b r9, .f, .row (c56 x12), .row (c56 x14), .f, .row (c56 x17), .f, .row (c56 x20), .f] (pc h3<|pc (ob112 h5)<|pc (k_palingref15_Place h7)<|pc h8<|pc (k_palingref15_Place h10)<|pc h11<|pc (ob56 h13)<|pc (ob56 h15)<|pc h16<|pc (ob56 h18)<|pc h19<|pc (ob56 h21)<|pc h22<|pn)
    · injection h with h; subst h; exact rl [2] [] [.f] (pc h3<|pn)
  · rcases r with _ | _ <;> exact Ex.noConfusion

theorem k_palingref15_links {a1 : Api_Net} {r : Bool} (h : palingref15_links a1 = some r) :
    CallsOK Tryz.prog UU 64 [.agg (c31 a1)] [] (.v (.bool r)) [] := by
  unfold palingref15_links at h
  obtain ⟨r24, h23, h⟩ := bo h
  rcases r24 with _ | _
  · injection h with h; subst h; exact rf Tryz.func64 none [.sum [1, 2, 3] [0] .ret [(2, .v (.bool false))] []] (pc (k_palingref15_links_L1 _ _ h23)<|pn)
  · injection h with h; subst h; exact rf Tryz.func64 none [.sum [1, 2, 3] [0] (.exit 0) [(2, .v (.bool false))] []] (pc (k_palingref15_links_L1 _ _ h23)<|pn)

theorem k_palingref15_Member {a1 : Api_Port} {a2 : Int} {r : Bool} (h : palingref15_Member a1 a2 = some r) :
    CallsOK Tryz.prog UU 54 [.agg (c56 a1), .j a2] [] (.v (.bool r)) [] := by
  unfold palingref15_Member at h
  obtain ⟨h3, h⟩|⟨h3, h⟩ := ite_out h
  · obtain ⟨h4, h⟩|⟨h4, h⟩ := ite_out h
    · injection h with h; subst h; exact rf Tryz.func54 none [.t, .t] (pc h3<|pc h4<|pn)
    · obtain ⟨r5, h6, h⟩ := bo h
      injection h with h; subst h; exact rf Tryz.func54 none [.t, .f, .b r5] (pc h3<|pc h4<|pc (k_palingref15_In h6)<|pn)
  · injection h with h; subst h; exact rf Tryz.func54 none [.f] (pc h3<|pn)

theorem k_palingref15_rest_L1 {a1 : Api_Net} : LoopOK Tryz.prog UU 0 192 (subC (codeOf Tryz.f65) [1, 0, 1, 0, 0]) (ρ := Unit ⊕ Unit) (palingref15_rest_L1 a1)
    (fun v2 : Int => ([(1, .op 0 1 0 0), (2, .v (.bool false)), (3, .j v2)] : Fr DD)) (fun v2 : Int => ([.box 31 (c31 a1) false] : Heap DD)) (fun r => match r with | Sum.inl _ => .ret | Sum.inr _ => .exit 0) (fun r => match r with | Sum.inl _ => [(2, .v (.bool false))] | Sum.inr _ => [(1, .op 0 1 0 0), (2, .v (.bool false))]) (fun r => match r with | Sum.inl _ => [] | Sum.inr _ => [.box 31 (c31 a1) false]) := by
  refine loop_sound3 (fun s q h => ?_) (fun r => ?_)
  · replace h : palingref15_rest_L1 a1 s = some q := h; revert h; revert s; intro v2 h
    unfold palingref15_rest_L1 at h
    obtain ⟨h3, h⟩|⟨h3, h⟩ := ite_out h
    · obtain ⟨x4, h5, h⟩ := bo h
      obtain ⟨r6, h7, h⟩ := bo h
      obtain ⟨h8, h⟩|⟨h8, h⟩ := ite_out h
      · injection h with h; subst h; exact rl [2] [] [.t, .row (c97 x4), .b r6, .t] (pc h3<|pc (ob97 h5)<|pc (k_palingref15_Place h7)<|pc h8<|pn)
      · obtain ⟨r9, h10, h⟩ := bo h
        obtain ⟨h11, h⟩|⟨h11, h⟩ := ite_out h
        · injection h with h; subst h; exact rl [2] [] [.t, .row (c97 x4), .b r6, .f, .b r9, .t] (pc h3<|pc (ob97 h5)<|pc (k_palingref15_Place h7)<|pc h8<|pc (k_palingref15_Place h10)<|pc h11<|pn)
        · obtain ⟨x12, h13, h⟩ := bo h
          obtain ⟨x14, h15, h⟩ := bo h
          obtain ⟨h16, h⟩|⟨h16, h⟩ := ite_out h
          · injection h with h; subst h; exact rl [2] [] [.t, .row (c97 x4), .b r6, .f, .b r9, .f, .row (c93 x12), .row (c56 x14), .t] (pc h3<|pc (ob97 h5)<|pc (k_palingref15_Place h7)<|pc h8<|pc (k_palingref15_Place h10)<|pc h11<|pc (ob93 h13)<|pc (ob56 h15)<|pc h16<|pn)
          · obtain ⟨x17, h18, h⟩ := bo h
            obtain ⟨r19, h20, h⟩ := bo h
            obtain ⟨h21, h⟩|⟨h21, h⟩ := ite_out h
            · injection h with h; subst h; exact rl [2] [] [.t, .row (c97 x4), .b r6, .f, .b r9, .f, .row (c93 x12), .row (c56 x14), .f, .row (c56 x17), .b r19, .t] (pc h3<|pc (ob97 h5)<|pc (k_palingref15_Place h7)<|pc h8<|pc (k_palingref15_Place h10)<|pc h11<|pc (ob93 h13)<|pc (ob56 h15)<|pc h16<|pc (ob56 h18)<|pc (k_palingref15_Member h20)<|pc h21<|pn)
            · injection h with h; subst h; exact rl [1, 2, 3] [0] [.t, .row (c97 x4), .b r6, .f, .b r9, .f, .row (c93 x12), .row (c56 x14), .f, .row (c56 x17), .b r19, .f] (pc h3<|pc (ob97 h5)<|pc (k_palingref15_Place h7)<|pc h8<|pc (k_palingref15_Place h10)<|pc h11<|pc (ob93 h13)<|pc (ob56 h15)<|pc h16<|pc (ob56 h18)<|pc (k_palingref15_Member h20)<|pc h21<|pn)
    · injection h with h; subst h; exact rl [1, 2] [0] [.f] (pc h3<|pn)
  · rcases r with _ | _ <;> exact Ex.noConfusion

theorem k_palingref15_rest_L2 {a1 : Api_Net} : LoopOK Tryz.prog UU 0 192 (subC (codeOf Tryz.f65) [1, 1, 0, 1, 0, 0]) (ρ := Unit ⊕ Unit) (palingref15_rest_L2 a1)
    (fun v24 : Int => ([(1, .op 0 1 0 0), (2, .v (.bool false)), (6, .j v24)] : Fr DD)) (fun v24 : Int => ([.box 31 (c31 a1) false] : Heap DD)) (fun r => match r with | Sum.inl _ => .ret | Sum.inr _ => .exit 2) (fun r => match r with | Sum.inl _ => [(2, .v (.bool false))] | Sum.inr _ => [(1, .op 0 1 0 0), (2, .v (.bool false))]) (fun r => match r with | Sum.inl _ => [] | Sum.inr _ => [.box 31 (c31 a1) false]) := by
  refine loop_sound3 (fun s q h => ?_) (fun r => ?_)
  · replace h : palingref15_rest_L2 a1 s = some q := h; revert h; revert s; intro v24 h
    unfold palingref15_rest_L2 at h
    obtain ⟨h25, h⟩|⟨h25, h⟩ := ite_out h
    · obtain ⟨x26, h27, h⟩ := bo h
      obtain ⟨r28, h29, h⟩ := bo h
      obtain ⟨h30, h⟩|⟨h30, h⟩ := ite_out h
      · injection h with h; subst h; exact rl [2] [] [.t, .row (c100 x26), .b r28, .t] (pc h25<|pc (ob100 h27)<|pc (k_palingref15_Place h29)<|pc h30<|pn)
      · obtain ⟨x31, h32, h⟩ := bo h
        obtain ⟨h33, h⟩|⟨h33, h⟩ := ite_out h
        · injection h with h; subst h; exact rl [2] [] [.t, .row (c100 x26), .b r28, .f, .row (c100 x31), .t] (pc h25<|pc (ob100 h27)<|pc (k_palingref15_Place h29)<|pc h30<|pc (ob100 h32)<|pc h33<|pn)
        · injection h with h; subst h; exact rl [1, 2, 6] [0] [.t, .row (c100 x26), .b r28, .f, .row (c100 x31), .f] (pc h25<|pc (ob100 h27)<|pc (k_palingref15_Place h29)<|pc h30<|pc (ob100 h32)<|pc h33<|pn)
    · injection h with h; subst h; exact rl [1, 2] [0] [.f] (pc h25<|pn)
  · rcases r with _ | _ <;> exact Ex.noConfusion

theorem k_palingref15_rest_L3 {a1 : Api_Net} : LoopOK Tryz.prog UU 0 192 (subC (codeOf Tryz.f65) [1, 1, 1, 0, 1, 0, 0]) (ρ := Unit ⊕ Unit) (palingref15_rest_L3 a1)
    (fun v36 : Int => ([(1, .op 0 1 0 0), (2, .v (.bool false)), (7, .j v36)] : Fr DD)) (fun v36 : Int => ([.box 31 (c31 a1) false] : Heap DD)) (fun r => match r with | Sum.inl _ => .ret | Sum.inr _ => .exit 4) (fun r => match r with | Sum.inl _ => [(2, .v (.bool false))] | Sum.inr _ => [(1, .op 0 1 0 0), (2, .v (.bool false))]) (fun r => match r with | Sum.inl _ => [] | Sum.inr _ => [.box 31 (c31 a1) false]) := by
  refine loop_sound3 (fun s q h => ?_) (fun r => ?_)
  · replace h : palingref15_rest_L3 a1 s = some q := h; revert h; revert s; intro v36 h
    unfold palingref15_rest_L3 at h
    obtain ⟨h37, h⟩|⟨h37, h⟩ := ite_out h
    · obtain ⟨x38, h39, h⟩ := bo h
      obtain ⟨r40, h41, h⟩ := bo h
      obtain ⟨h42, h⟩|⟨h42, h⟩ := ite_out h
      · injection h with h; subst h; exact rl [2] [] [.t, .row (c103 x38), .b r40, .t] (pc h37<|pc (ob103 h39)<|pc (k_palingref15_Place h41)<|pc h42<|pn)
      · obtain ⟨r43, h44, h⟩ := bo h
        obtain ⟨h45, h⟩|⟨h45, h⟩ := ite_out h
        · injection h with h; subst h; exact rl [2] [] [.t, .row (c103 x38), .b r40, .f, .b r43, .t] (pc h37<|pc (ob103 h39)<|pc (k_palingref15_Place h41)<|pc h42<|pc (k_palingref15_rising h44)<|pc h45<|pn)
        · obtain ⟨r46, h47, h⟩ := bo h
          obtain ⟨h48, h⟩|⟨h48, h⟩ := ite_out h
          · injection h with h; subst h; exact rl [2] [] [.t, .row (c103 x38), .b r40, .f, .b r43, .f, .b r46, .t] (pc h37<|pc (ob103 h39)<|pc (k_palingref15_Place h41)<|pc h42<|pc (k_palingref15_rising h44)<|pc h45<|pc (k_palingref15_rising h47)<|pc h48<|pn)
          · injection h with h; subst h; exact rl [1, 2, 7] [0] [.t, .row (c103 x38), .b r40, .f, .b r43, .f, .b r46, .f] (pc h37<|pc (ob103 h39)<|pc (k_palingref15_Place h41)<|pc h42<|pc (k_palingref15_rising h44)<|pc h45<|pc (k_palingref15_rising h47)<|pc h48<|pn)
    · injection h with h; subst h; exact rl [1, 2] [0] [.f] (pc h37<|pn)
  · rcases r with _ | _ <;> exact Ex.noConfusion

theorem k_palingref15_rest_L4 {a1 : Api_Net} : LoopOK Tryz.prog UU 0 192 (subC (codeOf Tryz.f65) [1, 1, 1, 1, 0, 1, 0, 0]) (ρ := Unit ⊕ Unit) (palingref15_rest_L4 a1)
    (fun v51 : Int => ([(1, .op 0 1 0 0), (2, .v (.bool false)), (9, .j v51)] : Fr DD)) (fun v51 : Int => ([.box 31 (c31 a1) false] : Heap DD)) (fun r => match r with | Sum.inl _ => .ret | Sum.inr _ => .exit 6) (fun r => match r with | Sum.inl _ => [(2, .v (.bool false))] | Sum.inr _ => [(2, .v (.bool false))]) (fun r => match r with | Sum.inl _ => [] | Sum.inr _ => []) := by
  refine loop_sound3 (fun s q h => ?_) (fun r => ?_)
  · replace h : palingref15_rest_L4 a1 s = some q := h; revert h; revert s; intro v51 h
    unfold palingref15_rest_L4 at h
    obtain ⟨h52, h⟩|⟨h52, h⟩ := ite_out h
    · obtain ⟨x53, h54, h⟩ := bo h
      obtain ⟨r55, h56, h⟩ := bo h
      obtain ⟨h57, h⟩|⟨h57, h⟩ := ite_out h
      · injection h with h; subst h; exact rl [2] [] [.t, .row (c118 x53), .b r55, .t] (pc h52<|pc (ob118 h54)<|pc (k_palingref15_Place h56)<|pc h57<|pn)
      · obtain ⟨r58, h59, h⟩ := bo h
        obtain ⟨h60, h⟩|⟨h60, h⟩ := ite_out h
        · injection h with h; subst h; exact rl [2] [] [.t, .row (c118 x53), .b r55, .f, .b r58, .t] (pc h52<|pc (ob118 h54)<|pc (k_palingref15_Place h56)<|pc h57<|pc (k_palingref15_Place h59)<|pc h60<|pn)
        · obtain ⟨h61, h⟩|⟨h61, h⟩ := ite_out h
          · injection h with h; subst h; exact rl [2] [] [.t, .row (c118 x53), .b r55, .f, .b r58, .f, .t] (pc h52<|pc (ob118 h54)<|pc (k_palingref15_Place h56)<|pc h57<|pc (k_palingref15_Place h59)<|pc h60<|pc h61<|pn)
          · obtain ⟨h62, h⟩|⟨h62, h⟩ := ite_out h
            · injection h with h; subst h; exact rl [2] [] [.t, .row (c118 x53), .b r55, .f, .b r58, .f, .f, .t] (pc h52<|pc (ob118 h54)<|pc (k_palingref15_Place h56)<|pc h57<|pc (k_palingref15_Place h59)<|pc h60<|pc h61<|pc h62<|pn)
            · obtain ⟨x63, h64, h⟩ := bo h
              obtain ⟨x65, h66, h⟩ := bo h
              obtain ⟨h67, h⟩|⟨h67, h⟩ := ite_out h
              · injection h with h; subst h; exact rl [2] [] [.t, .row (c118 x53), .b r55, .f, .b r58, .f, .f, .f, .row (c93 x63), .row (c103 x65), .t] (pc h52<|pc (ob118 h54)<|pc (k_palingref15_Place h56)<|pc h57<|pc (k_palingref15_Place h59)<|pc h60<|pc h61<|pc h62<|pc (ob93 h64)<|pc (ob103 h66)<|pc h67<|pn)
              · obtain ⟨x68, h69, h⟩ := bo h
                obtain ⟨h70, h⟩|⟨h70, h⟩ := ite_out h
                · injection h with h; subst h; exact rl [2] [] [.t, .row (c118 x53), .b r55, .f, .b r58, .f, .f, .f, .row (c93 x63), .row (c103 x65), .f, .row (c93 x68), .t] (pc h52<|pc (ob118 h54)<|pc (k_palingref15_Place h56)<|pc h57<|pc (k_palingref15_Place h59)<|pc h60<|pc h61<|pc h62<|pc (ob93 h64)<|pc (ob103 h66)<|pc h67<|pc (ob93 h69)<|pc h70<|pn)
                · injection h with h; subst h; exact rl [1, 2, 9] [0] [.t, .row (c118 x53), .b r55, .f, .b r58, .f, .f, .f, .row (c93 x63), .row (c103 x65), .f, .row (c93 x68), .f] (pc h52<|pc (ob118 h54)<|pc (k_palingref15_Place h56)<|pc h57<|pc (k_palingref15_Place h59)<|pc h60<|pc h61<|pc h62<|pc (ob93 h64)<|pc (ob103 h66)<|pc h67<|pc (ob93 h69)<|pc h70<|pn)
    · injection h with h; subst h; exact rl [2] [] [.f] (pc h52<|pn)
  · rcases r with _ | _ <;> exact Ex.noConfusion

theorem k_palingref15_rest {a1 : Api_Net} {r : Bool} (h : palingref15_rest a1 = some r) :
    CallsOK Tryz.prog UU 65 [.agg (c31 a1)] [] (.v (.bool r)) [] := by
  unfold palingref15_rest at h
  obtain ⟨r23, h22, h⟩ := bo h
  rcases r23 with _ | _
  · injection h with h; subst h; exact rf Tryz.func65 none [.sum [1, 2, 3] [0] .ret [(2, .v (.bool false))] []] (pc (k_palingref15_rest_L1 _ _ h22)<|pn)
  · obtain ⟨r35, h34, h⟩ := bo h
    rcases r35 with _ | _
    · injection h with h; subst h; exact rf Tryz.func65 none [.sum [1, 2, 3] [0] (.exit 0) [(1, .op 0 1 0 0), (2, .v (.bool false))] [.box 31 (c31 a1) false], .sum [1, 2, 6] [0] .ret [(2, .v (.bool false))] []] (pc (k_palingref15_rest_L1 _ _ h22)<|pc (k_palingref15_rest_L2 _ _ h34)<|pn)
    · obtain ⟨r50, h49, h⟩ := bo h
      rcases r50 with _ | _
      · injection h with h; subst h; exact rf Tryz.func65 none [.sum [1, 2, 3] [0] (.exit 0) [(1, .op 0 1 0 0), (2, .v (.bool false))] [.box 31 (c31 a1) false], .sum [1, 2, 6] [0] (.exit 2) [(1, .op 0 1 0 0), (2, .v (.bool false))] [.box 31 (c31 a1) false], .sum [1, 2, 7] [0] .ret [(2, .v (.bool false))] []] (pc (k_palingref15_rest_L1 _ _ h22)<|pc (k_palingref15_rest_L2 _ _ h34)<|pc (k_palingref15_rest_L3 _ _ h49)<|pn)
      · obtain ⟨r72, h71, h⟩ := bo h
        rcases r72 with _ | _
        · injection h with h; subst h; exact rf Tryz.func65 none [.sum [1, 2, 3] [0] (.exit 0) [(1, .op 0 1 0 0), (2, .v (.bool false))] [.box 31 (c31 a1) false], .sum [1, 2, 6] [0] (.exit 2) [(1, .op 0 1 0 0), (2, .v (.bool false))] [.box 31 (c31 a1) false], .sum [1, 2, 7] [0] (.exit 4) [(1, .op 0 1 0 0), (2, .v (.bool false))] [.box 31 (c31 a1) false], .sum [1, 2, 9] [0] .ret [(2, .v (.bool false))] []] (pc (k_palingref15_rest_L1 _ _ h22)<|pc (k_palingref15_rest_L2 _ _ h34)<|pc (k_palingref15_rest_L3 _ _ h49)<|pc (k_palingref15_rest_L4 _ _ h71)<|pn)
        · injection h with h; subst h; exact rf Tryz.func65 none [.sum [1, 2, 3] [0] (.exit 0) [(1, .op 0 1 0 0), (2, .v (.bool false))] [.box 31 (c31 a1) false], .sum [1, 2, 6] [0] (.exit 2) [(1, .op 0 1 0 0), (2, .v (.bool false))] [.box 31 (c31 a1) false], .sum [1, 2, 7] [0] (.exit 4) [(1, .op 0 1 0 0), (2, .v (.bool false))] [.box 31 (c31 a1) false], .sum [1, 2, 9] [0] (.exit 6) [(2, .v (.bool false))] []] (pc (k_palingref15_rest_L1 _ _ h22)<|pc (k_palingref15_rest_L2 _ _ h34)<|pc (k_palingref15_rest_L3 _ _ h49)<|pc (k_palingref15_rest_L4 _ _ h71)<|pn)

theorem k_palingref15_Right {a1 : Api_Net} {r : Bool} (h : palingref15_Right a1 = some r) :
    CallsOK Tryz.prog UU 19 [.agg (c31 a1)] [] (.v (.bool r)) [] := by
  unfold palingref15_Right at h
  obtain ⟨h2, h⟩|⟨h2, h⟩ := ite_out h
  · injection h with h; subst h; exact rf Tryz.func19 none [.t] (pc h2<|pn)
  · obtain ⟨h3, h⟩|⟨h3, h⟩ := ite_out h
    · injection h with h; subst h; exact rf Tryz.func19 none [.f, .t] (pc h2<|pc h3<|pn)
    · obtain ⟨h4, h⟩|⟨h4, h⟩ := ite_out h
      · injection h with h; subst h; exact rf Tryz.func19 none [.f, .f, .t] (pc h2<|pc h3<|pc h4<|pn)
      · obtain ⟨h5, h⟩|⟨h5, h⟩ := ite_out h
        · injection h with h; subst h; exact rf Tryz.func19 none [.f, .f, .f, .t] (pc h2<|pc h3<|pc h4<|pc h5<|pn)
        · obtain ⟨h6, h⟩|⟨h6, h⟩ := ite_out h
          · injection h with h; subst h; exact rf Tryz.func19 none [.f, .f, .f, .f, .t] (pc h2<|pc h3<|pc h4<|pc h5<|pc h6<|pn)
          · obtain ⟨h7, h⟩|⟨h7, h⟩ := ite_out h
            · injection h with h; subst h; exact rf Tryz.func19 none [.f, .f, .f, .f, .f, .t] (pc h2<|pc h3<|pc h4<|pc h5<|pc h6<|pc h7<|pn)
            · obtain ⟨h8, h⟩|⟨h8, h⟩ := ite_out h
              · injection h with h; subst h; exact rf Tryz.func19 none [.f, .f, .f, .f, .f, .f, .t] (pc h2<|pc h3<|pc h4<|pc h5<|pc h6<|pc h7<|pc h8<|pn)
              · obtain ⟨h9, h⟩|⟨h9, h⟩ := ite_out h
                · injection h with h; subst h; exact rf Tryz.func19 none [.f, .f, .f, .f, .f, .f, .f, .t] (pc h2<|pc h3<|pc h4<|pc h5<|pc h6<|pc h7<|pc h8<|pc h9<|pn)
                · obtain ⟨r10, h11, h⟩ := bo h
                  obtain ⟨h12, h⟩|⟨h12, h⟩ := ite_out h
                  · obtain ⟨r13, h14, h⟩ := bo h
                    obtain ⟨h15, h⟩|⟨h15, h⟩ := ite_out h
                    · obtain ⟨r16, h17, h⟩ := bo h
                      obtain ⟨h18, h⟩|⟨h18, h⟩ := ite_out h
                      · obtain ⟨r19, h20, h⟩ := bo h
                        injection h with h; subst h; exact rf Tryz.func19 none [.f, .f, .f, .f, .f, .f, .f, .f, .b r10, .t, .b r13, .t, .b r16, .t, .b r19] (pc h2<|pc h3<|pc h4<|pc h5<|pc h6<|pc h7<|pc h8<|pc h9<|pc (k_palingref15_domains h11)<|pc h12<|pc (k_palingref15_ports h14)<|pc h15<|pc (k_palingref15_links h17)<|pc h18<|pc (k_palingref15_rest h20)<|pn)
                      · injection h with h; subst h; exact rf Tryz.func19 none [.f, .f, .f, .f, .f, .f, .f, .f, .b r10, .t, .b r13, .t, .b r16, .f] (pc h2<|pc h3<|pc h4<|pc h5<|pc h6<|pc h7<|pc h8<|pc h9<|pc (k_palingref15_domains h11)<|pc h12<|pc (k_palingref15_ports h14)<|pc h15<|pc (k_palingref15_links h17)<|pc h18<|pn)
                    · injection h with h; subst h; exact rf Tryz.func19 none [.f, .f, .f, .f, .f, .f, .f, .f, .b r10, .t, .b r13, .f] (pc h2<|pc h3<|pc h4<|pc h5<|pc h6<|pc h7<|pc h8<|pc h9<|pc (k_palingref15_domains h11)<|pc h12<|pc (k_palingref15_ports h14)<|pc h15<|pn)
                  · injection h with h; subst h; exact rf Tryz.func19 none [.f, .f, .f, .f, .f, .f, .f, .f, .b r10, .f] (pc h2<|pc h3<|pc h4<|pc h5<|pc h6<|pc h7<|pc h8<|pc h9<|pc (k_palingref15_domains h11)<|pc h12<|pn)

theorem k_palingref16_Fits {a1 : Api_Net} {a2 : Api_Line} {a3 : Int} {r : Bool} (h : palingref16_Fits a1 a2 a3 = some r) :
    CallsOK Tryz.prog UU 50 [.agg (c31 a1), .agg (c37 a2), .j a3] [] (.v (.bool r)) [] := by
  unfold palingref16_Fits at h
  obtain ⟨h4, h⟩|⟨h4, h⟩ := ite_out h
  · obtain ⟨r5, h6, h⟩ := bo h
    obtain ⟨h7, h⟩|⟨h7, h⟩ := ite_out h
    · obtain ⟨r8, h9, h⟩ := bo h
      injection h with h; subst h; exact rf Tryz.func50 none [.t, .b r5, .t, .b r8] (pc h4<|pc (k_palingref11_Right h6)<|pc h7<|pc (k_palingref15_Right h9)<|pn)
    · injection h with h; subst h; exact rf Tryz.func50 none [.t, .b r5, .f] (pc h4<|pc (k_palingref11_Right h6)<|pc h7<|pn)
  · injection h with h; subst h; exact rf Tryz.func50 none [.f] (pc h4<|pn)

theorem k_palingref15_Device_L1 {a1 : Api_Net} {a2 : ByteArray} : LoopOK Tryz.prog UU 0 22 (subC (codeOf Tryz.f51) [1, 0, 1, 0, 0]) (ρ := Int ⊕ Unit) (palingref15_Device_L1 a1 a2)
    (fun v3 : Int => ([(1, .v (.string a2)), (2, .op 0 1 0 0), (4, .z), (5, .j v3)] : Fr DD)) (fun v3 : Int => ([.box 31 (c31 a1) false] : Heap DD)) (fun r => match r with | Sum.inl v9 => .ret | Sum.inr _ => .exit 0) (fun r => match r with | Sum.inl v9 => [(4, .j v9)] | Sum.inr _ => [(4, .z)]) (fun r => match r with | Sum.inl v9 => [] | Sum.inr _ => []) := by
  refine loop_sound3 (fun s q h => ?_) (fun r => ?_)
  · replace h : palingref15_Device_L1 a1 a2 s = some q := h; revert h; revert s; intro v3 h
    unfold palingref15_Device_L1 at h
    obtain ⟨h4, h⟩|⟨h4, h⟩ := ite_out h
    · obtain ⟨x5, h6, h⟩ := bo h
      obtain ⟨h7, h⟩|⟨h7, h⟩ := ite_out h
      · injection h with h; subst h; exact rl [4] [] [.t, .row (c91 x5), .t] (pc h4<|pc (ob91 h6)<|pc h7<|pn)
      · injection h with h; subst h; exact rl [1, 2, 4, 5] [0] [.t, .row (c91 x5), .f] (pc h4<|pc (ob91 h6)<|pc h7<|pn)
    · injection h with h; subst h; exact rl [4] [] [.f] (pc h4<|pn)
  · rcases r with _ | _ <;> exact Ex.noConfusion

theorem k_palingref15_Device {a1 : Api_Net} {a2 : ByteArray} {r : Int} (h : palingref15_Device a1 a2 = some r) :
    CallsOK Tryz.prog UU 51 [.agg (c31 a1), .v (.string a2)] [] (.j r) [] := by
  unfold palingref15_Device at h
  obtain ⟨r11, h10, h⟩ := bo h
  rcases r11 with v9 | _
  · injection h with h; subst h; exact rf Tryz.func51 none [.sum [1, 2, 4, 5] [0] .ret [(4, .j v9)] []] (pc (k_palingref15_Device_L1 _ _ h10)<|pn)
  · injection h with h; subst h; exact rf Tryz.func51 none [.sum [1, 2, 4, 5] [0] (.exit 0) [(4, .z)] []] (pc (k_palingref15_Device_L1 _ _ h10)<|pn)

theorem k_palingref15_Port_L1 {a1 : Api_Net} {a2 : Int} {a3 : ByteArray} : LoopOK Tryz.prog UU 0 34 (subC (codeOf Tryz.f52) [1, 0, 1, 0, 0]) (ρ := Int ⊕ Unit) (palingref15_Port_L1 a1 a2 a3)
    (fun v4 : Int => ([(1, .j a2), (2, .v (.string a3)), (3, .op 0 1 0 0), (6, .z), (7, .j v4)] : Fr DD)) (fun v4 : Int => ([.box 31 (c31 a1) false] : Heap DD)) (fun r => match r with | Sum.inl v13 => .ret | Sum.inr _ => .exit 0) (fun r => match r with | Sum.inl v13 => [(6, .j v13)] | Sum.inr _ => [(6, .z)]) (fun r => match r with | Sum.inl v13 => [] | Sum.inr _ => []) := by
  refine loop_sound3 (fun s q h => ?_) (fun r => ?_)
  · replace h : palingref15_Port_L1 a1 a2 a3 s = some q := h; revert h; revert s; intro v4 h
    unfold palingref15_Port_L1 at h
    obtain ⟨h5, h⟩|⟨h5, h⟩ := ite_out h
    · obtain ⟨x6, h7, h⟩ := bo h
      obtain ⟨h8, h⟩|⟨h8, h⟩ := ite_out h
      · obtain ⟨x9, h10, h⟩ := bo h
        obtain ⟨h11, h⟩|⟨h11, h⟩ := ite_out h
        · injection h with h; subst h; exact rl [6] [] [.t, .row (c56 x6), .t, .row (c56 x9), .t] (pc h5<|pc (ob56 h7)<|pc h8<|pc (ob56 h10)<|pc h11<|pn)
        · injection h with h; subst h; exact rl [1, 2, 3, 6, 7] [0] [.t, .row (c56 x6), .t, .row (c56 x9), .f] (pc h5<|pc (ob56 h7)<|pc h8<|pc (ob56 h10)<|pc h11<|pn)
      · injection h with h; subst h; exact rl [1, 2, 3, 6, 7] [0] [.t, .row (c56 x6), .f] (pc h5<|pc (ob56 h7)<|pc h8<|pn)
    · injection h with h; subst h; exact rl [6] [] [.f] (pc h5<|pn)
  · rcases r with _ | _ <;> exact Ex.noConfusion

theorem k_palingref15_Port {a1 : Api_Net} {a2 : Int} {a3 : ByteArray} {r : Int} (h : palingref15_Port a1 a2 a3 = some r) :
    CallsOK Tryz.prog UU 52 [.agg (c31 a1), .j a2, .v (.string a3)] [] (.j r) [] := by
  unfold palingref15_Port at h
  obtain ⟨r15, h14, h⟩ := bo h
  rcases r15 with v13 | _
  · injection h with h; subst h; exact rf Tryz.func52 none [.sum [1, 2, 3, 6, 7] [0] .ret [(6, .j v13)] []] (pc (k_palingref15_Port_L1 _ _ h14)<|pn)
  · injection h with h; subst h; exact rf Tryz.func52 none [.sum [1, 2, 3, 6, 7] [0] (.exit 0) [(6, .z)] []] (pc (k_palingref15_Port_L1 _ _ h14)<|pn)

theorem k_palingref18_Lookup_L1 {a1 : Api_Net} {a2 : Int} {a3 : Int} : LoopOK Tryz.prog UU 0 39 (subC (codeOf Tryz.f20) [1, 0, 1, 0, 0]) (ρ := Int ⊕ Unit) (palingref18_Lookup_L1 a1 a2 a3)
    (fun v4 : Int => ([(1, .j a2), (2, .v (.int .u64 a3)), (3, .op 0 1 0 0), (6, .z), (7, .j v4)] : Fr DD)) (fun v4 : Int => ([.box 31 (c31 a1) false] : Heap DD)) (fun r => match r with | Sum.inl v15 => .ret | Sum.inr _ => .exit 0) (fun r => match r with | Sum.inl v15 => [(6, .j v15)] | Sum.inr _ => [(6, .z)]) (fun r => match r with | Sum.inl v15 => [] | Sum.inr _ => []) := by
  refine loop_sound3 (fun s q h => ?_) (fun r => ?_)
  · replace h : palingref18_Lookup_L1 a1 a2 a3 s = some q := h; revert h; revert s; intro v4 h
    unfold palingref18_Lookup_L1 at h
    obtain ⟨h5, h⟩|⟨h5, h⟩ := ite_out h
    · obtain ⟨x6, h7, h⟩ := bo h
      obtain ⟨h8, h⟩|⟨h8, h⟩ := ite_out h
      · obtain ⟨x9, h10, h⟩ := bo h
        obtain ⟨h11, h⟩|⟨h11, h⟩ := ite_out h
        · obtain ⟨x12, h13, h⟩ := bo h
          injection h with h; subst h; exact rl [6] [] [.t, .row (c97 x6), .t, .row (c97 x9), .t, .row (c97 x12)] (pc h5<|pc (ob97 h7)<|pc h8<|pc (ob97 h10)<|pc h11<|pc (ob97 h13)<|pn)
        · injection h with h; subst h; exact rl [1, 2, 3, 6, 7] [0] [.t, .row (c97 x6), .t, .row (c97 x9), .f] (pc h5<|pc (ob97 h7)<|pc h8<|pc (ob97 h10)<|pc h11<|pn)
      · injection h with h; subst h; exact rl [1, 2, 3, 6, 7] [0] [.t, .row (c97 x6), .f] (pc h5<|pc (ob97 h7)<|pc h8<|pn)
    · injection h with h; subst h; exact rl [6] [] [.f] (pc h5<|pn)
  · rcases r with _ | _ <;> exact Ex.noConfusion

theorem k_palingref18_Lookup {a1 : Api_Net} {a2 : Int} {a3 : Int} {r : Int} (h : palingref18_Lookup a1 a2 a3 = some r) :
    CallsOK Tryz.prog UU 20 [.agg (c31 a1), .j a2, .v (.int .u64 a3)] [] (.j r) [] := by
  unfold palingref18_Lookup at h
  obtain ⟨r17, h16, h⟩ := bo h
  rcases r17 with v15 | _
  · injection h with h; subst h; exact rf Tryz.func20 none [.sum [1, 2, 3, 6, 7] [0] .ret [(6, .j v15)] []] (pc (k_palingref18_Lookup_L1 _ _ h16)<|pn)
  · injection h with h; subst h; exact rf Tryz.func20 none [.sum [1, 2, 3, 6, 7] [0] (.exit 0) [(6, .z)] []] (pc (k_palingref18_Lookup_L1 _ _ h16)<|pn)

end Go.Eng
