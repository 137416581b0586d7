/- Part of the proof of VrfsPuts: printed mirrors of the functions, or their contracts. No conditions. -/
import Derived.Test.YtcclngfmkodgjaaGreatMAK5
set_option linter.unusedVariables false
set_option maxRecDepth 100000
namespace Go.Eng
open Go Go.Proofs
theorem k_palingref03_Read_J1 {a1 : ByteArray} {a2 : Int} {a3 : Int} {r : Int} (h : palingref03_Read_J1 a1 a2 a3 = some r) :
  ExecOK Tryz.prog UU 0 75 (subC (codeOf Tryz.f247) [1, 1, 0]) [(0, .x a1), (1, .j a2), (2, .j a3), (6, .z), (7, .y false), (8, .z)] [] ((fun r => match r with | v8 => .nor) r) ((fun r => match r with | v8 => [(0, .x a1), (1, .j a2), (2, .j a3), (6, .z), (7, .y false), (8, .j v8)]) r) ((fun r => match r with | v8 => []) r) := by
 unfold palingref03_Read_J1 at h
 obtain ⟨h4, h⟩|⟨h4, h⟩ := ite_out h
 ·obtain ⟨h5, h⟩|⟨h5, h⟩ := ite_out h
  ·obtain ⟨h6, h⟩|⟨h6, h⟩ := ite_out h
   ·obtain rfl := oi h; exact rl [0, 1, 2, 6, 7, 8] [] [.t, .t] (pc h4<|pc (of_decide_eq_true h5)<|pc h6<|pn)
   ·obtain rfl := oi h; exact rl [0, 1, 2, 6, 7, 8] [] [.t, .f] (pc h4<|pc (of_decide_eq_true h5)<|pc h6<|pn)
  ·cases h
 ·obtain rfl := oi h; exact rl [0, 1, 2, 6, 7, 8] [] [.f] (pc h4<|pn)

theorem k_palingref03_Read_L2 {a1 : ByteArray} {a2 : Int} {a3 : Int} {v8 : Int} : LoopOK Tryz.prog UU 0 75 (subC (codeOf Tryz.f247) [1, 1, 1, 1, 1, 0, 1, 0, 0]) (fun s : Int × Int => match s with | (v13, v14) => palingref03_Read_L2 a1 a2 a3 v8 v13 v14)
  (fun s : Int × Int => (match s with | (v13, v14) => [(0, .x a1), (1, .j a2), (2, .j a3), (6, .z), (7, .y false), (8, .j v8), (9, .j v13), (10, .j v14)] : Fr DD)) (fun s : Int × Int => (match s with | (v13, v14) => [] : Heap DD)) (fun r => match r with | Sum.inl _ => .ret | Sum.inr v20 => .exit 0) (fun r => match r with | Sum.inl _ => [(6, .z), (7, .y false)] | Sum.inr v20 => [(0, .x a1), (1, .j a2), (2, .j a3), (6, .z), (7, .y false), (8, .j v8), (9, .j v20)]) (fun r => match r with | Sum.inl _ => [] | Sum.inr v20 => []) := by
 refine loop_sound3 (fun s q h => ?_) (fun r => ?_)
 ·obtain ⟨v13, v14⟩ := s; replace h : palingref03_Read_L2 a1 a2 a3 v8 v13 v14 = some q := h
  unfold palingref03_Read_L2 at h
  obtain ⟨h15, h⟩|⟨h15, h⟩ := ite_out h
  ·obtain ⟨h16, h⟩|⟨h16, h⟩ := ite_out h
   ·obtain ⟨h17, h⟩|⟨h17, h⟩ := ite_out h
    ·obtain rfl := oi h; exact rl [6, 7] [] [.t, .t] (pc h15<|pc (of_decide_eq_true h16)<|pc h17<|pn)
    ·obtain ⟨h18, h⟩|⟨h18, h⟩ := ite_out h
     ·obtain rfl := oi h; exact rl [6, 7] [] [.t, .f, .t] (pc h15<|pc (of_decide_eq_true h16)<|pc h17<|pc (of_decide_eq_true h16)<|pc h18<|pn)
     ·obtain rfl := oi h; exact rl [0, 1, 2, 6, 7, 8, 9, 10] [] [.t, .f, .f] (pc h15<|pc (of_decide_eq_true h16)<|pc h17<|pc (of_decide_eq_true h16)<|pc h18<|pc (of_decide_eq_true h16)<|pn)
   ·cases h
  ·obtain rfl := oi h; exact rl [0, 1, 2, 6, 7, 8, 9] [] [.f] (pc h15<|pn)
 ·rcases r with _ | _ <;> exact Ex.noConfusion

theorem k_palingref03_Read_J3 {a1 : ByteArray} {a2 : Int} {a3 : Int} {v8 : Int} {v20 : Int} {r : Int} (h : palingref03_Read_J3 a1 a2 a3 v8 v20 = some r) :
  ExecOK Tryz.prog UU 0 75 (subC (codeOf Tryz.f247) [1, 1, 1, 1, 1, 1, 0]) [(0, .x a1), (1, .j a2), (2, .j a3), (6, .z), (7, .y false), (8, .j v8), (9, .j v20)] [] ((fun r => match r with | v25 => .nor) r) ((fun r => match r with | v25 => [(0, .x a1), (1, .j a2), (2, .j a3), (6, .z), (7, .y false), (9, .j v25)]) r) ((fun r => match r with | v25 => []) r) := by
 unfold palingref03_Read_J3 at h
 obtain ⟨h23, h⟩|⟨h23, h⟩ := ite_out h
 ·obtain rfl := oi h; exact rl [0, 1, 2, 6, 7, 9] [] [.t] (pc h23<|pn)
 ·obtain rfl := oi h; exact rl [0, 1, 2, 6, 7, 9] [] [.f] (pc h23<|pn)

theorem k_palingref03_Read {a1 : ByteArray} {a2 : Int} {a3 : Int} {r : Int × Bool} (h : palingref03_Read a1 a2 a3 = some r) :
  CallsOK Tryz.prog UU 247 [.x a1, .j a2, .j a3] [] (.tup [.j r.1, .y r.2]) [] := by
 unfold palingref03_Read at h
 obtain ⟨v8, h9, h⟩ := bo h
 obtain ⟨h11, h⟩|⟨h11, h⟩ := ite_out h
 ·obtain rfl := oi h; exact rf Tryz.func247 none [.skp, .skp, .cut [0, 1, 2, 6, 7, 8] [] .nor [(0, .x a1), (1, .j a2), (2, .j a3), (6, .z), (7, .y false), (8, .j v8)] [], .t] (pc (k_palingref03_Read_J1 h9)<|pc h11<|pn)
 ·obtain ⟨h12, h⟩|⟨h12, h⟩ := ite_out h
  ·obtain rfl := oi h; exact rf Tryz.func247 none [.skp, .skp, .cut [0, 1, 2, 6, 7, 8] [] .nor [(0, .x a1), (1, .j a2), (2, .j a3), (6, .z), (7, .y false), (8, .j v8)] [], .f, .t] (pc (k_palingref03_Read_J1 h9)<|pc h11<|pc h12<|pn)
  ·obtain ⟨r22, h21, h⟩ := bo h
   rcases r22 with _ | v20
   ·obtain rfl := oi h; exact rf Tryz.func247 none [.skp, .skp, .cut [0, 1, 2, 6, 7, 8] [] .nor [(0, .x a1), (1, .j a2), (2, .j a3), (6, .z), (7, .y false), (8, .j v8)] [], .f, .f, .sum [0, 1, 2, 6, 7, 8, 9, 10] [] .ret [(6, .z), (7, .y false)] []] (pc (k_palingref03_Read_J1 h9)<|pc h11<|pc h12<|pc (k_palingref03_Read_L2 _ _ h21)<|pn)
   ·obtain ⟨v25, h26, h⟩ := bo h
    obtain ⟨h28, h⟩|⟨h28, h⟩ := ite_out h
    ·obtain rfl := oi h; exact rf Tryz.func247 none [.skp, .skp, .cut [0, 1, 2, 6, 7, 8] [] .nor [(0, .x a1), (1, .j a2), (2, .j a3), (6, .z), (7, .y false), (8, .j v8)] [], .f, .f, .sum [0, 1, 2, 6, 7, 8, 9, 10] [] (.exit 0) [(0, .x a1), (1, .j a2), (2, .j a3), (6, .z), (7, .y false), (8, .j v8), (9, .j v20)] [], .cut [0, 1, 2, 6, 7, 8, 9] [] .nor [(0, .x a1), (1, .j a2), (2, .j a3), (6, .z), (7, .y false), (9, .j v25)] [], .t] (pc (k_palingref03_Read_J1 h9)<|pc h11<|pc h12<|pc (k_palingref03_Read_L2 _ _ h21)<|pc (k_palingref03_Read_J3 h26)<|pc h28<|pn)
    ·obtain ⟨h29, h⟩|⟨h29, h⟩ := ite_out h
     ·obtain rfl := oi h; exact rf Tryz.func247 none [.skp, .skp, .cut [0, 1, 2, 6, 7, 8] [] .nor [(0, .x a1), (1, .j a2), (2, .j a3), (6, .z), (7, .y false), (8, .j v8)] [], .f, .f, .sum [0, 1, 2, 6, 7, 8, 9, 10] [] (.exit 0) [(0, .x a1), (1, .j a2), (2, .j a3), (6, .z), (7, .y false), (8, .j v8), (9, .j v20)] [], .cut [0, 1, 2, 6, 7, 8, 9] [] .nor [(0, .x a1), (1, .j a2), (2, .j a3), (6, .z), (7, .y false), (9, .j v25)] [], .f, .t] (pc (k_palingref03_Read_J1 h9)<|pc h11<|pc h12<|pc (k_palingref03_Read_L2 _ _ h21)<|pc (k_palingref03_Read_J3 h26)<|pc h28<|pc h29<|pn)
     ·obtain ⟨r30, h31, h⟩ := bo h
      obtain ⟨h32, h⟩|⟨h32, h⟩ := ite_out h
      ·obtain rfl := oi h; exact rf Tryz.func247 none [.skp, .skp, .cut [0, 1, 2, 6, 7, 8] [] .nor [(0, .x a1), (1, .j a2), (2, .j a3), (6, .z), (7, .y false), (8, .j v8)] [], .f, .f, .sum [0, 1, 2, 6, 7, 8, 9, 10] [] (.exit 0) [(0, .x a1), (1, .j a2), (2, .j a3), (6, .z), (7, .y false), (8, .j v8), (9, .j v20)] [], .cut [0, 1, 2, 6, 7, 8, 9] [] .nor [(0, .x a1), (1, .j a2), (2, .j a3), (6, .z), (7, .y false), (9, .j v25)] [], .f, .f, .callv (.x r30), .t] (pc (k_palingref03_Read_J1 h9)<|pc h11<|pc h12<|pc (k_palingref03_Read_L2 _ _ h21)<|pc (k_palingref03_Read_J3 h26)<|pc h28<|pc h29<|pc (k_palingref03_Text h31)<|pc h32<|pn)
      ·obtain rfl := oi h; exact rf Tryz.func247 none [.skp, .skp, .cut [0, 1, 2, 6, 7, 8] [] .nor [(0, .x a1), (1, .j a2), (2, .j a3), (6, .z), (7, .y false), (8, .j v8)] [], .f, .f, .sum [0, 1, 2, 6, 7, 8, 9, 10] [] (.exit 0) [(0, .x a1), (1, .j a2), (2, .j a3), (6, .z), (7, .y false), (8, .j v8), (9, .j v20)] [], .cut [0, 1, 2, 6, 7, 8, 9] [] .nor [(0, .x a1), (1, .j a2), (2, .j a3), (6, .z), (7, .y false), (9, .j v25)] [], .f, .f, .callv (.x r30), .f] (pc (k_palingref03_Read_J1 h9)<|pc h11<|pc h12<|pc (k_palingref03_Read_L2 _ _ h21)<|pc (k_palingref03_Read_J3 h26)<|pc h28<|pc h29<|pc (k_palingref03_Text h31)<|pc h32<|pn)

theorem k_palingref01_Read_J2 {a1 : ByteArray} {v3 : Int} {v4 : Int} {r : Int} (h : palingref01_Read_J2 a1 v3 v4 = some r) :
  ExecOK Tryz.prog UU 0 56 (subC (codeOf Tryz.f248) [1, 1, 1, 0, 1, 0, 0, 1, 0, 0, 1, 0]) [(0, .x a1), (2, .v (.int .u64 0)), (3, .y false), (4, .v (.int .u64 v3)), (5, .j v4), (6, .v (.int .u64 0))] [] ((fun r => match r with | v10 => .nor) r) ((fun r => match r with | v10 => [(0, .x a1), (2, .v (.int .u64 0)), (3, .y false), (4, .v (.int .u64 v3)), (5, .j v4), (6, .v (.int .u64 v10))]) r) ((fun r => match r with | v10 => []) r) := by
 unfold palingref01_Read_J2 at h
 obtain ⟨h6, h⟩|⟨h6, h⟩ := ite_out h
 ·obtain ⟨h7, h⟩|⟨h7, h⟩ := ite_out h
  ·obtain ⟨h8, h⟩|⟨h8, h⟩ := ite_out h
   ·obtain rfl := oi h; exact rl [0, 2, 3, 4, 5, 6] [] [.t, .t] (pc (of_decide_eq_true h6)<|pc h7<|pc (of_decide_eq_true h6)<|pc h8<|pc (of_decide_eq_true h6)<|pn)
   ·obtain rfl := oi h; exact rl [0, 2, 3, 4, 5, 6] [] [.t, .f] (pc (of_decide_eq_true h6)<|pc h7<|pc (of_decide_eq_true h6)<|pc h8<|pn)
  ·obtain rfl := oi h; exact rl [0, 2, 3, 4, 5, 6] [] [.f] (pc (of_decide_eq_true h6)<|pc h7<|pn)
 ·cases h

theorem k_palingref01_Read_L1 {a1 : ByteArray} : LoopOK Tryz.prog UU 0 56 (subC (codeOf Tryz.f248) [1, 1, 1, 0, 1, 0, 0]) (fun s : Int × Int => match s with | (v3, v4) => palingref01_Read_L1 a1 v3 v4)
  (fun s : Int × Int => (match s with | (v3, v4) => [(0, .x a1), (2, .v (.int .u64 0)), (3, .y false), (4, .v (.int .u64 v3)), (5, .j v4)] : Fr DD)) (fun s : Int × Int => (match s with | (v3, v4) => [] : Heap DD)) (fun r => match r with | v20 => .exit 0) (fun r => match r with | v20 => [(0, .x a1), (2, .v (.int .u64 0)), (3, .y false), (4, .v (.int .u64 v20))]) (fun r => match r with | v20 => []) := by
 refine loop_sound3 (fun s q h => ?_) (fun r => ?_)
 ·obtain ⟨v3, v4⟩ := s; replace h : palingref01_Read_L1 a1 v3 v4 = some q := h
  unfold palingref01_Read_L1 at h
  obtain ⟨h5, h⟩|⟨h5, h⟩ := ite_out h
  ·obtain ⟨v10, h11, h⟩ := bo h
   obtain ⟨h13, h⟩|⟨h13, h⟩ := ite_out h
   ·obtain ⟨h14, h⟩|⟨h14, h⟩ := ite_out h
    ·obtain ⟨h15, h⟩|⟨h15, h⟩ := ite_out h
     ·obtain ⟨h16, h⟩|⟨h16, h⟩ := ite_out h
      ·obtain rfl := oi h; exact rl [0, 2, 3, 4, 5] [] [.t, .skp, .skp, .cut [0, 2, 3, 4, 5, 6] [] .nor [(0, .x a1), (2, .v (.int .u64 0)), (3, .y false), (4, .v (.int .u64 v3)), (5, .j v4), (6, .v (.int .u64 v10))] [], .t, .t, .t] (pc h5<|pc (k_palingref01_Read_J2 h11)<|pc (of_decide_eq_true h13)<|pc h14<|pc (of_decide_eq_true h13)<|pc h15<|pc (of_decide_eq_true h13)<|pc (show (3 : Int) ≠ 0 from by decide)<|pc h16<|pn)
      ·obtain rfl := oi h; exact rl [0, 2, 3, 4, 5] [] [.t, .skp, .skp, .cut [0, 2, 3, 4, 5, 6] [] .nor [(0, .x a1), (2, .v (.int .u64 0)), (3, .y false), (4, .v (.int .u64 v3)), (5, .j v4), (6, .v (.int .u64 v10))] [], .t, .t, .f] (pc h5<|pc (k_palingref01_Read_J2 h11)<|pc (of_decide_eq_true h13)<|pc h14<|pc (of_decide_eq_true h13)<|pc h15<|pc (of_decide_eq_true h13)<|pc (show (3 : Int) ≠ 0 from by decide)<|pc h16<|pn)
     ·obtain ⟨h17, h⟩|⟨h17, h⟩ := ite_out h
      ·obtain rfl := oi h; exact rl [0, 2, 3, 4, 5] [] [.t, .skp, .skp, .cut [0, 2, 3, 4, 5, 6] [] .nor [(0, .x a1), (2, .v (.int .u64 0)), (3, .y false), (4, .v (.int .u64 v3)), (5, .j v4), (6, .v (.int .u64 v10))] [], .t, .f, .t] (pc h5<|pc (k_palingref01_Read_J2 h11)<|pc (of_decide_eq_true h13)<|pc h14<|pc (of_decide_eq_true h13)<|pc h15<|pc (show (3 : Int) ≠ 0 from by decide)<|pc h17<|pn)
      ·obtain rfl := oi h; exact rl [0, 2, 3, 4, 5] [] [.t, .skp, .skp, .cut [0, 2, 3, 4, 5, 6] [] .nor [(0, .x a1), (2, .v (.int .u64 0)), (3, .y false), (4, .v (.int .u64 v3)), (5, .j v4), (6, .v (.int .u64 v10))] [], .t, .f, .f] (pc h5<|pc (k_palingref01_Read_J2 h11)<|pc (of_decide_eq_true h13)<|pc h14<|pc (of_decide_eq_true h13)<|pc h15<|pc (show (3 : Int) ≠ 0 from by decide)<|pc h17<|pn)
    ·obtain ⟨h18, h⟩|⟨h18, h⟩ := ite_out h
     ·obtain rfl := oi h; exact rl [0, 2, 3, 4, 5] [] [.t, .skp, .skp, .cut [0, 2, 3, 4, 5, 6] [] .nor [(0, .x a1), (2, .v (.int .u64 0)), (3, .y false), (4, .v (.int .u64 v3)), (5, .j v4), (6, .v (.int .u64 v10))] [], .f, .t] (pc h5<|pc (k_palingref01_Read_J2 h11)<|pc (of_decide_eq_true h13)<|pc h14<|pc (show (3 : Int) ≠ 0 from by decide)<|pc h18<|pn)
     ·obtain rfl := oi h; exact rl [0, 2, 3, 4, 5] [] [.t, .skp, .skp, .cut [0, 2, 3, 4, 5, 6] [] .nor [(0, .x a1), (2, .v (.int .u64 0)), (3, .y false), (4, .v (.int .u64 v3)), (5, .j v4), (6, .v (.int .u64 v10))] [], .f, .f] (pc h5<|pc (k_palingref01_Read_J2 h11)<|pc (of_decide_eq_true h13)<|pc h14<|pc (show (3 : Int) ≠ 0 from by decide)<|pc h18<|pn)
   ·cases h
  ·obtain rfl := oi h; exact rl [0, 2, 3, 4] [] [.f] (pc h5<|pn)
 ·exact Ex.noConfusion

theorem k_palingref01_Read {a1 : ByteArray} {r : Int × Bool} (h : palingref01_Read a1 = some r) :
  CallsOK Tryz.prog UU 248 [.x a1] [] (.tup [.v (.int .u64 r.1), .y r.2]) [] := by
 unfold palingref01_Read at h
 obtain ⟨h2, h⟩|⟨h2, h⟩ := ite_out h
 ·obtain rfl := oi h; exact rf Tryz.func248 none [.t] (pc h2<|pn)
 ·obtain ⟨v20, h21, h⟩ := bo h
  obtain ⟨r23, h24, h⟩ := bo h
  obtain ⟨h25, h⟩|⟨h25, h⟩ := ite_out h
  ·obtain rfl := oi h; exact rf Tryz.func248 none [.f, .sum [0, 2, 3, 4, 5] [] (.exit 0) [(0, .x a1), (2, .v (.int .u64 0)), (3, .y false), (4, .v (.int .u64 v20))] [], .callv (.x r23), .t] (pc h2<|pc (k_palingref01_Read_L1 _ _ h21)<|pc (k_palingref01_Text h24)<|pc h25<|pn)
  ·obtain rfl := oi h; exact rf Tryz.func248 none [.f, .sum [0, 2, 3, 4, 5] [] (.exit 0) [(0, .x a1), (2, .v (.int .u64 0)), (3, .y false), (4, .v (.int .u64 v20))] [], .callv (.x r23), .f] (pc h2<|pc (k_palingref01_Read_L1 _ _ h21)<|pc (k_palingref01_Text h24)<|pc h25<|pn)

theorem k_palingref01_number_L1 {a1 : List Int} : LoopOK Tryz.prog UU 0 20 (subC (codeOf Tryz.f277) [1, 1, 0, 1, 0, 0]) (fun s : Int × Int => match s with | (v2, v3) => palingref01_number_L1 a1 v2 v3)
  (fun s : Int × Int => (match s with | (v2, v3) => [(0, .sl 5 a1), (2, .v (.int .u64 0)), (3, .v (.int .u64 v2)), (4, .j v3)] : Fr DD)) (fun s : Int × Int => (match s with | (v2, v3) => [] : Heap DD)) (fun r => match r with | v8 => .exit 0) (fun r => match r with | v8 => [(2, .v (.int .u64 0)), (3, .v (.int .u64 v8))]) (fun r => match r with | v8 => []) := by
 refine loop_sound3 (fun s q h => ?_) (fun r => ?_)
 ·obtain ⟨v2, v3⟩ := s; replace h : palingref01_number_L1 a1 v2 v3 = some q := h
  unfold palingref01_number_L1 at h
  obtain ⟨h4, h⟩|⟨h4, h⟩ := ite_out h
  ·obtain ⟨x5, h6, h⟩ := bo h
   obtain rfl := oi h; exact rl [0, 2, 3, 4] [] [.t, .row (c5 x5)] (pc h4<|pc (ob5 h6)<|pn)
  ·obtain rfl := oi h; exact rl [2, 3] [] [.f] (pc h4<|pn)
 ·exact Ex.noConfusion

theorem k_palingref01_number {a1 : List Int} {r : Int} (h : palingref01_number a1 = some r) :
  CallsOK Tryz.prog UU 277 [.sl 5 a1] [] (.v (.int .u64 r)) [] := by
 unfold palingref01_number at h
 obtain ⟨v8, h9, h⟩ := bo h
 obtain rfl := oi h; exact rf Tryz.func277 none [.sum [0, 2, 3, 4] [] (.exit 0) [(2, .v (.int .u64 0)), (3, .v (.int .u64 v8))] []] (pc (k_palingref01_number_L1 _ _ h9)<|pn)

theorem k_palingref01_IsHost {a1 : Int} {r : Int × Bool} (h : palingref01_IsHost a1 = some r) :
  CallsOK Tryz.prog UU 264 [.v (.int .u64 a1)] [] (.tup [.v (.int .u32 r.1), .y r.2]) [] := by
 unfold palingref01_IsHost at h
 obtain ⟨l4, h3, h⟩ := bo h
 obtain ⟨h5, h⟩|⟨h5, h⟩ := ite_out h
 ·obtain ⟨x6, h7, h⟩ := bo h
  obtain ⟨h8, h⟩|⟨h8, h⟩ := ite_out h
  ·obtain rfl := oi h; exact rf Tryz.func264 none [.callo (.os 0 l4.length) [.w 5 l4], .row (c5 x6), .t] (pc (k_palingref01_Bytes h3)<|pc (im5 l4)<|pc (an l4.length (lin_ob h5))<|pc (an l4.length (obn5 h7))<|pc h8<|pn)
  ·obtain ⟨h9, h⟩|⟨h9, h⟩ := ite_out h
   ·obtain ⟨x10, h11, h⟩ := bo h
    obtain ⟨h12, h⟩|⟨h12, h⟩ := ite_out h
    ·obtain rfl := oi h; exact rf Tryz.func264 none [.callo (.os 0 l4.length) [.w 5 l4], .row (c5 x6), .f, .row (c5 x10), .t] (pc (k_palingref01_Bytes h3)<|pc (im5 l4)<|pc (an l4.length (lin_ob h5))<|pc (an l4.length (obn5 h7))<|pc h8<|pc (an l4.length (lin_ob h9))<|pc (an l4.length (obn5 h11))<|pc h12<|pn)
    ·obtain ⟨h13, h⟩|⟨h13, h⟩ := ite_out h
     ·obtain ⟨r14, h15, h⟩ := bo h
      obtain rfl := oi h; exact rf Tryz.func264 none [.callo (.os 0 l4.length) [.w 5 l4], .row (c5 x6), .f, .row (c5 x10), .f, .callv (.v (.int .u64 r14))] (pc (k_palingref01_Bytes h3)<|pc (im5 l4)<|pc (an l4.length (lin_ob h5))<|pc (an l4.length (obn5 h7))<|pc h8<|pc (an l4.length (lin_ob h9))<|pc (an l4.length (obn5 h11))<|pc h12<|pc (rn l4.length)<|pc (sl_ob h13)<|pc (k_palingref01_number h15)<|pc (rn l4.length)<|pn)
     ·cases h
   ·cases h
 ·cases h

theorem k_palingref01_Group {a1 : Int} {r : Bool} (h : palingref01_Group a1 = some r) :
  CallsOK Tryz.prog UU 265 [.v (.int .u64 a1)] [] (.y r) [] := by
 unfold palingref01_Group at h
 obtain ⟨l4, h3, h⟩ := bo h
 obtain ⟨h5, h⟩|⟨h5, h⟩ := ite_out h
 ·obtain ⟨x6, h7, h⟩ := bo h
  obtain rfl := oi h; exact rf Tryz.func265 none [.callo (.os 0 l4.length) [.w 5 l4], .row (c5 x6)] (pc (k_palingref01_Bytes h3)<|pc (im5 l4)<|pc (an l4.length (lin_ob h5))<|pc (an l4.length (obn5 h7))<|pc (show (2 : Int) ≠ 0 from by decide)<|pn)
 ·cases h

theorem k_palingref11_Station {a1 : Int} {r : Bool} (h : palingref11_Station a1 = some r) :
  CallsOK Tryz.prog UU 249 [.v (.int .u64 a1)] [] (.y r) [] := by
 unfold palingref11_Station at h
 obtain ⟨r2, h3, h⟩ := bo h
 obtain ⟨h4, h⟩|⟨h4, h⟩ := ite_out h
 ·obtain ⟨h5, h⟩|⟨h5, h⟩ := ite_out h
  ·obtain ⟨r6, h7, h⟩ := bo h
   obtain rfl := oi h; exact rf Tryz.func249 none [.callv (.tup [.v (.int .u32 r2.1), .y r2.2]), .t, .t, .b r6] (pc (k_palingref01_IsHost h3)<|pc h4<|pc h5<|pc (k_palingref01_Group h7)<|pn)
  ·obtain rfl := oi h; exact rf Tryz.func249 none [.callv (.tup [.v (.int .u32 r2.1), .y r2.2]), .t, .f] (pc (k_palingref01_IsHost h3)<|pc h4<|pc h5<|pn)
 ·obtain rfl := oi h; exact rf Tryz.func249 none [.callv (.tup [.v (.int .u32 r2.1), .y r2.2]), .f] (pc (k_palingref01_IsHost h3)<|pc h4<|pn)

theorem k_palingref03_Split_L1 {a1 : ByteArray} : LoopOK Tryz.prog UU 0 37 (subC (codeOf Tryz.f268) [1, 1, 0, 1, 0, 0]) (fun s : (List ByteArray) × Nat × Int => match s with | (l2, n3, v4) => palingref03_Split_L1 a1 l2 n3 v4)
  (fun s : (List ByteArray) × Nat × Int => (match s with | (l2, n3, v4) => [(0, .x a1), (2, .os 0 0), (3, .os 1 n3), (4, .j v4)] : Fr DD)) (fun s : (List ByteArray) × Nat × Int => (match s with | (l2, n3, v4) => [.n 9, .arr 9 l2 n3 false] : Heap DD)) (fun r => match r with | (l20, n21) => .exit 0) (fun r => match r with | (l20, n21) => [(2, .os 0 0), (3, .os 1 n21)]) (fun r => match r with | (l20, n21) => [.n 9, .arr 9 l20 n21 false]) := by
 refine loop_sound3 (fun s q h => ?_) (fun r => ?_)
 ·obtain ⟨l2, n3, v4⟩ := s; replace h : palingref03_Split_L1 a1 l2 n3 v4 = some q := h
  unfold palingref03_Split_L1 at h
  obtain ⟨h5, h⟩|⟨h5, h⟩ := ite_out h
  ·obtain ⟨h6, h⟩|⟨h6, h⟩ := ite_out h
   ·obtain ⟨h7, h⟩|⟨h7, h⟩ := ite_out h
    ·obtain ⟨h8, h⟩|⟨h8, h⟩ := ite_out h
     ·obtain rfl := oi h; exact rl [0, 2, 3, 4] [0, 1] [.t, .t, .obj [] (.w 9 [(⟨#[]⟩ : ByteArray)]), .obj [] (.w 9 (l2 ++ [(⟨#[]⟩ : ByteArray)]))] (pc h5<|pc (of_decide_eq_true h6)<|pc h7<|pc (bs_ob 9 [(⟨#[]⟩ : ByteArray)])<|pc (app_ob 9 (n := n3) (l := l2) (xs := [(⟨#[]⟩ : ByteArray)]) h8)<|pc (rn (List.length [(⟨#[]⟩ : ByteArray)]))<|pn)
     ·cases h
    ·obtain ⟨h9, h⟩|⟨h9, h⟩ := ite_out h
     ·obtain ⟨x10, h11, h⟩ := bo h
      obtain ⟨h12, h⟩|⟨h12, h⟩ := ite_out h
      ·obtain ⟨h13, h⟩|⟨h13, h⟩ := ite_out h
       ·obtain ⟨x14, h15, h⟩ := bo h
        obtain rfl := oi h; exact rl [0, 2, 3, 4] [0, 1] [.t, .f, .row (c9 x10), .row (c9 x14), .obj [] (.arr 9 (List.set l2 (Int.toNat (wr_i64 ((n3 : Int) - 1))) (x10 ++ (ByteArray.extract a1 v4.toNat (Int.toNat (wr_i64 (v4 + 1)))))) n3 false)] (pc h5<|pc (of_decide_eq_true h6)<|pc h7<|pd (rn n3)<|pc (an n3 (lin_ob h9))<|pc (an n3 (obn9 h11))<|pc (sl_ob h12)<|pc (of_decide_eq_true h13)<|pc (an n3 (lin_ob h9))<|pc (st_ob (e := 9) (n := n3) (l := l2) (i := (Int.toNat (wr_i64 ((n3 : Int) - 1)))) (x10 ++ (ByteArray.extract a1 v4.toNat (Int.toNat (wr_i64 (v4 + 1))))) [.v (.string (x10 ++ (ByteArray.extract a1 v4.toNat (Int.toNat (wr_i64 (v4 + 1))))))] (obn9 h15) rfl)<|pn)
       ·cases h
      ·cases h
     ·cases h
   ·cases h
  ·obtain rfl := oi h; exact rl [2, 3] [0, 1] [.f] (pc h5<|pn)
 ·exact Ex.noConfusion

theorem k_palingref03_Split {a1 : ByteArray} {r : ((List ByteArray) × Nat)} (h : palingref03_Split a1 = some r) :
  CallsOK Tryz.prog UU 268 [.x a1] [] ((fun r => match r with | (l24, n25) => .os 0 n25) r) ((fun r => match r with | (l24, n25) => [.arr 9 l24 n25 false]) r) := by
 unfold palingref03_Split at h
 obtain ⟨r23, h22, h⟩ := bo h
 obtain ⟨l20, n21⟩ := r23
 obtain rfl := oi h; exact rf Tryz.func268 (some [1]) [.obj [] (.w 9 [(⟨#[]⟩ : ByteArray)]), .sum [0, 2, 3, 4] [0, 1] (.exit 0) [(2, .os 0 0), (3, .os 1 n21)] [.n 9, .arr 9 l20 n21 false]] (pc (bs_ob 9 [(⟨#[]⟩ : ByteArray)])<|pc (k_palingref03_Split_L1 _ _ h22)<|pn)

theorem k_palingref03_Rising_L1 {a1 : List Int} {a2 : Int} {a3 : Int} : LoopOK Tryz.prog UU 0 52 (subC (codeOf Tryz.f202) [1, 1, 0, 1, 0, 0]) (ρ := Unit ⊕ Unit) (palingref03_Rising_L1 a1 a2 a3)
  (fun v6 : Int => ([(0, .sl 3 a1), (1, .j a2), (2, .j a3), (6, .y false), (7, .j v6)] : Fr DD)) (fun v6 : Int => ([] : Heap DD)) (fun r => match r with | Sum.inl _ => .ret | Sum.inr _ => .exit 0) (fun r => match r with | Sum.inl _ => [(6, .y false)] | Sum.inr _ => [(6, .y false)]) (fun r => match r with | Sum.inl _ => [] | Sum.inr _ => []) := by
 refine loop_sound3 (fun s q h => ?_) (fun r => ?_)
 ·replace h : palingref03_Rising_L1 a1 a2 a3 s = some q := h; revert h; revert s; intro v6 h
  unfold palingref03_Rising_L1 at h
  obtain ⟨h7, h⟩|⟨h7, h⟩ := ite_out h
  ·obtain ⟨x8, h9, h⟩ := bo h
   obtain ⟨h10, h⟩|⟨h10, h⟩ := ite_out h
   ·obtain rfl := oi h; exact rl [6] [] [.t, .row (c3 x8), .t] (pc h7<|pc (ob3 h9)<|pc h10<|pn)
   ·obtain ⟨x11, h12, h⟩ := bo h
    obtain ⟨h13, h⟩|⟨h13, h⟩ := ite_out h
    ·obtain rfl := oi h; exact rl [6] [] [.t, .row (c3 x8), .f, .row (c3 x11), .t] (pc h7<|pc (ob3 h9)<|pc h10<|pc (ob3 h12)<|pc h13<|pn)
    ·obtain ⟨h14, h⟩|⟨h14, h⟩ := ite_out h
     ·obtain ⟨x15, h16, h⟩ := bo h
      obtain ⟨x17, h18, h⟩ := bo h
      obtain ⟨h19, h⟩|⟨h19, h⟩ := ite_out h
      ·obtain rfl := oi h; exact rl [6] [] [.t, .row (c3 x8), .f, .row (c3 x11), .f, .t, .row (c3 x15), .row (c3 x17), .t] (pc h7<|pc (ob3 h9)<|pc h10<|pc (ob3 h12)<|pc h13<|pc h14<|pc (ob3 h16)<|pc (ob3 h18)<|pc h19<|pn)
      ·obtain rfl := oi h; exact rl [0, 1, 2, 6, 7] [] [.t, .row (c3 x8), .f, .row (c3 x11), .f, .t, .row (c3 x15), .row (c3 x17), .f] (pc h7<|pc (ob3 h9)<|pc h10<|pc (ob3 h12)<|pc h13<|pc h14<|pc (ob3 h16)<|pc (ob3 h18)<|pc h19<|pn)
     ·obtain rfl := oi h; exact rl [0, 1, 2, 6, 7] [] [.t, .row (c3 x8), .f, .row (c3 x11), .f, .f] (pc h7<|pc (ob3 h9)<|pc h10<|pc (ob3 h12)<|pc h13<|pc h14<|pn)
  ·obtain rfl := oi h; exact rl [6] [] [.f] (pc h7<|pn)
 ·rcases r with _ | _ <;> exact Ex.noConfusion

theorem k_palingref03_Rising {a1 : List Int} {a2 : Int} {a3 : Int} {r : Bool} (h : palingref03_Rising a1 a2 a3 = some r) :
  CallsOK Tryz.prog UU 202 [.sl 3 a1, .j a2, .j a3] [] (.y r) [] := by
 unfold palingref03_Rising at h
 obtain ⟨h4, h⟩|⟨h4, h⟩ := ite_out h
 ·obtain rfl := oi h; exact rf Tryz.func202 none [.t] (pc h4<|pn)
 ·obtain ⟨h5, h⟩|⟨h5, h⟩ := ite_out h
  ·obtain rfl := oi h; exact rf Tryz.func202 none [.f, .t] (pc h4<|pc h5<|pn)
  ·obtain ⟨r21, h20, h⟩ := bo h
   rcases r21 with _ | _
   ·obtain rfl := oi h; exact rf Tryz.func202 none [.f, .f, .sum [0, 1, 2, 6, 7] [] .ret [(6, .y false)] []] (pc h4<|pc h5<|pc (k_palingref03_Rising_L1 _ _ h20)<|pn)
   ·obtain rfl := oi h; exact rf Tryz.func202 none [.f, .f, .sum [0, 1, 2, 6, 7] [] (.exit 0) [(6, .y false)] []] (pc h4<|pc h5<|pc (k_palingref03_Rising_L1 _ _ h20)<|pn)

theorem k_palingref03_ReadList_L1 {a2 : Int} {a3 : Int} {l6 : List ByteArray} {n7 : Nat} : LoopOK Tryz.prog UU 0 43 (subC (codeOf Tryz.f266) [1, 1, 1, 0, 1, 0, 0]) (fun s : (List Int) × Int => match s with | (l8, v9) => palingref03_ReadList_L1 a2 a3 l6 n7 l8 v9)
  (fun s : (List Int) × Int => (match s with | (l8, v9) => [(1, .j a2), (2, .j a3), (6, .os 0 0), (7, .y false), (8, .os 1 n7), (9, .os 2 l8.length), (10, .j v9)] : Fr DD)) (fun s : (List Int) × Int => (match s with | (l8, v9) => [.n 3, .arr 9 l6 n7 false, .w 3 l8] : Heap DD)) (fun r => match r with | Sum.inl _ => .ret | Sum.inr l23 => .exit 0) (fun r => match r with | Sum.inl _ => [(6, .os 0 0), (7, .y false)] | Sum.inr l23 => [(1, .j a2), (2, .j a3), (6, .os 0 0), (7, .y false), (9, .os 1 l23.length)]) (fun r => match r with | Sum.inl _ => [.n 3] | Sum.inr l23 => [.n 3, .w 3 l23]) := by
 refine loop_sound3 (fun s q h => ?_) (fun r => ?_)
 ·obtain ⟨l8, v9⟩ := s; replace h : palingref03_ReadList_L1 a2 a3 l6 n7 l8 v9 = some q := h
  unfold palingref03_ReadList_L1 at h
  obtain ⟨h10, h⟩|⟨h10, h⟩ := ite_out h
  ·obtain ⟨h11, h⟩|⟨h11, h⟩ := ite_out h
   ·obtain ⟨x12, h13, h⟩ := bo h
    obtain ⟨r14, h15, h⟩ := bo h
    obtain ⟨h16, h⟩|⟨h16, h⟩ := ite_out h
    ·obtain rfl := oi h; exact rl [6, 7] [3] [.t, .row (c9 x12), .callv (.tup [.j r14.1, .y r14.2]), .t] (pc (rn n7)<|pc h10<|pc (an n7 (lin_ob h11))<|pc (an n7 (obn9 h13))<|pc (k_palingref03_Read h15)<|pc h16<|pn)
    ·obtain ⟨h17, h⟩|⟨h17, h⟩ := ite_out h
     ·obtain rfl := oi h; exact rl [1, 2, 6, 7, 8, 9, 10] [0, 1, 2] [.t, .row (c9 x12), .callv (.tup [.j r14.1, .y r14.2]), .f, .obj [] (.w 3 [r14.1]), .obj [] (.w 3 (l8 ++ [r14.1]))] (pc (rn n7)<|pc h10<|pc (an n7 (lin_ob h11))<|pc (an n7 (obn9 h13))<|pc (k_palingref03_Read h15)<|pc h16<|pc (bs_ob 3 [r14.1])<|pc (app_ob 3 (n := l8.length) (l := l8) (xs := [r14.1]) h17)<|pc (rn (List.length [r14.1]))<|pn)
     ·cases h
   ·cases h
  ·obtain rfl := oi h; exact rl [1, 2, 6, 7, 9] [0, 2] [.f] (pc (rn n7)<|pc h10<|pn)
 ·rcases r with _ | _ <;> exact Ex.noConfusion

theorem k_palingref03_ReadList {a1 : ByteArray} {a2 : Int} {a3 : Int} {r : ((List Int) × Bool)} (h : palingref03_ReadList a1 a2 a3 = some r) :
  CallsOK Tryz.prog UU 266 [.x a1, .j a2, .j a3] [] ((fun r => match r with | (l29, v30) => .tup [.os 0 l29.length, .y v30]) r) ((fun r => match r with | (l29, v30) => [.w 3 l29]) r) := by
 unfold palingref03_ReadList at h
 obtain ⟨r4, h5, h⟩ := bo h
 obtain ⟨l6, n7⟩ := r4
 obtain ⟨r25, h24, h⟩ := bo h
 rcases r25 with _ | l23
 ·obtain rfl := oi h; exact rf Tryz.func266 (some [0]) [.callo (.os 0 n7) [.arr 9 l6 n7 false], .sum [1, 2, 6, 7, 8, 9, 10] [0, 1, 2] .ret [(6, .os 0 0), (7, .y false)] [.n 3]] (pc (k_palingref03_Split h5)<|pc (im9 l6)<|pc (k_palingref03_ReadList_L1 _ _ h24)<|pn)
 ·obtain ⟨r26, h27, h⟩ := bo h
  obtain ⟨h28, h⟩|⟨h28, h⟩ := ite_out h
  ·obtain rfl := oi h; exact rf Tryz.func266 (some [2]) [.callo (.os 0 n7) [.arr 9 l6 n7 false], .sum [1, 2, 6, 7, 8, 9, 10] [0, 1, 2] (.exit 0) [(1, .j a2), (2, .j a3), (6, .os 0 0), (7, .y false), (9, .os 1 l23.length)] [.n 3, .w 3 l23], .b r26, .t] (pc (k_palingref03_Split h5)<|pc (im9 l6)<|pc (k_palingref03_ReadList_L1 _ _ h24)<|pc (k_palingref03_Rising h27)<|pc (rn l23.length)<|pc h28<|pn)
  ·obtain rfl := oi h; exact rf Tryz.func266 (some [1]) [.callo (.os 0 n7) [.arr 9 l6 n7 false], .sum [1, 2, 6, 7, 8, 9, 10] [0, 1, 2] (.exit 0) [(1, .j a2), (2, .j a3), (6, .os 0 0), (7, .y false), (9, .os 1 l23.length)] [.n 3, .w 3 l23], .b r26, .f] (pc (k_palingref03_Split h5)<|pc (im9 l6)<|pc (k_palingref03_ReadList_L1 _ _ h24)<|pc (k_palingref03_Rising h27)<|pc (rn l23.length)<|pc h28<|pn)

theorem k_palingref11_list {a1 : ByteArray} {a2 : Int} {r : ((List Int) × Bool)} (h : palingref11_list a1 a2 = some r) :
  CallsOK Tryz.prog UU 250 [.x a1, .j a2] [] ((fun r => match r with | (l8, v9) => .tup [.os 0 l8.length, .y v9]) r) ((fun r => match r with | (l8, v9) => [.w 3 l8]) r) := by
 unfold palingref11_list at h
 obtain ⟨h3, h⟩|⟨h3, h⟩ := ite_out h
 ·obtain rfl := oi h; exact rf Tryz.func250 (some [1]) [.t] (pc h3<|pn)
 ·obtain ⟨r4, h5, h⟩ := bo h
  obtain ⟨l6, v7⟩ := r4
  obtain rfl := oi h; exact rf Tryz.func250 (some [1]) [.f, .callo (.tup [.os 0 l6.length, .y v7]) [.w 3 l6]] (pc h3<|pc (k_palingref03_ReadList h5)<|pc (im3 l6)<|pn)

theorem k_palingref02_digits_L1 {a1 : ByteArray} : LoopOK Tryz.prog UU 0 42 (subC (codeOf Tryz.f267) [1, 1, 1, 0, 1, 0, 0]) (fun s : Int × Int => match s with | (v4, v5) => palingref02_digits_L1 a1 v4 v5)
  (fun s : Int × Int => (match s with | (v4, v5) => [(0, .x a1), (2, .z), (3, .j v4), (4, .j v5)] : Fr DD)) (fun s : Int × Int => (match s with | (v4, v5) => [] : Heap DD)) (fun r => match r with | Sum.inl _ => .ret | Sum.inr v11 => .exit 0) (fun r => match r with | Sum.inl _ => [(2, .j 1000)] | Sum.inr v11 => [(0, .x a1), (2, .z), (3, .j v11)]) (fun r => match r with | Sum.inl _ => [] | Sum.inr v11 => []) := by
 refine loop_sound3 (fun s q h => ?_) (fun r => ?_)
 ·obtain ⟨v4, v5⟩ := s; replace h : palingref02_digits_L1 a1 v4 v5 = some q := h
  unfold palingref02_digits_L1 at h
  obtain ⟨h6, h⟩|⟨h6, h⟩ := ite_out h
  ·obtain ⟨h7, h⟩|⟨h7, h⟩ := ite_out h
   ·obtain ⟨h8, h⟩|⟨h8, h⟩ := ite_out h
    ·obtain rfl := oi h; exact rl [2] [] [.t, .t] (pc h6<|pc (of_decide_eq_true h7)<|pc h8<|pn)
    ·obtain ⟨h9, h⟩|⟨h9, h⟩ := ite_out h
     ·obtain rfl := oi h; exact rl [2] [] [.t, .f, .t] (pc h6<|pc (of_decide_eq_true h7)<|pc h8<|pc (of_decide_eq_true h7)<|pc h9<|pn)
     ·obtain rfl := oi h; exact rl [0, 2, 3, 4] [] [.t, .f, .f] (pc h6<|pc (of_decide_eq_true h7)<|pc h8<|pc (of_decide_eq_true h7)<|pc h9<|pc (of_decide_eq_true h7)<|pn)
   ·cases h
  ·obtain rfl := oi h; exact rl [0, 2, 3] [] [.f] (pc h6<|pn)
 ·rcases r with _ | _ <;> exact Ex.noConfusion

theorem k_palingref02_digits {a1 : ByteArray} {r : Int} (h : palingref02_digits a1 = some r) :
  CallsOK Tryz.prog UU 267 [.x a1] [] (.j r) [] := by
 unfold palingref02_digits at h
 obtain ⟨h2, h⟩|⟨h2, h⟩ := ite_out h
 ·obtain rfl := oi h; exact rf Tryz.func267 none [.t] (pc h2<|pn)
 ·obtain ⟨h3, h⟩|⟨h3, h⟩ := ite_out h
  ·obtain rfl := oi h; exact rf Tryz.func267 none [.f, .t] (pc h2<|pc h3<|pn)
  ·obtain ⟨r13, h12, h⟩ := bo h
   rcases r13 with _ | v11
   ·obtain rfl := oi h; exact rf Tryz.func267 none [.f, .f, .sum [0, 2, 3, 4] [] .ret [(2, .j 1000)] []] (pc h2<|pc h3<|pc (k_palingref02_digits_L1 _ _ h12)<|pn)
   ·obtain ⟨r14, h15, h⟩ := bo h
    obtain ⟨h16, h⟩|⟨h16, h⟩ := ite_out h
    ·obtain rfl := oi h; exact rf Tryz.func267 none [.f, .f, .sum [0, 2, 3, 4] [] (.exit 0) [(0, .x a1), (2, .z), (3, .j v11)] [], .callv (.x r14), .t] (pc h2<|pc h3<|pc (k_palingref02_digits_L1 _ _ h12)<|pc (k_palingref02_number h15)<|pc h16<|pn)
    ·obtain rfl := oi h; exact rf Tryz.func267 none [.f, .f, .sum [0, 2, 3, 4] [] (.exit 0) [(0, .x a1), (2, .z), (3, .j v11)] [], .callv (.x r14), .f] (pc h2<|pc h3<|pc (k_palingref02_digits_L1 _ _ h12)<|pc (k_palingref02_number h15)<|pc h16<|pn)

theorem k_palingref02_Read_J2 {a1 : ByteArray} {v2 : Int} {v3 : Int} {v4 : ByteArray} {v5 : Int} {r : Bool} (h : palingref02_Read_J2 a1 v2 v3 v4 v5 = some r) :
  ExecOK Tryz.prog UU 0 52 (subC (codeOf Tryz.f251) [1, 1, 1, 1, 0, 1, 0, 0, 1, 0, 0, 0, 0]) [(0, .x a1), (2, .v (.int .u32 0)), (3, .y false), (4, .j v2), (5, .j v3), (6, .x v4), (7, .j v5)] [] ((fun r => match r with | v10 => .nor) r) ((fun r => match r with | v10 => [(0, .x a1), (2, .v (.int .u32 0)), (3, .y false), (4, .j v2), (5, .j v3), (6, .x v4), (7, .j v5), (23, .y v10)]) r) ((fun r => match r with | v10 => []) r) := by
 unfold palingref02_Read_J2 at h
 obtain ⟨h7, h⟩|⟨h7, h⟩ := ite_out h
 ·obtain ⟨h8, h⟩|⟨h8, h⟩ := ite_out h
  ·obtain rfl := oi h; exact rl [0, 2, 3, 4, 5, 6, 7, 23] [] [.t] (pc h7<|pc (of_decide_eq_true h8)<|pn)
  ·cases h
 ·obtain rfl := oi h; exact rl [0, 2, 3, 4, 5, 6, 7, 23] [] [.f] (pc h7<|pn)

theorem k_palingref02_Read_L1 {a1 : ByteArray} : LoopOK Tryz.prog UU 0 52 (subC (codeOf Tryz.f251) [1, 1, 1, 1, 0, 1, 0, 0]) (fun s : Int × Int × ByteArray × Int => match s with | (v2, v3, v4, v5) => palingref02_Read_L1 a1 v2 v3 v4 v5)
  (fun s : Int × Int × ByteArray × Int => (match s with | (v2, v3, v4, v5) => [(0, .x a1), (2, .v (.int .u32 0)), (3, .y false), (4, .j v2), (5, .j v3), (6, .x v4), (7, .j v5)] : Fr DD)) (fun s : Int × Int × ByteArray × Int => (match s with | (v2, v3, v4, v5) => [] : Heap DD)) (fun r => match r with | Sum.inl _ => .ret | Sum.inr (v25, v26) => .exit 0) (fun r => match r with | Sum.inl _ => [(2, .v (.int .u32 0)), (3, .y false)] | Sum.inr (v25, v26) => [(2, .v (.int .u32 0)), (3, .y false), (4, .j v25), (5, .j v26)]) (fun r => match r with | Sum.inl _ => [] | Sum.inr (v25, v26) => []) := by
 refine loop_sound3 (fun s q h => ?_) (fun r => ?_)
 ·obtain ⟨v2, v3, v4, v5⟩ := s; replace h : palingref02_Read_L1 a1 v2 v3 v4 v5 = some q := h
  unfold palingref02_Read_L1 at h
  obtain ⟨h6, h⟩|⟨h6, h⟩ := ite_out h
  ·obtain ⟨v10, h11, h⟩ := bo h
   obtain ⟨h13, h⟩|⟨h13, h⟩ := ite_out h
   ·obtain ⟨h14, h⟩|⟨h14, h⟩ := ite_out h
    ·obtain ⟨h15, h⟩|⟨h15, h⟩ := ite_out h
     ·obtain ⟨h16, h⟩|⟨h16, h⟩ := ite_out h
      ·obtain rfl := oi h; exact rl [2, 3] [] [.t, .skp, .skp, .cut [0, 2, 3, 4, 5, 6, 7] [] .nor [(0, .x a1), (2, .v (.int .u32 0)), (3, .y false), (4, .j v2), (5, .j v3), (6, .x v4), (7, .j v5), (23, .y v10)] [], .t, .t] (pc h6<|pc (k_palingref02_Read_J2 h11)<|pc h13<|pc (sl_ob h14)<|pc (of_decide_eq_true h15)<|pc h16<|pn)
      ·obtain rfl := oi h; exact rl [0, 2, 3, 4, 5, 6, 7] [] [.t, .skp, .skp, .cut [0, 2, 3, 4, 5, 6, 7] [] .nor [(0, .x a1), (2, .v (.int .u32 0)), (3, .y false), (4, .j v2), (5, .j v3), (6, .x v4), (7, .j v5), (23, .y v10)] [], .t, .f] (pc h6<|pc (k_palingref02_Read_J2 h11)<|pc h13<|pc (sl_ob h14)<|pc (of_decide_eq_true h15)<|pc h16<|pn)
     ·cases h
    ·cases h
   ·obtain ⟨r17, h18, h⟩ := bo h
    obtain ⟨h19, h⟩|⟨h19, h⟩ := ite_out h
    ·obtain rfl := oi h; exact rl [2, 3] [] [.t, .skp, .skp, .cut [0, 2, 3, 4, 5, 6, 7] [] .nor [(0, .x a1), (2, .v (.int .u32 0)), (3, .y false), (4, .j v2), (5, .j v3), (6, .x v4), (7, .j v5), (23, .y v10)] [], .f, .callv (.j r17), .t] (pc h6<|pc (k_palingref02_Read_J2 h11)<|pc h13<|pc (k_palingref02_digits h18)<|pc h19<|pn)
    ·obtain ⟨h20, h⟩|⟨h20, h⟩ := ite_out h
     ·obtain rfl := oi h; exact rl [2, 3] [] [.t, .skp, .skp, .cut [0, 2, 3, 4, 5, 6, 7] [] .nor [(0, .x a1), (2, .v (.int .u32 0)), (3, .y false), (4, .j v2), (5, .j v3), (6, .x v4), (7, .j v5), (23, .y v10)] [], .f, .callv (.j r17), .f, .t] (pc h6<|pc (k_palingref02_Read_J2 h11)<|pc h13<|pc (k_palingref02_digits h18)<|pc h19<|pc h20<|pn)
     ·obtain ⟨r21, h22, h⟩ := bo h
      obtain rfl := oi h; exact rl [0, 2, 3, 4, 5, 6, 7] [] [.t, .skp, .skp, .cut [0, 2, 3, 4, 5, 6, 7] [] .nor [(0, .x a1), (2, .v (.int .u32 0)), (3, .y false), (4, .j v2), (5, .j v3), (6, .x v4), (7, .j v5), (23, .y v10)] [], .f, .callv (.j r17), .f, .f, .callv (.j r21)] (pc h6<|pc (k_palingref02_Read_J2 h11)<|pc h13<|pc (k_palingref02_digits h18)<|pc h19<|pc h20<|pc (k_palingref02_digits h22)<|pn)
  ·obtain rfl := oi h; exact rl [2, 3, 4, 5] [] [.f] (pc h6<|pn)
 ·rcases r with _ | _ <;> exact Ex.noConfusion

theorem k_palingref02_Read {a1 : ByteArray} {r : Int × Bool} (h : palingref02_Read a1 = some r) :
  CallsOK Tryz.prog UU 251 [.x a1] [] (.tup [.v (.int .u32 r.1), .y r.2]) [] := by
 unfold palingref02_Read at h
 obtain ⟨r28, h27, h⟩ := bo h
 rcases r28 with _ | ⟨v25, v26⟩
 ·obtain rfl := oi h; exact rf Tryz.func251 none [.sum [0, 2, 3, 4, 5, 6, 7] [] .ret [(2, .v (.int .u32 0)), (3, .y false)] []] (pc (k_palingref02_Read_L1 _ _ h27)<|pn)
 ·obtain ⟨h29, h⟩|⟨h29, h⟩ := ite_out h
  ·obtain rfl := oi h; exact rf Tryz.func251 none [.sum [0, 2, 3, 4, 5, 6, 7] [] (.exit 0) [(2, .v (.int .u32 0)), (3, .y false), (4, .j v25), (5, .j v26)] [], .t] (pc (k_palingref02_Read_L1 _ _ h27)<|pc h29<|pn)
  ·obtain rfl := oi h; exact rf Tryz.func251 none [.sum [0, 2, 3, 4, 5, 6, 7] [] (.exit 0) [(2, .v (.int .u32 0)), (3, .y false), (4, .j v25), (5, .j v26)] [], .f] (pc (k_palingref02_Read_L1 _ _ h27)<|pc h29<|pn)

theorem k_palingref03_ReadAddrs_L1 {l4 : List ByteArray} {n5 : Nat} : LoopOK Tryz.prog UU 0 49 (subC (codeOf Tryz.f252) [1, 1, 1, 0, 1, 0, 0]) (fun s : (List Int) × Int => match s with | (l6, v7) => palingref03_ReadAddrs_L1 l4 n5 l6 v7)
  (fun s : (List Int) × Int => (match s with | (l6, v7) => [(2, .os 0 0), (3, .y false), (4, .os 1 n5), (5, .os 2 l6.length), (6, .j v7)] : Fr DD)) (fun s : (List Int) × Int => (match s with | (l6, v7) => [.n 33, .arr 9 l4 n5 false, .w 33 l6] : Heap DD)) (fun r => match r with | Sum.inl _ => .ret | Sum.inr l26 => .exit 0) (fun r => match r with | Sum.inl _ => [(2, .os 0 0), (3, .y false)] | Sum.inr l26 => [(2, .os 0 0), (3, .y false), (5, .os 1 l26.length)]) (fun r => match r with | Sum.inl _ => [.n 33] | Sum.inr l26 => [.n 33, .w 33 l26]) := by
 refine loop_sound3 (fun s q h => ?_) (fun r => ?_)
 ·obtain ⟨l6, v7⟩ := s; replace h : palingref03_ReadAddrs_L1 l4 n5 l6 v7 = some q := h
  unfold palingref03_ReadAddrs_L1 at h
  obtain ⟨h8, h⟩|⟨h8, h⟩ := ite_out h
  ·obtain ⟨h9, h⟩|⟨h9, h⟩ := ite_out h
   ·obtain ⟨x10, h11, h⟩ := bo h
    obtain ⟨r12, h13, h⟩ := bo h
    obtain ⟨h14, h⟩|⟨h14, h⟩ := ite_out h
    ·obtain rfl := oi h; exact rl [2, 3] [3] [.t, .row (c9 x10), .callv (.tup [.v (.int .u32 r12.1), .y r12.2]), .t] (pc (rn n5)<|pc h8<|pc (an n5 (lin_ob h9))<|pc (an n5 (obn9 h11))<|pc (k_palingref02_Read h13)<|pc h14<|pn)
    ·obtain ⟨h15, h⟩|⟨h15, h⟩ := ite_out h
     ·obtain rfl := oi h; exact rl [2, 3] [3] [.t, .row (c9 x10), .callv (.tup [.v (.int .u32 r12.1), .y r12.2]), .f, .t] (pc (rn n5)<|pc h8<|pc (an n5 (lin_ob h9))<|pc (an n5 (obn9 h11))<|pc (k_palingref02_Read h13)<|pc h14<|pc h15<|pn)
     ·obtain ⟨h16, h⟩|⟨h16, h⟩ := ite_out h
      ·obtain ⟨h17, h⟩|⟨h17, h⟩ := ite_out h
       ·obtain ⟨x18, h19, h⟩ := bo h
        obtain ⟨h20, h⟩|⟨h20, h⟩ := ite_out h
        ·obtain rfl := oi h; exact rl [2, 3] [3] [.t, .row (c9 x10), .callv (.tup [.v (.int .u32 r12.1), .y r12.2]), .f, .f, .t, .row (c33 x18), .t] (pc (rn n5)<|pc h8<|pc (an n5 (lin_ob h9))<|pc (an n5 (obn9 h11))<|pc (k_palingref02_Read h13)<|pc h14<|pc h15<|pc h16<|pc (an l6.length (lin_ob h17))<|pc (an l6.length (obn33 h19))<|pc h20<|pn)
        ·obtain ⟨h21, h⟩|⟨h21, h⟩ := ite_out h
         ·obtain rfl := oi h; exact rl [2, 3, 4, 5, 6] [0, 1, 2] [.t, .row (c9 x10), .callv (.tup [.v (.int .u32 r12.1), .y r12.2]), .f, .f, .t, .row (c33 x18), .f, .obj [] (.w 33 [r12.1]), .obj [] (.w 33 (l6 ++ [r12.1]))] (pc (rn n5)<|pc h8<|pc (an n5 (lin_ob h9))<|pc (an n5 (obn9 h11))<|pc (k_palingref02_Read h13)<|pc h14<|pc h15<|pc h16<|pc (an l6.length (lin_ob h17))<|pc (an l6.length (obn33 h19))<|pc h20<|pc (bs_ob 33 [r12.1])<|pc (app_ob 33 (n := l6.length) (l := l6) (xs := [r12.1]) h21)<|pc (rn (List.length [r12.1]))<|pn)
         ·cases h
       ·cases h
      ·obtain ⟨h22, h⟩|⟨h22, h⟩ := ite_out h
       ·obtain rfl := oi h; exact rl [2, 3, 4, 5, 6] [0, 1, 2] [.t, .row (c9 x10), .callv (.tup [.v (.int .u32 r12.1), .y r12.2]), .f, .f, .f, .obj [] (.w 33 [r12.1]), .obj [] (.w 33 (l6 ++ [r12.1]))] (pc (rn n5)<|pc h8<|pc (an n5 (lin_ob h9))<|pc (an n5 (obn9 h11))<|pc (k_palingref02_Read h13)<|pc h14<|pc h15<|pc h16<|pc (bs_ob 33 [r12.1])<|pc (app_ob 33 (n := l6.length) (l := l6) (xs := [r12.1]) h22)<|pc (rn (List.length [r12.1]))<|pn)
       ·cases h
   ·cases h
  ·obtain rfl := oi h; exact rl [2, 3, 5] [0, 2] [.f] (pc (rn n5)<|pc h8<|pn)
 ·rcases r with _ | _ <;> exact Ex.noConfusion

theorem k_palingref03_ReadAddrs {a1 : ByteArray} {r : ((List Int) × Bool)} (h : palingref03_ReadAddrs a1 = some r) :
  CallsOK Tryz.prog UU 252 [.x a1] [] ((fun r => match r with | (l29, v30) => .tup [.os 0 l29.length, .y v30]) r) ((fun r => match r with | (l29, v30) => [.w 33 l29]) r) := by
 unfold palingref03_ReadAddrs at h
 obtain ⟨r2, h3, h⟩ := bo h
 obtain ⟨l4, n5⟩ := r2
 obtain ⟨r28, h27, h⟩ := bo h
 rcases r28 with _ | l26
 ·obtain rfl := oi h; exact rf Tryz.func252 (some [0]) [.callo (.os 0 n5) [.arr 9 l4 n5 false], .sum [2, 3, 4, 5, 6] [0, 1, 2] .ret [(2, .os 0 0), (3, .y false)] [.n 33]] (pc (k_palingref03_Split h3)<|pc (im9 l4)<|pc (k_palingref03_ReadAddrs_L1 _ _ h27)<|pn)
 ·obtain rfl := oi h; exact rf Tryz.func252 (some [1]) [.callo (.os 0 n5) [.arr 9 l4 n5 false], .sum [2, 3, 4, 5, 6] [0, 1, 2] (.exit 0) [(2, .os 0 0), (3, .y false), (5, .os 1 l26.length)] [.n 33, .w 33 l26]] (pc (k_palingref03_Split h3)<|pc (im9 l4)<|pc (k_palingref03_ReadAddrs_L1 _ _ h27)<|pn)

theorem k_palingref02_ReadPrefix_L1 {a1 : ByteArray} : LoopOK Tryz.prog UU 0 47 (subC (codeOf Tryz.f253) [1, 1, 0, 0, 0]) (ρ := Int) (palingref02_ReadPrefix_L1 a1)
  (fun v2 : Int => ([(0, .x a1), (2, .o 0), (3, .y false), (4, .j v2)] : Fr DD)) (fun v2 : Int => ([.box 103 [.v (.int .u32 0), .z] false] : Heap DD)) (fun r => match r with | v7 => .exit 0) (fun r => match r with | v7 => [(0, .x a1), (2, .o 0), (3, .y false), (4, .j v7)]) (fun r => match r with | v7 => [.box 103 [.v (.int .u32 0), .z] false]) := by
 refine loop_sound3 (fun s q h => ?_) (fun r => ?_)
 ·replace h : palingref02_ReadPrefix_L1 a1 s = some q := h; revert h; revert s; intro v2 h
  unfold palingref02_ReadPrefix_L1 at h
  obtain ⟨h3, h⟩|⟨h3, h⟩ := ite_out h
  ·obtain ⟨h4, h⟩|⟨h4, h⟩ := ite_out h
   ·obtain ⟨h5, h⟩|⟨h5, h⟩ := ite_out h
    ·obtain rfl := oi h; exact rl [0, 2, 3, 4] [0] [.t, .t] (pc h3<|pc (of_decide_eq_true h4)<|pc h5<|pn)
    ·obtain rfl := oi h; exact rl [0, 2, 3, 4] [0] [.t, .f] (pc h3<|pc (of_decide_eq_true h4)<|pc h5<|pn)
   ·cases h
  ·obtain rfl := oi h; exact rl [0, 2, 3, 4] [0] [.f] (pc h3<|pn)
 ·exact Ex.noConfusion

theorem k_palingref02_ReadPrefix {a1 : ByteArray} {r : Api_Prefix × Bool} (h : palingref02_ReadPrefix a1 = some r) :
  CallsOK Tryz.prog UU 253 [.x a1] [] (.tup [.agg (c103 r.1), .y r.2]) [] := by
 unfold palingref02_ReadPrefix at h
 obtain ⟨v7, h8, h⟩ := bo h
 obtain ⟨h10, h⟩|⟨h10, h⟩ := ite_out h
 ·obtain rfl := oi h; exact rf Tryz.func253 none [.sum [0, 2, 3, 4] [0] (.exit 0) [(0, .x a1), (2, .o 0), (3, .y false), (4, .j v7)] [.box 103 [.v (.int .u32 0), .z] false], .t] (pc (k_palingref02_ReadPrefix_L1 _ _ h8)<|pc h10<|pn)
 ·obtain ⟨h11, h⟩|⟨h11, h⟩ := ite_out h
  ·obtain ⟨r12, h13, h⟩ := bo h
   obtain ⟨h14, h⟩|⟨h14, h⟩ := ite_out h
   ·obtain ⟨r15, h16, h⟩ := bo h
    obtain ⟨h17, h⟩|⟨h17, h⟩ := ite_out h
    ·obtain rfl := oi h; exact rf Tryz.func253 none [.sum [0, 2, 3, 4] [0] (.exit 0) [(0, .x a1), (2, .o 0), (3, .y false), (4, .j v7)] [.box 103 [.v (.int .u32 0), .z] false], .f, .callv (.tup [.v (.int .u32 r12.1), .y r12.2]), .callv (.j r15), .t] (pc (k_palingref02_ReadPrefix_L1 _ _ h8)<|pc h10<|pc (sl_ob h11)<|pc (k_palingref02_Read h13)<|pc (sl_ob h14)<|pc (k_palingref02_digits h16)<|pc h17<|pn)
    ·obtain ⟨h18, h⟩|⟨h18, h⟩ := ite_out h
     ·obtain rfl := oi h; exact rf Tryz.func253 none [.sum [0, 2, 3, 4] [0] (.exit 0) [(0, .x a1), (2, .o 0), (3, .y false), (4, .j v7)] [.box 103 [.v (.int .u32 0), .z] false], .f, .callv (.tup [.v (.int .u32 r12.1), .y r12.2]), .callv (.j r15), .f, .t] (pc (k_palingref02_ReadPrefix_L1 _ _ h8)<|pc h10<|pc (sl_ob h11)<|pc (k_palingref02_Read h13)<|pc (sl_ob h14)<|pc (k_palingref02_digits h16)<|pc h17<|pc h18<|pn)
     ·obtain rfl := oi h; exact rf Tryz.func253 none [.sum [0, 2, 3, 4] [0] (.exit 0) [(0, .x a1), (2, .o 0), (3, .y false), (4, .j v7)] [.box 103 [.v (.int .u32 0), .z] false], .f, .callv (.tup [.v (.int .u32 r12.1), .y r12.2]), .callv (.j r15), .f, .f] (pc (k_palingref02_ReadPrefix_L1 _ _ h8)<|pc h10<|pc (sl_ob h11)<|pc (k_palingref02_Read h13)<|pc (sl_ob h14)<|pc (k_palingref02_digits h16)<|pc h17<|pc h18<|pn)
   ·cases h
  ·cases h

theorem k_palingref02_size_L1 : LoopOK Tryz.prog UU 0 14 (subC (codeOf Tryz.f232) [1, 1, 0, 1, 0, 0]) (fun s : Int × Int => match s with | (v2, v3) => palingref02_size_L1 v2 v3)
  (fun s : Int × Int => (match s with | (v2, v3) => [(2, .z), (3, .j v2), (4, .j v3)] : Fr DD)) (fun s : Int × Int => (match s with | (v2, v3) => [] : Heap DD)) (fun r => match r with | v6 => .exit 0) (fun r => match r with | v6 => [(2, .z), (3, .j v6)]) (fun r => match r with | v6 => []) := by
 refine loop_sound3 (fun s q h => ?_) (fun r => ?_)
 ·obtain ⟨v2, v3⟩ := s; replace h : palingref02_size_L1 v2 v3 = some q := h
  unfold palingref02_size_L1 at h
  obtain ⟨h4, h⟩|⟨h4, h⟩ := ite_out h
  ·obtain rfl := oi h; exact rl [2, 3, 4] [] [.t] (pc h4<|pn)
  ·obtain rfl := oi h; exact rl [2, 3] [] [.f] (pc h4<|pn)
 ·exact Ex.noConfusion

theorem k_palingref02_size {a1 : Api_Prefix} {r : Int} (h : palingref02_size a1 = some r) :
  CallsOK Tryz.prog UU 232 [.agg (c103 a1)] [] (.j r) [] := by
 unfold palingref02_size at h
 obtain ⟨v6, h7, h⟩ := bo h
 obtain rfl := oi h; exact rf Tryz.func232 none [.sum [2, 3, 4] [] (.exit 0) [(2, .z), (3, .j v6)] []] (pc (k_palingref02_size_L1 _ _ h7)<|pn)

theorem k_palingref02_First {a1 : Api_Prefix} {r : Int} (h : palingref02_First a1 = some r) :
  CallsOK Tryz.prog UU 190 [.agg (c103 a1)] [] (.v (.int .u32 r)) [] := by
 unfold palingref02_First at h
 obtain ⟨r2, h3, h⟩ := bo h
 obtain ⟨h4, h⟩|⟨h4, h⟩ := ite_out h
 ·obtain rfl := oi h; exact rf Tryz.func190 none [.b r2, .t] (pc (k_palingref02_Right h3)<|pc h4<|pn)
 ·obtain ⟨r5, h6, h⟩ := bo h
  obtain ⟨h7, h⟩|⟨h7, h⟩ := ite_out h
  ·obtain ⟨r8, h9, h⟩ := bo h
   obtain rfl := oi h; exact rf Tryz.func190 none [.b r2, .f, .callv (.j r5), .callv (.j r8)] (pc (k_palingref02_Right h3)<|pc h4<|pc (k_palingref02_size h6)<|pc (ne0_ob h7)<|pc (k_palingref02_size h9)<|pn)
  ·cases h

theorem k_palingref02_Last {a1 : Api_Prefix} {r : Int} (h : palingref02_Last a1 = some r) :
  CallsOK Tryz.prog UU 191 [.agg (c103 a1)] [] (.v (.int .u32 r)) [] := by
 unfold palingref02_Last at h
 obtain ⟨r2, h3, h⟩ := bo h
 obtain ⟨h4, h⟩|⟨h4, h⟩ := ite_out h
 ·obtain rfl := oi h; exact rf Tryz.func191 none [.b r2, .t] (pc (k_palingref02_Right h3)<|pc h4<|pn)
 ·obtain ⟨r5, h6, h⟩ := bo h
  obtain ⟨r7, h8, h⟩ := bo h
  obtain rfl := oi h; exact rf Tryz.func191 none [.b r2, .f, .callv (.v (.int .u32 r5)), .callv (.j r7)] (pc (k_palingref02_Right h3)<|pc h4<|pc (k_palingref02_First h6)<|pc (k_palingref02_size h8)<|pn)

theorem k_palingref11_Subnet {a1 : Api_Prefix} {r : Bool} (h : palingref11_Subnet a1 = some r) :
  CallsOK Tryz.prog UU 254 [.agg (c103 a1)] [] (.y r) [] := by
 unfold palingref11_Subnet at h
 obtain ⟨h2, h⟩|⟨h2, h⟩ := ite_out h
 ·obtain ⟨h3, h⟩|⟨h3, h⟩ := ite_out h
  ·obtain ⟨r4, h5, h⟩ := bo h
   obtain ⟨h6, h⟩|⟨h6, h⟩ := ite_out h
   ·obtain ⟨r7, h8, h⟩ := bo h
    obtain rfl := oi h; exact rf Tryz.func254 none [.t, .t, .callv (.v (.int .u32 r4)), .t, .callv (.v (.int .u32 r7))] (pc h2<|pc h3<|pc (k_palingref02_First h5)<|pc h6<|pc (k_palingref02_Last h8)<|pn)
   ·obtain rfl := oi h; exact rf Tryz.func254 none [.t, .t, .callv (.v (.int .u32 r4)), .f] (pc h2<|pc h3<|pc (k_palingref02_First h5)<|pc h6<|pn)
  ·obtain rfl := oi h; exact rf Tryz.func254 none [.t, .f] (pc h2<|pc h3<|pn)
 ·obtain rfl := oi h; exact rf Tryz.func254 none [.f] (pc h2<|pn)

theorem k_palingref11_word_own {a1 : Int} {a2 : ByteArray} {a3 : Int} {a4 : Int} {a5 : Int} {a6 : ByteArray} {a7 : ByteArray} {a8 : ByteArray} {a9 : ByteArray} {a10 : ByteArray} {a11 : Int} {a12 : Int} {a13 : Int} {a14 : Int} {a15 : Int} {a16 : Int} {a17 : List Int} {a18 : List Int} {a19 : List Int} {a20 : List Int} {r : (ByteArray × ByteArray × ByteArray × ByteArray × ByteArray × Int × Int × Int × Int × Int × Int × Int) ⊕ ((List Int) × Int) ⊕ ((List Int) × Int) ⊕ ((List Int) × Int)} (h : palingref11_word_own a1 a2 a3 a4 a5 a6 a7 a8 a9 a10 a11 a12 a13 a14 a15 a16 a17 a18 a19 a20 = some r) :
  CallsOK Tryz.prog UU 225 [.v (.int .u8 a1), .x a2, .j a3, .o 0] [.box 37 [.j a4, .j a5, .x a6, .x a7, .x a8, .x a9, .x a10, .v (.int .u64 a11), .v (.int .u32 a12), .j a13, .j a14, .j a15, .j a16, .os 1 a17.length, .os 2 a18.length, .os 3 a19.length, .os 4 a20.length] false, .w 3 a17, .w 3 a18, .w 3 a19, .w 33 a20] ((fun r => match r with | Sum.inl (v97, v98, v99, v100, v101, v102, v103, v104, v105, v106, v107, v108) => .j v108 | Sum.inr (Sum.inl (l109, v110)) => .j v110 | Sum.inr (Sum.inr (Sum.inl (l111, v112))) => .j v112 | Sum.inr (Sum.inr (Sum.inr (l113, v114))) => .j v114) r) ((fun r => match r with | Sum.inl (v97, v98, v99, v100, v101, v102, v103, v104, v105, v106, v107, v108) => [.box 37 [.j a4, .j a5, .x v97, .x v98, .x v99, .x v100, .x v101, .v (.int .u64 v102), .v (.int .u32 v103), .j v104, .j v105, .j v106, .j v107, .os 1 a17.length, .os 2 a18.length, .os 3 a19.length, .os 4 a20.length] false, .w 3 a17, .w 3 a18, .w 3 a19, .w 33 a20] | Sum.inr (Sum.inl (l109, v110)) => [.box 37 [.j a4, .j a5, .x a6, .x a7, .x a8, .x a9, .x a10, .v (.int .u64 a11), .v (.int .u32 a12), .j a13, .j a14, .j a15, .j a16, .os 5 l109.length, .os 2 a18.length, .os 3 a19.length, .os 4 a20.length] false, .w 3 a17, .w 3 a18, .w 3 a19, .w 33 a20, .w 3 l109] | Sum.inr (Sum.inr (Sum.inl (l111, v112))) => [.box 37 [.j a4, .j a5, .x a6, .x a7, .x a8, .x a9, .x a10, .v (.int .u64 a11), .v (.int .u32 a12), .j a13, .j a14, .j a15, .j a16, .os 1 a17.length, .os 2 a18.length, .os 3 a19.length, .os 5 l111.length] false, .w 3 a17, .w 3 a18, .w 3 a19, .w 33 a20, .w 33 l111] | Sum.inr (Sum.inr (Sum.inr (l113, v114))) => [.box 37 [.j a4, .j a5, .x a6, .x a7, .x a8, .x a9, .x a10, .v (.int .u64 a11), .v (.int .u32 a12), .j a13, .j a14, .j a15, .j a16, .os 1 a17.length, .os 3 a19.length, .os 5 l113.length, .os 4 a20.length] false, .w 3 a17, .w 3 a18, .w 3 a19, .w 33 a20, .w 3 l113]) r) := by
 unfold palingref11_word_own at h
 obtain ⟨h21, h⟩|⟨h21, h⟩ := ite_out h
 ·obtain ⟨r22, h23, h⟩ := bo h
  obtain ⟨h24, h⟩|⟨h24, h⟩ := ite_out h
  ·obtain rfl := oi h; exact rf Tryz.func225 (some [0, 1, 2, 3, 4]) [.t, .b r22, .t] (pc h21<|pc (k_palingref03_Name h23)<|pc h24<|pn)
  ·obtain ⟨r25, h26, h⟩ := bo h
   obtain ⟨v27, v28, v29, v30, v31⟩ := r25
   obtain rfl := oi h; exact rf Tryz.func225 (some [0, 1, 2, 3, 4]) [.t, .b r22, .f, .callm [0, 1, 2, 3, 4] (.tup []) [.box 37 [.j a4, .j a5, .x v27, .x v28, .x v29, .x v30, .x v31, .v (.int .u64 a11), .v (.int .u32 a12), .j a13, .j a14, .j a15, .j a16, .os 1 a17.length, .os 2 a18.length, .os 3 a19.length, .os 4 a20.length] false, .w 3 a17, .w 3 a18, .w 3 a19, .w 33 a20]] (pc h21<|pc (k_palingref03_Name h23)<|pc h24<|pc (k_palingref11_name_own h26)<|pn)
 ·obtain ⟨h32, h⟩|⟨h32, h⟩ := ite_out h
  ·obtain ⟨h33, h⟩|⟨h33, h⟩ := ite_out h
   ·obtain ⟨h34, h⟩|⟨h34, h⟩ := ite_out h
    ·obtain rfl := oi h; exact rf Tryz.func225 (some [0, 1, 2, 3, 4]) [.f, .t, .t, .t] (pc h21<|pc h32<|pc h33<|pc h34<|pn)
    ·obtain rfl := oi h; exact rf Tryz.func225 (some [0, 1, 2, 3, 4]) [.f, .t, .t, .f] (pc h21<|pc h32<|pc h33<|pc h34<|pn)
   ·obtain rfl := oi h; exact rf Tryz.func225 (some [0, 1, 2, 3, 4]) [.f, .t, .f] (pc h21<|pc h32<|pc h33<|pn)
  ·obtain ⟨h35, h⟩|⟨h35, h⟩ := ite_out h
   ·obtain ⟨r36, h37, h⟩ := bo h
    obtain ⟨h38, h⟩|⟨h38, h⟩ := ite_out h
    ·obtain rfl := oi h; exact rf Tryz.func225 (some [0, 1, 2, 3, 4]) [.f, .f, .t, .callv (.tup [.j r36.1, .y r36.2]), .t] (pc h21<|pc h32<|pc h35<|pc (k_palingref03_Read h37)<|pc h38<|pn)
    ·obtain rfl := oi h; exact rf Tryz.func225 (some [0, 1, 2, 3, 4]) [.f, .f, .t, .callv (.tup [.j r36.1, .y r36.2]), .f] (pc h21<|pc h32<|pc h35<|pc (k_palingref03_Read h37)<|pc h38<|pn)
   ·obtain ⟨h39, h⟩|⟨h39, h⟩ := ite_out h
    ·obtain ⟨r40, h41, h⟩ := bo h
     obtain ⟨h42, h⟩|⟨h42, h⟩ := ite_out h
     ·obtain rfl := oi h; exact rf Tryz.func225 (some [0, 1, 2, 3, 4]) [.f, .f, .f, .t, .callv (.tup [.j r40.1, .y r40.2]), .t] (pc h21<|pc h32<|pc h35<|pc h39<|pc (k_palingref03_Read h41)<|pc h42<|pn)
     ·obtain rfl := oi h; exact rf Tryz.func225 (some [0, 1, 2, 3, 4]) [.f, .f, .f, .t, .callv (.tup [.j r40.1, .y r40.2]), .f] (pc h21<|pc h32<|pc h35<|pc h39<|pc (k_palingref03_Read h41)<|pc h42<|pn)
    ·obtain ⟨h43, h⟩|⟨h43, h⟩ := ite_out h
     ·obtain ⟨r44, h45, h⟩ := bo h
      obtain ⟨h46, h⟩|⟨h46, h⟩ := ite_out h
      ·obtain ⟨r47, h48, h⟩ := bo h
       obtain ⟨h49, h⟩|⟨h49, h⟩ := ite_out h
       ·obtain rfl := oi h; exact rf Tryz.func225 (some [0, 1, 2, 3, 4]) [.f, .f, .f, .f, .t, .callv (.tup [.v (.int .u64 r44.1), .y r44.2]), .t, .b r47, .t] (pc h21<|pc h32<|pc h35<|pc h39<|pc h43<|pc (k_palingref01_Read h45)<|pc h46<|pc (k_palingref11_Station h48)<|pc h49<|pn)
       ·obtain rfl := oi h; exact rf Tryz.func225 (some [0, 1, 2, 3, 4]) [.f, .f, .f, .f, .t, .callv (.tup [.v (.int .u64 r44.1), .y r44.2]), .t, .b r47, .f] (pc h21<|pc h32<|pc h35<|pc h39<|pc h43<|pc (k_palingref01_Read h45)<|pc h46<|pc (k_palingref11_Station h48)<|pc h49<|pn)
      ·obtain rfl := oi h; exact rf Tryz.func225 (some [0, 1, 2, 3, 4]) [.f, .f, .f, .f, .t, .callv (.tup [.v (.int .u64 r44.1), .y r44.2]), .f, .t] (pc h21<|pc h32<|pc h35<|pc h39<|pc h43<|pc (k_palingref01_Read h45)<|pc h46<|pc (rfl : (!false) = true)<|pn)
     ·obtain ⟨h50, h⟩|⟨h50, h⟩ := ite_out h
      ·obtain ⟨r51, h52, h⟩ := bo h
       obtain ⟨h53, h⟩|⟨h53, h⟩ := ite_out h
       ·obtain rfl := oi h; exact rf Tryz.func225 (some [0, 1, 2, 3, 4]) [.f, .f, .f, .f, .f, .t, .callv (.tup [.j r51.1, .y r51.2]), .t] (pc h21<|pc h32<|pc h35<|pc h39<|pc h43<|pc h50<|pc (k_palingref03_Read h52)<|pc h53<|pn)
       ·obtain rfl := oi h; exact rf Tryz.func225 (some [0, 1, 2, 3, 4]) [.f, .f, .f, .f, .f, .t, .callv (.tup [.j r51.1, .y r51.2]), .f] (pc h21<|pc h32<|pc h35<|pc h39<|pc h43<|pc h50<|pc (k_palingref03_Read h52)<|pc h53<|pn)
      ·obtain ⟨h54, h⟩|⟨h54, h⟩ := ite_out h
       ·obtain ⟨r55, h56, h⟩ := bo h
        obtain ⟨h57, h⟩|⟨h57, h⟩ := ite_out h
        ·obtain rfl := oi h; exact rf Tryz.func225 (some [0, 1, 2, 3, 4]) [.f, .f, .f, .f, .f, .f, .t, .callv (.tup [.j r55.1, .y r55.2]), .t, .f] (pc h21<|pc h32<|pc h35<|pc h39<|pc h43<|pc h50<|pc h54<|pc (k_palingref03_Read h56)<|pc h57<|pc (rfl : (!true) = false)<|pn)
        ·obtain ⟨h58, h⟩|⟨h58, h⟩ := ite_out h
         ·obtain rfl := oi h; exact rf Tryz.func225 (some [0, 1, 2, 3, 4]) [.f, .f, .f, .f, .f, .f, .t, .callv (.tup [.j r55.1, .y r55.2]), .f, .t] (pc h21<|pc h32<|pc h35<|pc h39<|pc h43<|pc h50<|pc h54<|pc (k_palingref03_Read h56)<|pc h57<|pc h58<|pn)
         ·obtain rfl := oi h; exact rf Tryz.func225 (some [0, 1, 2, 3, 4]) [.f, .f, .f, .f, .f, .f, .t, .callv (.tup [.j r55.1, .y r55.2]), .f, .f] (pc h21<|pc h32<|pc h35<|pc h39<|pc h43<|pc h50<|pc h54<|pc (k_palingref03_Read h56)<|pc h57<|pc h58<|pn)
       ·obtain ⟨h59, h⟩|⟨h59, h⟩ := ite_out h
        ·obtain ⟨r60, h61, h⟩ := bo h
         obtain ⟨l62, v63⟩ := r60
         obtain ⟨h64, h⟩|⟨h64, h⟩ := ite_out h
         ·obtain rfl := oi h; exact rf Tryz.func225 (some [0, 1, 2, 3, 4, 5]) [.f, .f, .f, .f, .f, .f, .f, .t, .callo (.tup [.os 0 l62.length, .y v63]) [.w 3 l62], .t] (pc h21<|pc h32<|pc h35<|pc h39<|pc h43<|pc h50<|pc h54<|pc h59<|pc (k_palingref11_list h61)<|pc (im3 l62)<|pc h64<|pn)
         ·obtain rfl := oi h; exact rf Tryz.func225 (some [0, 1, 2, 3, 4, 5]) [.f, .f, .f, .f, .f, .f, .f, .t, .callo (.tup [.os 0 l62.length, .y v63]) [.w 3 l62], .f] (pc h21<|pc h32<|pc h35<|pc h39<|pc h43<|pc h50<|pc h54<|pc h59<|pc (k_palingref11_list h61)<|pc (im3 l62)<|pc h64<|pn)
        ·obtain ⟨h65, h⟩|⟨h65, h⟩ := ite_out h
         ·obtain ⟨r66, h67, h⟩ := bo h
          obtain ⟨h68, h⟩|⟨h68, h⟩ := ite_out h
          ·obtain rfl := oi h; exact rf Tryz.func225 (some [0, 1, 2, 3, 4]) [.f, .f, .f, .f, .f, .f, .f, .f, .t, .callv (.tup [.j r66.1, .y r66.2]), .t] (pc h21<|pc h32<|pc h35<|pc h39<|pc h43<|pc h50<|pc h54<|pc h59<|pc h65<|pc (k_palingref03_Read h67)<|pc h68<|pn)
          ·obtain rfl := oi h; exact rf Tryz.func225 (some [0, 1, 2, 3, 4]) [.f, .f, .f, .f, .f, .f, .f, .f, .t, .callv (.tup [.j r66.1, .y r66.2]), .f] (pc h21<|pc h32<|pc h35<|pc h39<|pc h43<|pc h50<|pc h54<|pc h59<|pc h65<|pc (k_palingref03_Read h67)<|pc h68<|pn)
         ·obtain ⟨h69, h⟩|⟨h69, h⟩ := ite_out h
          ·obtain ⟨r70, h71, h⟩ := bo h
           obtain ⟨h72, h⟩|⟨h72, h⟩ := ite_out h
           ·obtain ⟨h73, h⟩|⟨h73, h⟩ := ite_out h
            ·obtain rfl := oi h; exact rf Tryz.func225 (some [0, 1, 2, 3, 4]) [.f, .f, .f, .f, .f, .f, .f, .f, .f, .t, .callv (.tup [.v (.int .u32 r70.1), .y r70.2]), .t, .t] (pc h21<|pc h32<|pc h35<|pc h39<|pc h43<|pc h50<|pc h54<|pc h59<|pc h65<|pc h69<|pc (k_palingref02_Read h71)<|pc h72<|pc h73<|pn)
            ·obtain rfl := oi h; exact rf Tryz.func225 (some [0, 1, 2, 3, 4]) [.f, .f, .f, .f, .f, .f, .f, .f, .f, .t, .callv (.tup [.v (.int .u32 r70.1), .y r70.2]), .t, .f] (pc h21<|pc h32<|pc h35<|pc h39<|pc h43<|pc h50<|pc h54<|pc h59<|pc h65<|pc h69<|pc (k_palingref02_Read h71)<|pc h72<|pc h73<|pn)
           ·obtain rfl := oi h; exact rf Tryz.func225 (some [0, 1, 2, 3, 4]) [.f, .f, .f, .f, .f, .f, .f, .f, .f, .t, .callv (.tup [.v (.int .u32 r70.1), .y r70.2]), .f, .t] (pc h21<|pc h32<|pc h35<|pc h39<|pc h43<|pc h50<|pc h54<|pc h59<|pc h65<|pc h69<|pc (k_palingref02_Read h71)<|pc h72<|pc (rfl : (!false) = true)<|pn)
          ·obtain ⟨h74, h⟩|⟨h74, h⟩ := ite_out h
           ·obtain ⟨r75, h76, h⟩ := bo h
            obtain ⟨l77, v78⟩ := r75
            obtain ⟨h79, h⟩|⟨h79, h⟩ := ite_out h
            ·obtain ⟨h80, h⟩|⟨h80, h⟩ := ite_out h
             ·obtain ⟨x81, h82, h⟩ := bo h
              obtain ⟨h83, h⟩|⟨h83, h⟩ := ite_out h
              ·obtain rfl := oi h; exact rf Tryz.func225 (some [0, 1, 2, 3, 4, 5]) [.f, .f, .f, .f, .f, .f, .f, .f, .f, .f, .t, .callo (.tup [.os 0 l77.length, .y v78]) [.w 33 l77], .t, .row (c33 x81), .t] (pc h21<|pc h32<|pc h35<|pc h39<|pc h43<|pc h50<|pc h54<|pc h59<|pc h65<|pc h69<|pc h74<|pc (k_palingref03_ReadAddrs h76)<|pc (im33 l77)<|pc h79<|pc (an l77.length (lin_ob h80))<|pc (an l77.length (obn33 h82))<|pc h83<|pn)
              ·obtain rfl := oi h; exact rf Tryz.func225 (some [0, 1, 2, 3, 4, 5]) [.f, .f, .f, .f, .f, .f, .f, .f, .f, .f, .t, .callo (.tup [.os 0 l77.length, .y v78]) [.w 33 l77], .t, .row (c33 x81), .f] (pc h21<|pc h32<|pc h35<|pc h39<|pc h43<|pc h50<|pc h54<|pc h59<|pc h65<|pc h69<|pc h74<|pc (k_palingref03_ReadAddrs h76)<|pc (im33 l77)<|pc h79<|pc (an l77.length (lin_ob h80))<|pc (an l77.length (obn33 h82))<|pc h83<|pn)
             ·cases h
            ·obtain rfl := oi h; exact rf Tryz.func225 (some [0, 1, 2, 3, 4, 5]) [.f, .f, .f, .f, .f, .f, .f, .f, .f, .f, .t, .callo (.tup [.os 0 l77.length, .y v78]) [.w 33 l77], .f, .t] (pc h21<|pc h32<|pc h35<|pc h39<|pc h43<|pc h50<|pc h54<|pc h59<|pc h65<|pc h69<|pc h74<|pc (k_palingref03_ReadAddrs h76)<|pc (im33 l77)<|pc h79<|pc (rfl : (!false) = true)<|pn)
           ·obtain ⟨h84, h⟩|⟨h84, h⟩ := ite_out h
            ·obtain ⟨r85, h86, h⟩ := bo h
             obtain ⟨l87, v88⟩ := r85
             obtain ⟨h89, h⟩|⟨h89, h⟩ := ite_out h
             ·obtain rfl := oi h; exact rf Tryz.func225 (some [0, 1, 2, 3, 4, 5]) [.f, .f, .f, .f, .f, .f, .f, .f, .f, .f, .f, .t, .callo (.tup [.os 0 l87.length, .y v88]) [.w 3 l87], .t] (pc h21<|pc h32<|pc h35<|pc h39<|pc h43<|pc h50<|pc h54<|pc h59<|pc h65<|pc h69<|pc h74<|pc h84<|pc (k_palingref11_list h86)<|pc (im3 l87)<|pc h89<|pn)
             ·obtain rfl := oi h; exact rf Tryz.func225 (some [0, 1, 2, 3, 4, 5]) [.f, .f, .f, .f, .f, .f, .f, .f, .f, .f, .f, .t, .callo (.tup [.os 0 l87.length, .y v88]) [.w 3 l87], .f] (pc h21<|pc h32<|pc h35<|pc h39<|pc h43<|pc h50<|pc h54<|pc h59<|pc h65<|pc h69<|pc h74<|pc h84<|pc (k_palingref11_list h86)<|pc (im3 l87)<|pc h89<|pn)
            ·obtain ⟨h90, h⟩|⟨h90, h⟩ := ite_out h
             ·obtain ⟨r91, h92, h⟩ := bo h
              obtain ⟨h93, h⟩|⟨h93, h⟩ := ite_out h
              ·obtain ⟨r94, h95, h⟩ := bo h
               obtain ⟨h96, h⟩|⟨h96, h⟩ := ite_out h
               ·obtain rfl := oi h; exact rf Tryz.func225 (some [0, 1, 2, 3, 4]) [.f, .f, .f, .f, .f, .f, .f, .f, .f, .f, .f, .f, .t, .callv (.tup [.agg (c103 r91.1), .y r91.2]), .t, .b r94, .t] (pc h21<|pc h32<|pc h35<|pc h39<|pc h43<|pc h50<|pc h54<|pc h59<|pc h65<|pc h69<|pc h74<|pc h84<|pc h90<|pc (k_palingref02_ReadPrefix h92)<|pc h93<|pc (k_palingref11_Subnet h95)<|pc h96<|pn)
               ·obtain rfl := oi h; exact rf Tryz.func225 (some [0, 1, 2, 3, 4]) [.f, .f, .f, .f, .f, .f, .f, .f, .f, .f, .f, .f, .t, .callv (.tup [.agg (c103 r91.1), .y r91.2]), .t, .b r94, .f] (pc h21<|pc h32<|pc h35<|pc h39<|pc h43<|pc h50<|pc h54<|pc h59<|pc h65<|pc h69<|pc h74<|pc h84<|pc h90<|pc (k_palingref02_ReadPrefix h92)<|pc h93<|pc (k_palingref11_Subnet h95)<|pc h96<|pn)
              ·obtain rfl := oi h; exact rf Tryz.func225 (some [0, 1, 2, 3, 4]) [.f, .f, .f, .f, .f, .f, .f, .f, .f, .f, .f, .f, .t, .callv (.tup [.agg (c103 r91.1), .y r91.2]), .f, .t] (pc h21<|pc h32<|pc h35<|pc h39<|pc h43<|pc h50<|pc h54<|pc h59<|pc h65<|pc h69<|pc h74<|pc h84<|pc h90<|pc (k_palingref02_ReadPrefix h92)<|pc h93<|pc (rfl : (!false) = true)<|pn)
             ·obtain rfl := oi h; exact rf Tryz.func225 (some [0, 1, 2, 3, 4]) [.f, .f, .f, .f, .f, .f, .f, .f, .f, .f, .f, .f, .f] (pc h21<|pc h32<|pc h35<|pc h39<|pc h43<|pc h50<|pc h54<|pc h59<|pc h65<|pc h69<|pc h74<|pc h84<|pc h90<|pn)

theorem k_palingref11_members_L1 {a1 : Api_Line} : LoopOK Tryz.prog UU 0 28 (subC (codeOf Tryz.f226) [1, 0, 1, 0, 0]) (ρ := Unit ⊕ Unit) (palingref11_members_L1 a1)
  (fun v2 : Int => ([(1, .o 0), (2, .y false), (3, .j v2)] : Fr DD)) (fun v2 : Int => ([.box 37 (c37 a1) false] : Heap DD)) (fun r => match r with | Sum.inl _ => .ret | Sum.inr _ => .exit 0) (fun r => match r with | Sum.inl _ => [(2, .y false)] | Sum.inr _ => [(1, .o 0), (2, .y false)]) (fun r => match r with | Sum.inl _ => [] | Sum.inr _ => [.box 37 (c37 a1) false]) := by
 refine loop_sound3 (fun s q h => ?_) (fun r => ?_)
 ·replace h : palingref11_members_L1 a1 s = some q := h; revert h; revert s; intro v2 h
  unfold palingref11_members_L1 at h
  obtain ⟨h3, h⟩|⟨h3, h⟩ := ite_out h
  ·obtain ⟨x4, h5, h⟩ := bo h
   obtain ⟨h6, h⟩|⟨h6, h⟩ := ite_out h
   ·obtain rfl := oi h; exact rl [2] [] [.t, .row (c3 x4), .t] (pc h3<|pc (ob3 h5)<|pc h6<|pn)
   ·obtain rfl := oi h; exact rl [1, 2, 3] [0] [.t, .row (c3 x4), .f] (pc h3<|pc (ob3 h5)<|pc h6<|pn)
  ·obtain rfl := oi h; exact rl [1, 2] [0] [.f] (pc h3<|pn)
 ·rcases r with _ | _ <;> exact Ex.noConfusion

theorem k_palingref11_members {a1 : Api_Line} {r : Bool} (h : palingref11_members a1 = some r) :
  CallsOK Tryz.prog UU 226 [.agg (c37 a1)] [] (.y r) [] := by
 unfold palingref11_members at h
 obtain ⟨r8, h7, h⟩ := bo h
 rcases r8 with _ | _
 ·obtain rfl := oi h; exact rf Tryz.func226 none [.sum [1, 2, 3] [0] .ret [(2, .y false)] []] (pc (k_palingref11_members_L1 _ _ h7)<|pn)
 ·obtain ⟨h9, h⟩|⟨h9, h⟩ := ite_out h
  ·obtain rfl := oi h; exact rf Tryz.func226 none [.sum [1, 2, 3] [0] (.exit 0) [(1, .o 0), (2, .y false)] [.box 37 (c37 a1) false], .t] (pc (k_palingref11_members_L1 _ _ h7)<|pc h9<|pn)
  ·obtain rfl := oi h; exact rf Tryz.func226 none [.sum [1, 2, 3] [0] (.exit 0) [(1, .o 0), (2, .y false)] [.box 37 (c37 a1) false], .f] (pc (k_palingref11_members_L1 _ _ h7)<|pc h9<|pn)

end Go.Eng
