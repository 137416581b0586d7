/- Part of the proof of BridgeSteps: printed mirrors of the functions, or their contracts. No conditions. -/
import Derived.Test.YtngflgclljfmjaaGreatMAK2
set_option linter.unusedVariables false
set_option maxRecDepth 100000
namespace Go.Eng
open Go Go.Proofs
theorem k_mac_Put_own_L1 {a2 : Int} : LoopOK Tryz.prog UU 1 19 (subC (codeOf Tryz.f252) [1, 0, 1, 0, 0]) (fun s : (List Int) × Int => match s with | (l3, v4) => mac_Put_own_L1 a2 l3 v4)
    (fun s : (List Int) × Int => (match s with | (l3, v4) => [(0, .os 0 l3.length), (1, .v (.int .u64 a2)), (4, .os 1 0), (6, .j v4)] : Fr DD)) (fun s : (List Int) × Int => (match s with | (l3, v4) => [.arr 5 l3 l3.length false, .n 5] : Heap DD)) (fun r => match r with | l12 => .exit 0) (fun r => match r with | l12 => [(0, .os 0 l12.length), (4, .os 1 0)]) (fun r => match r with | l12 => [.arr 5 l12 l12.length false, .n 5]) := by
  refine loop_sound3 (fun s q h => ?_) (fun r => ?_)
  · obtain ⟨l3, v4⟩ := s; replace h : mac_Put_own_L1 a2 l3 v4 = some q := h
    unfold mac_Put_own_L1 at h
    obtain ⟨h5, h⟩|⟨h5, h⟩ := ite_out h
    · obtain ⟨r6, h7, h⟩ := bo h
      obtain ⟨h8, h⟩|⟨h8, h⟩ := ite_out h
      · obtain ⟨h9, h⟩|⟨h9, h⟩ := ite_out h
        · injection h with h; subst h; exact rl [0, 1, 4, 6] [0, 1] [.t, .callv (.v (.int .u64 r6)), .obj [] (.arr 5 [(wr_u8 (Int.fdiv a2 (2 ^ (min r6.toNat 64))) : Int)] (List.length [(wr_u8 (Int.fdiv a2 (2 ^ (min r6.toNat 64))) : Int)]) false), .obj [] (.arr 5 (l3 ++ [(wr_u8 (Int.fdiv a2 (2 ^ (min r6.toNat 64))) : Int)]) (List.length (l3 ++ [(wr_u8 (Int.fdiv a2 (2 ^ (min r6.toNat 64))) : Int)])) false)] (pc h5<|pc (k_mac_shift h7)<|pc (of_decide_eq_true h8)<|pc (bs_ob 5 [(wr_u8 (Int.fdiv a2 (2 ^ (min r6.toNat 64))) : Int)])<|pc (app_ob 5 (n := l3.length) (l := l3) (xs := [(wr_u8 (Int.fdiv a2 (2 ^ (min r6.toNat 64))) : Int)]) h9)<|pc ((rn (List.length [(wr_u8 (Int.fdiv a2 (2 ^ (min r6.toNat 64))) : Int)])))<|pn)
        · cases h
      · cases h
    · injection h with h; subst h; exact rl [0, 4] [0, 1] [.f] (pc h5<|pn)
  · exact Ex.noConfusion

theorem k_mac_Put_own {a1 : List Int} {a2 : Int} {r : ((List Int))} (h : mac_Put_own a1 a2 = some r) :
    CallsOK Tryz.prog UU 252 [.os 0 a1.length, .v (.int .u64 a2)] [.arr 5 a1 a1.length false] ((fun r => match r with | l15 => .os 0 l15.length) r) ((fun r => match r with | l15 => [.arr 5 l15 l15.length false]) r) := by
  unfold mac_Put_own at h
  obtain ⟨l12, h13, h⟩ := bo h
  injection h with h; subst h; exact rf Tryz.func252 (some [0]) [.sum [0, 1, 4, 6] [0, 1] (.exit 0) [(0, .os 0 l12.length), (4, .os 1 0)] [.arr 5 l12 l12.length false, .n 5]] (pc (k_mac_Put_own_L1 _ _ h13)<|pn)

theorem k_ether_Put {a1 : Api_Frame} {r : ((List Int) × Int)} (h : ether_Put a1 = some r) :
    CallsOK Tryz.prog UU 201 [.agg (c62 a1)] [] ((fun r => match r with | (l15, v16) => .tup [.os 0 l15.length, .j v16]) r) ((fun r => match r with | (l15, v16) => [.arr 5 l15 l15.length false]) r) := by
  unfold ether_Put at h
  obtain ⟨h2, h⟩|⟨h2, h⟩ := ite_out h
  · injection h with h; subst h; exact rf Tryz.func201 (some [2]) [.t] (pc h2<|pn)
  · obtain ⟨h3, h⟩|⟨h3, h⟩ := ite_out h
    · injection h with h; subst h; exact rf Tryz.func201 (some [2]) [.f, .t] (pc h2<|pc h3<|pn)
    · obtain ⟨h4, h⟩|⟨h4, h⟩ := ite_out h
      · injection h with h; subst h; exact rf Tryz.func201 (some [2]) [.f, .f, .t] (pc h2<|pc h3<|pc h4<|pn)
      · obtain ⟨h5, h⟩|⟨h5, h⟩ := ite_out h
        · injection h with h; subst h; exact rf Tryz.func201 (some [2]) [.f, .f, .f, .t] (pc h2<|pc h3<|pc h4<|pc h5<|pn)
        · obtain ⟨h6, h⟩|⟨h6, h⟩ := ite_out h
          · injection h with h; subst h; exact rf Tryz.func201 (some [2]) [.f, .f, .f, .f, .t] (pc h2<|pc h3<|pc h4<|pc h5<|pc h6<|pn)
          · obtain ⟨l9, h8, h⟩ := bo h
            obtain ⟨l12, h11, h⟩ := bo h
            obtain ⟨h13, h⟩|⟨h13, h⟩ := ite_out h
            · obtain ⟨h14, h⟩|⟨h14, h⟩ := ite_out h
              · injection h with h; subst h; exact rf Tryz.func201 (some [2]) [.f, .f, .f, .f, .f, .sum [2] [] .nor [] [.box 62 (c62 a1) false, .n 5, .arr 5 l9 l9.length false], .skp, .callm [2] (.os 0 l9.length) [.arr 5 l9 l9.length false], .callm [2] (.os 0 l12.length) [.arr 5 l12 l12.length false], .sum [9] [] .nor [] [.box 62 (c62 a1) false, .n 5, .arr 5 (l12 ++ [(wr_u8 (Int.fdiv a1.type_ (2 ^ 8)) : Int), (wr_u8 a1.type_ : Int)]) (List.length (l12 ++ [(wr_u8 (Int.fdiv a1.type_ (2 ^ 8)) : Int), (wr_u8 a1.type_ : Int)])) false], .obj [] (.arr 5 [(wr_u8 (Int.fdiv a1.type_ (2 ^ 8)) : Int), (wr_u8 a1.type_ : Int)] (List.length [(wr_u8 (Int.fdiv a1.type_ (2 ^ 8)) : Int), (wr_u8 a1.type_ : Int)]) false), .obj [] (.arr 5 (l12 ++ [(wr_u8 (Int.fdiv a1.type_ (2 ^ 8)) : Int), (wr_u8 a1.type_ : Int)]) (List.length (l12 ++ [(wr_u8 (Int.fdiv a1.type_ (2 ^ 8)) : Int), (wr_u8 a1.type_ : Int)])) false), .obj [] (.arr 5 ((l12 ++ [(wr_u8 (Int.fdiv a1.type_ (2 ^ 8)) : Int), (wr_u8 a1.type_ : Int)]) ++ a1.body) (List.length ((l12 ++ [(wr_u8 (Int.fdiv a1.type_ (2 ^ 8)) : Int), (wr_u8 a1.type_ : Int)]) ++ a1.body)) false)] (pc h2<|pc h3<|pc h4<|pc h5<|pc h6<|pc ((rfl : ([.box 62 (c62 a1) false, .n 5, .arr 5 l9 l9.length false] : Heap DD) = [.box 62 (c62 a1) false, .n 5, .arr 5 l9 l9.length false]))<|pc (k_mac_Put_own h8)<|pc ((rfl : (.op 0 1 0 1 : AV DD) = .op 0 1 0 1))<|pc ((rfl : (.v (.int .u64 a1.src) : AV DD) = .v (.int .u64 a1.src)))<|pc (k_mac_Put_own h11)<|pc ((show (0 : Int) ≤ 8 from by decide))<|pc (bs_ob 5 [(wr_u8 (Int.fdiv a1.type_ (2 ^ 8)) : Int), (wr_u8 a1.type_ : Int)])<|pc ((rfl : ([.box 62 (c62 a1) false, .n 5, .arr 5 (l12 ++ [(wr_u8 (Int.fdiv a1.type_ (2 ^ 8)) : Int), (wr_u8 a1.type_ : Int)]) (List.length (l12 ++ [(wr_u8 (Int.fdiv a1.type_ (2 ^ 8)) : Int), (wr_u8 a1.type_ : Int)])) false] : Heap DD) = [.box 62 (c62 a1) false, .n 5, .arr 5 (l12 ++ [(wr_u8 (Int.fdiv a1.type_ (2 ^ 8)) : Int), (wr_u8 a1.type_ : Int)]) (List.length (l12 ++ [(wr_u8 (Int.fdiv a1.type_ (2 ^ 8)) : Int), (wr_u8 a1.type_ : Int)])) false]))<|pc (app_ob 5 (n := l12.length) (l := l12) (xs := [(wr_u8 (Int.fdiv a1.type_ (2 ^ 8)) : Int), (wr_u8 a1.type_ : Int)]) h13)<|pc ((rfl : (.op 0 1 0 3 : AV DD) = .op 0 1 0 3))<|pc ((rfl : (.sl 5 a1.body : AV DD) = .sl 5 a1.body))<|pc (app_ob 5 (n := (List.length (l12 ++ [(wr_u8 (Int.fdiv a1.type_ (2 ^ 8)) : Int), (wr_u8 a1.type_ : Int)]))) (l := l12 ++ [(wr_u8 (Int.fdiv a1.type_ (2 ^ 8)) : Int), (wr_u8 a1.type_ : Int)]) (xs := a1.body) h14)<|pn)
              · cases h
            · cases h

theorem k_leave_whole_bare {a1 : Leave_whole} {a2 : Api_Frame} {a3 : Int} {r : ((List Int) × Int)} (h : leave_whole_bare a1 a2 a3 = some r) :
    CallsOK Tryz.prog UU 125 [.agg (c170 a1), .agg (c62 a2), .j a3] [] ((fun r => match r with | (l8, v9) => .tup [.os 0 l8.length, .j v9]) r) ((fun r => match r with | (l8, v9) => [.arr 5 l8 l8.length false]) r) := by
  unfold leave_whole_bare at h
  obtain ⟨r4, h5, h⟩ := bo h
  obtain ⟨l6, v7⟩ := r4
  injection h with h; subst h; exact rf Tryz.func125 (some [3]) [.callo (.tup [.os 0 l6.length, .j v7]) [.arr 5 l6 l6.length false]] (pc (k_ether_Put h5)<|pc (im5 l6)<|pn)

theorem k_tag_Add_J1 {a1 : Api_Frame} {a2 : Int} {a3 : Int} {r : Bool} (h : tag_Add_J1 a1 a2 a3 = some r) :
    ExecOK Tryz.prog UU 0 72 (subC (codeOf Tryz.f200) [1, 0, 0, 0]) [(1, .j a2), (2, .j a3), (3, .op 0 1 0 0), (6, .op 1 1 0 0), (7, .z)] [.box 62 (c62 a1) false, .box 62 [.v (.int .u64 0), .v (.int .u64 0), .z, .os 2 0] false, .n 5] ((fun r => match r with | v11 => .nor) r) ((fun r => match r with | v11 => [(1, .j a2), (2, .j a3), (3, .op 0 1 0 0), (6, .op 1 1 0 0), (7, .z), (10, .v (.bool v11))]) r) ((fun r => match r with | v11 => [.box 62 (c62 a1) false, .box 62 [.v (.int .u64 0), .v (.int .u64 0), .z, .os 2 0] false, .n 5]) r) := by
  unfold tag_Add_J1 at h
  obtain ⟨r4, h5, h⟩ := bo h
  obtain ⟨h6, h⟩|⟨h6, h⟩ := ite_out h
  · injection h with h; subst h; exact rl [1, 2, 3, 6, 7, 10] [0, 1, 2] [.b r4, .t] (pc (k_tag_Is h5)<|pc h6<|pn)
  · obtain ⟨h7, h⟩|⟨h7, h⟩ := ite_out h
    · injection h with h; subst h; exact rl [1, 2, 3, 6, 7, 10] [0, 1, 2] [.b r4, .f, .t] (pc (k_tag_Is h5)<|pc h6<|pc h7<|pn)
    · obtain ⟨h8, h⟩|⟨h8, h⟩ := ite_out h
      · injection h with h; subst h; exact rl [1, 2, 3, 6, 7, 10] [0, 1, 2] [.b r4, .f, .f, .t] (pc (k_tag_Is h5)<|pc h6<|pc h7<|pc h8<|pn)
      · obtain ⟨h9, h⟩|⟨h9, h⟩ := ite_out h
        · injection h with h; subst h; exact rl [1, 2, 3, 6, 7, 10] [0, 1, 2] [.b r4, .f, .f, .f, .t] (pc (k_tag_Is h5)<|pc h6<|pc h7<|pc h8<|pc h9<|pn)
        · injection h with h; subst h; exact rl [1, 2, 3, 6, 7, 10] [0, 1, 2] [.b r4, .f, .f, .f, .f] (pc (k_tag_Is h5)<|pc h6<|pc h7<|pc h8<|pc h9<|pn)

theorem k_tag_Add_J2 {a1 : Api_Frame} {a2 : Int} {a3 : Int} {r : Bool} (h : tag_Add_J2 a1 a2 a3 = some r) :
    ExecOK Tryz.prog UU 0 72 (subC (codeOf Tryz.f200) [1, 0, 0, 1, 1, 0]) [(1, .j a2), (2, .j a3), (3, .op 0 1 0 0), (6, .op 1 1 0 0), (7, .z)] [.box 62 (c62 a1) false, .box 62 [.v (.int .u64 0), .v (.int .u64 0), .z, .os 2 0] false, .n 5] ((fun r => match r with | v17 => .nor) r) ((fun r => match r with | v17 => [(1, .j a2), (2, .j a3), (3, .op 0 1 0 0), (6, .op 1 1 0 0), (7, .z), (30, .v (.bool v17))]) r) ((fun r => match r with | v17 => [.box 62 (c62 a1) false, .box 62 [.v (.int .u64 0), .v (.int .u64 0), .z, .os 2 0] false, .n 5]) r) := by
  unfold tag_Add_J2 at h
  obtain ⟨h15, h⟩|⟨h15, h⟩ := ite_out h
  · injection h with h; subst h; exact rl [1, 2, 3, 6, 7, 30] [0, 1, 2] [.t] (pc h15<|pn)
  · injection h with h; subst h; exact rl [1, 2, 3, 6, 7, 30] [0, 1, 2] [.f] (pc h15<|pn)

def b0_k_tag_Add (a1 : Api_Frame) (a2 : Int) (a3 : Int) : List (AObj DD) := [.box 62 (c62 a1) false, .box 62 [.v (.int .u64 0), .v (.int .u64 0), .z, .os 2 0] false, .n 5, .arr 5 ([(wr_u8 (Int.fdiv (bits_or .i64 (wr_i64 (a3 * 2 ^ 12)) a2) (2 ^ 8)) : Int), (wr_u8 (bits_or .i64 (wr_i64 (a3 * 2 ^ 12)) a2) : Int), (wr_u8 (Int.fdiv a1.type_ (2 ^ 8)) : Int), (wr_u8 a1.type_ : Int)] ++ a1.body) (List.length ([(wr_u8 (Int.fdiv (bits_or .i64 (wr_i64 (a3 * 2 ^ 12)) a2) (2 ^ 8)) : Int), (wr_u8 (bits_or .i64 (wr_i64 (a3 * 2 ^ 12)) a2) : Int), (wr_u8 (Int.fdiv a1.type_ (2 ^ 8)) : Int), (wr_u8 a1.type_ : Int)] ++ a1.body)) false]
def b1_k_tag_Add (a1 : Api_Frame) : List (AObj DD) := [.box 62 (c62 a1) false, .box 62 [.v (.int .u64 0), .v (.int .u64 0), .z, .os 2 0] false, .n 5]
theorem k_tag_Add {a1 : Api_Frame} {a2 : Int} {a3 : Int} {r : ((List Int) × Int × Int × Int × Int)} (h : tag_Add a1 a2 a3 = some r) :
    CallsOK Tryz.prog UU 200 [.agg (c62 a1), .j a2, .j a3] [] ((fun r => match r with | (l23, v24, v25, v26, v27) => .tup [.agg [.v (.int .u64 v24), .v (.int .u64 v25), .j v26, .os 0 l23.length], .j v27]) r) ((fun r => match r with | (l23, v24, v25, v26, v27) => [.arr 5 l23 l23.length false]) r) := by
  unfold tag_Add at h
  obtain ⟨v11, h12, h⟩ := bo h
  obtain ⟨h14, h⟩|⟨h14, h⟩ := ite_out h
  · injection h with h; subst h; exact rf Tryz.func200 (some [3]) [.skp, .skp, .cut [1, 2, 3, 6, 7] [0, 2, 1] .nor [(1, .j a2), (2, .j a3), (3, .op 0 1 0 0), (6, .op 1 1 0 0), (7, .z), (10, .v (.bool v11))] (b1_k_tag_Add a1), .t] (pc (k_tag_Add_J1 h12)<|pc h14<|pn)
  · obtain ⟨v17, h18, h⟩ := bo h
    obtain ⟨h20, h⟩|⟨h20, h⟩ := ite_out h
    · injection h with h; subst h; exact rf Tryz.func200 (some [3]) [.skp, .skp, .cut [1, 2, 3, 6, 7] [0, 2, 1] .nor [(1, .j a2), (2, .j a3), (3, .op 0 1 0 0), (6, .op 1 1 0 0), (7, .z), (10, .v (.bool v11))] (b1_k_tag_Add a1), .f, .cut [1, 2, 3, 6, 7] [0, 1, 2] .nor [(1, .j a2), (2, .j a3), (3, .op 0 1 0 0), (6, .op 1 1 0 0), (7, .z), (30, .v (.bool v17))] (b1_k_tag_Add a1), .t] (pc (k_tag_Add_J1 h12)<|pc h14<|pc (k_tag_Add_J2 h18)<|pc h20<|pn)
    · obtain ⟨h21, h⟩|⟨h21, h⟩ := ite_out h
      · injection h with h; subst h; exact rf Tryz.func200 (some [3]) [.skp, .skp, .cut [1, 2, 3, 6, 7] [0, 2, 1] .nor [(1, .j a2), (2, .j a3), (3, .op 0 1 0 0), (6, .op 1 1 0 0), (7, .z), (10, .v (.bool v11))] (b1_k_tag_Add a1), .f, .cut [1, 2, 3, 6, 7] [0, 1, 2] .nor [(1, .j a2), (2, .j a3), (3, .op 0 1 0 0), (6, .op 1 1 0 0), (7, .z), (30, .v (.bool v17))] (b1_k_tag_Add a1), .f, .t] (pc (k_tag_Add_J1 h12)<|pc h14<|pc (k_tag_Add_J2 h18)<|pc h20<|pc h21<|pn)
      · obtain ⟨h22, h⟩|⟨h22, h⟩ := ite_out h
        · injection h with h; subst h; exact rf Tryz.func200 (some [3]) [.skp, .skp, .cut [1, 2, 3, 6, 7] [0, 2, 1] .nor [(1, .j a2), (2, .j a3), (3, .op 0 1 0 0), (6, .op 1 1 0 0), (7, .z), (10, .v (.bool v11))] (b1_k_tag_Add a1), .f, .cut [1, 2, 3, 6, 7] [0, 1, 2] .nor [(1, .j a2), (2, .j a3), (3, .op 0 1 0 0), (6, .op 1 1 0 0), (7, .z), (30, .v (.bool v17))] (b1_k_tag_Add a1), .f, .f, .obj [] (.arr 5 [(wr_u8 (Int.fdiv (bits_or .i64 (wr_i64 (a3 * 2 ^ 12)) a2) (2 ^ 8)) : Int), (wr_u8 (bits_or .i64 (wr_i64 (a3 * 2 ^ 12)) a2) : Int), (wr_u8 (Int.fdiv a1.type_ (2 ^ 8)) : Int), (wr_u8 a1.type_ : Int)] (List.length [(wr_u8 (Int.fdiv (bits_or .i64 (wr_i64 (a3 * 2 ^ 12)) a2) (2 ^ 8)) : Int), (wr_u8 (bits_or .i64 (wr_i64 (a3 * 2 ^ 12)) a2) : Int), (wr_u8 (Int.fdiv a1.type_ (2 ^ 8)) : Int), (wr_u8 a1.type_ : Int)]) false), .sum [7] [] .nor [] (b0_k_tag_Add a1 a2 a3), .obj [] (.arr 5 ([(wr_u8 (Int.fdiv (bits_or .i64 (wr_i64 (a3 * 2 ^ 12)) a2) (2 ^ 8)) : Int), (wr_u8 (bits_or .i64 (wr_i64 (a3 * 2 ^ 12)) a2) : Int), (wr_u8 (Int.fdiv a1.type_ (2 ^ 8)) : Int), (wr_u8 a1.type_ : Int)] ++ a1.body) (List.length ([(wr_u8 (Int.fdiv (bits_or .i64 (wr_i64 (a3 * 2 ^ 12)) a2) (2 ^ 8)) : Int), (wr_u8 (bits_or .i64 (wr_i64 (a3 * 2 ^ 12)) a2) : Int), (wr_u8 (Int.fdiv a1.type_ (2 ^ 8)) : Int), (wr_u8 a1.type_ : Int)] ++ a1.body)) false)] (pc (k_tag_Add_J1 h12)<|pc h14<|pc (k_tag_Add_J2 h18)<|pc h20<|pc h21<|pc ((show (0 : Int) ≤ 12 from by decide))<|pc ((show (0 : Int) ≤ 8 from by decide))<|pc ((show (0 : Int) ≤ 8 from by decide))<|pc (bs_ob 5 [(wr_u8 (Int.fdiv (bits_or .i64 (wr_i64 (a3 * 2 ^ 12)) a2) (2 ^ 8)) : Int), (wr_u8 (bits_or .i64 (wr_i64 (a3 * 2 ^ 12)) a2) : Int), (wr_u8 (Int.fdiv a1.type_ (2 ^ 8)) : Int), (wr_u8 a1.type_ : Int)])<|pc ((rfl : (.op 0 1 0 0 : AV DD) = .op 0 1 0 0))<|pc ((rfl : (.v (.int .u64 a1.dst) : AV DD) = .v (.int .u64 a1.dst)))<|pc ((rfl : (.op 0 1 0 1 : AV DD) = .op 0 1 0 1))<|pc ((rfl : (.v (.int .u64 a1.src) : AV DD) = .v (.int .u64 a1.src)))<|pc ((rfl : ((b0_k_tag_Add a1 a2 a3) : Heap DD) = (b0_k_tag_Add a1 a2 a3)))<|pc (app_ob 5 (n := (List.length [(wr_u8 (Int.fdiv (bits_or .i64 (wr_i64 (a3 * 2 ^ 12)) a2) (2 ^ 8)) : Int), (wr_u8 (bits_or .i64 (wr_i64 (a3 * 2 ^ 12)) a2) : Int), (wr_u8 (Int.fdiv a1.type_ (2 ^ 8)) : Int), (wr_u8 a1.type_ : Int)])) (l := [(wr_u8 (Int.fdiv (bits_or .i64 (wr_i64 (a3 * 2 ^ 12)) a2) (2 ^ 8)) : Int), (wr_u8 (bits_or .i64 (wr_i64 (a3 * 2 ^ 12)) a2) : Int), (wr_u8 (Int.fdiv a1.type_ (2 ^ 8)) : Int), (wr_u8 a1.type_ : Int)]) (xs := a1.body) h22)<|pn)
        · cases h

theorem k_leave_whole_tagged {a1 : Leave_whole} {a2 : Api_Frame} {a3 : Int} {r : ((List Int) × Int)} (h : leave_whole_tagged a1 a2 a3 = some r) :
    CallsOK Tryz.prog UU 123 [.agg (c170 a1), .agg (c62 a2), .j a3] [] ((fun r => match r with | (l16, v17) => .tup [.os 0 l16.length, .j v17]) r) ((fun r => match r with | (l16, v17) => [.arr 5 l16 l16.length false]) r) := by
  unfold leave_whole_tagged at h
  obtain ⟨r4, h5, h⟩ := bo h
  obtain ⟨l6, v7, v8, v9, v10⟩ := r4
  obtain ⟨h11, h⟩|⟨h11, h⟩ := ite_out h
  · injection h with h; subst h; exact rf Tryz.func123 (some [6]) [.callo (.tup [.agg [.v (.int .u64 v7), .v (.int .u64 v8), .j v9, .os 0 l6.length], .j v10]) [.arr 5 l6 l6.length false], .t] (pc (k_tag_Add h5)<|pc (im5 l6)<|pc h11<|pn)
  · obtain ⟨r12, h13, h⟩ := bo h
    obtain ⟨l14, v15⟩ := r12
    injection h with h; subst h; exact rf Tryz.func123 (some [6]) [.callo (.tup [.agg [.v (.int .u64 v7), .v (.int .u64 v8), .j v9, .os 0 l6.length], .j v10]) [.arr 5 l6 l6.length false], .f, .callo (.tup [.os 0 l14.length, .j v15]) [.arr 5 l14 l14.length false]] (pc (k_tag_Add h5)<|pc (im5 l6)<|pc h11<|pc (k_ether_Put h13)<|pc (im5 l14)<|pc (rn l6.length)<|pn)

theorem k_leave_At_J1 {a1 : Api_Net} {a4 : Api_Frame} {x14 : Api_Port} {x16 : Api_Domain} {r : Bool} (h : leave_At_J1 a1 a4 x14 x16 = some r) :
    ExecOK Tryz.prog UU 0 78 (subC (codeOf Tryz.f37) [1, 1, 1, 1, 1, 0, 0, 0]) [(7, .op 0 1 0 0), (8, .os 1 0), (9, .z), (10, .op 2 1 0 0), (11, .op 3 1 0 0), (12, .op 4 1 0 0), (13, .fn (.func 123) [.agg [.sl 91 a1.devices, .sl 56 a1.ports, .sl 112 a1.links, .sl 93 a1.domains, .sl 97 a1.statics, .sl 100 a1.floods, .sl 103 a1.vrfs, .sl 118 a1.irbs]] [])] [.box 62 (c62 a4) false, .n 5, .box 56 (c56 x14) false, .box 93 (c93 x16) false, .box 170 [.sl 91 a1.devices, .sl 56 a1.ports, .sl 112 a1.links, .sl 93 a1.domains, .sl 97 a1.statics, .sl 100 a1.floods, .sl 103 a1.vrfs, .sl 118 a1.irbs] false] ((fun r => match r with | v22 => .nor) r) ((fun r => match r with | v22 => [(7, .op 0 1 0 0), (8, .os 1 0), (9, .z), (10, .op 2 1 0 0), (11, .op 3 1 0 0), (12, .op 4 1 0 0), (13, .fn (.func 123) [.agg [.sl 91 a1.devices, .sl 56 a1.ports, .sl 112 a1.links, .sl 93 a1.domains, .sl 97 a1.statics, .sl 100 a1.floods, .sl 103 a1.vrfs, .sl 118 a1.irbs]] []), (47, .v (.bool v22))]) r) ((fun r => match r with | v22 => [.box 62 (c62 a4) false, .n 5, .box 56 (c56 x14) false, .box 93 (c93 x16) false, .box 170 [.sl 91 a1.devices, .sl 56 a1.ports, .sl 112 a1.links, .sl 93 a1.domains, .sl 97 a1.statics, .sl 100 a1.floods, .sl 103 a1.vrfs, .sl 118 a1.irbs] false]) r) := by
  unfold leave_At_J1 at h
  obtain ⟨h18, h⟩|⟨h18, h⟩ := ite_out h
  · injection h with h; subst h; exact rl [7, 8, 9, 10, 11, 12, 13, 47] [0, 1, 2, 3, 4] [.t] (pc h18<|pn)
  · obtain ⟨r19, h20, h⟩ := bo h
    injection h with h; subst h; exact rl [7, 8, 9, 10, 11, 12, 13, 47] [0, 1, 2, 3, 4] [.f, .b r19] (pc h18<|pc (k_names_Member h20)<|pn)

def b0_k_leave_At (a1 : Api_Net) : AObj DD := .box 170 [.sl 91 a1.devices, .sl 56 a1.ports, .sl 112 a1.links, .sl 93 a1.domains, .sl 97 a1.statics, .sl 100 a1.floods, .sl 103 a1.vrfs, .sl 118 a1.irbs] false
theorem k_leave_At {a1 : Api_Net} {a2 : Int} {a3 : Int} {a4 : Api_Frame} {r : ((List Int) × Int)} (h : leave_At a1 a2 a3 a4 = some r) :
    CallsOK Tryz.prog UU 37 [.agg (c31 a1), .j a2, .j a3, .agg (c62 a4)] [] ((fun r => match r with | (l38, v39) => .tup [.os 0 l38.length, .j v39]) r) ((fun r => match r with | (l38, v39) => [.arr 5 l38 l38.length false]) r) := by
  unfold leave_At at h
  obtain ⟨r5, h6, h⟩ := bo h
  obtain ⟨h7, h⟩|⟨h7, h⟩ := ite_out h
  · injection h with h; subst h; exact rf Tryz.func37 (some [3]) [.b r5, .t] (pc (k_leave_place h6)<|pc h7<|pn)
  · obtain ⟨r8, h9, h⟩ := bo h
    obtain ⟨h10, h⟩|⟨h10, h⟩ := ite_out h
    · injection h with h; subst h; exact rf Tryz.func37 (some [3]) [.b r5, .f, .b r8, .t] (pc (k_leave_place h6)<|pc h7<|pc (k_leave_place h9)<|pc h10<|pn)
    · obtain ⟨r11, h12, h⟩ := bo h
      obtain ⟨h13, h⟩|⟨h13, h⟩ := ite_out h
      · injection h with h; subst h; exact rf Tryz.func37 (some [3]) [.b r5, .f, .b r8, .f, .b r11, .t] (pc (k_leave_place h6)<|pc h7<|pc (k_leave_place h9)<|pc h10<|pc (k_names_Right h12)<|pc h13<|pn)
      · obtain ⟨x14, h15, h⟩ := bo h
        obtain ⟨x16, h17, h⟩ := bo h
        obtain ⟨v22, h23, h⟩ := bo h
        obtain ⟨h25, h⟩|⟨h25, h⟩ := ite_out h
        · injection h with h; subst h; exact rf Tryz.func37 (some [5]) [.b r5, .f, .b r8, .f, .b r11, .f, .row (c56 x14), .row (c93 x16), .skp, .skp, .skp, .cut [7, 8, 9, 10, 11, 12, 13] [1, 2, 3, 5, 14] .nor [(7, .op 0 1 0 0), (8, .os 1 0), (9, .z), (10, .op 2 1 0 0), (11, .op 3 1 0 0), (12, .op 4 1 0 0), (13, .fn (.func 123) [.agg [.sl 91 a1.devices, .sl 56 a1.ports, .sl 112 a1.links, .sl 93 a1.domains, .sl 97 a1.statics, .sl 100 a1.floods, .sl 103 a1.vrfs, .sl 118 a1.irbs]] []), (47, .v (.bool v22))] [.box 62 (c62 a4) false, .n 5, .box 56 (c56 x14) false, .box 93 (c93 x16) false, (b0_k_leave_At a1)], .t] (pc (k_leave_place h6)<|pc h7<|pc (k_leave_place h9)<|pc h10<|pc (k_names_Right h12)<|pc h13<|pc (ob56 h15)<|pc (ob93 h17)<|pc (k_leave_At_J1 h23)<|pc h25<|pn)
        · obtain ⟨r26, h27, h⟩ := bo h
          obtain ⟨h28, h⟩|⟨h28, h⟩ := ite_out h
          · injection h with h; subst h; exact rf Tryz.func37 (some [5]) [.b r5, .f, .b r8, .f, .b r11, .f, .row (c56 x14), .row (c93 x16), .skp, .skp, .skp, .cut [7, 8, 9, 10, 11, 12, 13] [1, 2, 3, 5, 14] .nor [(7, .op 0 1 0 0), (8, .os 1 0), (9, .z), (10, .op 2 1 0 0), (11, .op 3 1 0 0), (12, .op 4 1 0 0), (13, .fn (.func 123) [.agg [.sl 91 a1.devices, .sl 56 a1.ports, .sl 112 a1.links, .sl 93 a1.domains, .sl 97 a1.statics, .sl 100 a1.floods, .sl 103 a1.vrfs, .sl 118 a1.irbs]] []), (47, .v (.bool v22))] [.box 62 (c62 a4) false, .n 5, .box 56 (c56 x14) false, .box 93 (c93 x16) false, (b0_k_leave_At a1)], .f, .b r26, .t] (pc (k_leave_place h6)<|pc h7<|pc (k_leave_place h9)<|pc h10<|pc (k_names_Right h12)<|pc h13<|pc (ob56 h15)<|pc (ob93 h17)<|pc (k_leave_At_J1 h23)<|pc h25<|pc (k_tag_Is h27)<|pc h28<|pn)
          · obtain ⟨h29, h⟩|⟨h29, h⟩ := ite_out h
            · obtain ⟨r30, h31, h⟩ := bo h
              obtain ⟨l32, v33⟩ := r30
              injection h with h; subst h; exact rf Tryz.func37 (some [5]) [.b r5, .f, .b r8, .f, .b r11, .f, .row (c56 x14), .row (c93 x16), .skp, .skp, .skp, .cut [7, 8, 9, 10, 11, 12, 13] [1, 2, 3, 5, 14] .nor [(7, .op 0 1 0 0), (8, .os 1 0), (9, .z), (10, .op 2 1 0 0), (11, .op 3 1 0 0), (12, .op 4 1 0 0), (13, .fn (.func 123) [.agg [.sl 91 a1.devices, .sl 56 a1.ports, .sl 112 a1.links, .sl 93 a1.domains, .sl 97 a1.statics, .sl 100 a1.floods, .sl 103 a1.vrfs, .sl 118 a1.irbs]] []), (47, .v (.bool v22))] [.box 62 (c62 a4) false, .n 5, .box 56 (c56 x14) false, .box 93 (c93 x16) false, (b0_k_leave_At a1)], .f, .b r26, .f, .t, .callo (.tup [.os 0 l32.length, .j v33]) [.arr 5 l32 l32.length false]] (pc (k_leave_place h6)<|pc h7<|pc (k_leave_place h9)<|pc h10<|pc (k_names_Right h12)<|pc h13<|pc (ob56 h15)<|pc (ob93 h17)<|pc (k_leave_At_J1 h23)<|pc h25<|pc (k_tag_Is h27)<|pc h28<|pc h29<|pc (k_leave_whole_bare h31)<|pc (im5 l32)<|pn)
            · obtain ⟨r34, h35, h⟩ := bo h
              obtain ⟨l36, v37⟩ := r34
              injection h with h; subst h; exact rf Tryz.func37 (some [5]) [.b r5, .f, .b r8, .f, .b r11, .f, .row (c56 x14), .row (c93 x16), .skp, .skp, .skp, .cut [7, 8, 9, 10, 11, 12, 13] [1, 2, 3, 5, 14] .nor [(7, .op 0 1 0 0), (8, .os 1 0), (9, .z), (10, .op 2 1 0 0), (11, .op 3 1 0 0), (12, .op 4 1 0 0), (13, .fn (.func 123) [.agg [.sl 91 a1.devices, .sl 56 a1.ports, .sl 112 a1.links, .sl 93 a1.domains, .sl 97 a1.statics, .sl 100 a1.floods, .sl 103 a1.vrfs, .sl 118 a1.irbs]] []), (47, .v (.bool v22))] [.box 62 (c62 a4) false, .n 5, .box 56 (c56 x14) false, .box 93 (c93 x16) false, (b0_k_leave_At a1)], .f, .b r26, .f, .f, .callo (.tup [.os 0 l36.length, .j v37]) [.arr 5 l36 l36.length false]] (pc (k_leave_place h6)<|pc h7<|pc (k_leave_place h9)<|pc h10<|pc (k_names_Right h12)<|pc h13<|pc (ob56 h15)<|pc (ob93 h17)<|pc (k_leave_At_J1 h23)<|pc h25<|pc (k_tag_Is h27)<|pc h28<|pc h29<|pc (k_leave_whole_tagged h35)<|pc (im5 l36)<|pn)

theorem k_bridge_Step_1_own {a1 : Bridge_Out} {a2 : List Int} {a3 : Int} {a4 : List Bridge_Out} {r : (Unit) ⊕ (Unit)} (h : bridge_Step_1_own a1 a2 a3 a4 = some r) :
    CallsOK Tryz.prog UU 110 [.agg (c77 a1), .os 0 a2.length, .j a3, .op 1 1 0 0] [.arr 5 a2 a2.length false, .box 66 [.os 2 a4.length] false, .arr 77 a4 a4.length false] ((fun r => match r with | Sum.inl () => .tup [] | Sum.inr () => .tup []) r) ((fun r => match r with | Sum.inl () => [.arr 5 a2 a2.length false, .box 66 [.os 2 (List.length (a4 ++ [(⟨5, a1.port, a1.domain, [], a1.frame, a3⟩ : Bridge_Out)]))] false, .arr 77 (a4 ++ [(⟨5, a1.port, a1.domain, [], a1.frame, a3⟩ : Bridge_Out)]) (List.length (a4 ++ [(⟨5, a1.port, a1.domain, [], a1.frame, a3⟩ : Bridge_Out)])) false] | Sum.inr () => [.arr 5 a2 a2.length true, .box 66 [.os 2 (List.length (a4 ++ [(⟨a1.kind, a1.port, a1.domain, a2, a1.frame, a1.error⟩ : Bridge_Out)]))] false, .arr 77 (a4 ++ [(⟨a1.kind, a1.port, a1.domain, a2, a1.frame, a1.error⟩ : Bridge_Out)]) (List.length (a4 ++ [(⟨a1.kind, a1.port, a1.domain, a2, a1.frame, a1.error⟩ : Bridge_Out)])) false]) r) := by
  unfold bridge_Step_1_own at h
  obtain ⟨h5, h⟩|⟨h5, h⟩ := ite_out h
  · obtain ⟨h6, h⟩|⟨h6, h⟩ := ite_out h
    · injection h with h; subst h; exact rf Tryz.func110 (some [0, 1, 2]) [.t, .obj [4] (.arr 77 [(⟨5, a1.port, a1.domain, [], a1.frame, a3⟩ : Bridge_Out)] (List.length [(⟨5, a1.port, a1.domain, [], a1.frame, a3⟩ : Bridge_Out)]) false), .obj [] (.arr 77 (a4 ++ [(⟨5, a1.port, a1.domain, [], a1.frame, a3⟩ : Bridge_Out)]) (List.length (a4 ++ [(⟨5, a1.port, a1.domain, [], a1.frame, a3⟩ : Bridge_Out)])) false)] (pc h5<|pc (bs_ob 77 [(⟨5, a1.port, a1.domain, [], a1.frame, a3⟩ : Bridge_Out)])<|pc (rn 0)<|pc (app_ob 77 (n := a4.length) (l := a4) (xs := [(⟨5, a1.port, a1.domain, [], a1.frame, a3⟩ : Bridge_Out)]) h6)<|pc ((rn (List.length [(⟨5, a1.port, a1.domain, [], a1.frame, a3⟩ : Bridge_Out)])))<|pn)
    · cases h
  · obtain ⟨h7, h⟩|⟨h7, h⟩ := ite_out h
    · injection h with h; subst h; exact rf Tryz.func110 (some [0, 1, 2]) [.f, .obj [0] (.arr 77 [(⟨a1.kind, a1.port, a1.domain, a2, a1.frame, a1.error⟩ : Bridge_Out)] (List.length [(⟨a1.kind, a1.port, a1.domain, a2, a1.frame, a1.error⟩ : Bridge_Out)]) false), .obj [] (.arr 77 (a4 ++ [(⟨a1.kind, a1.port, a1.domain, a2, a1.frame, a1.error⟩ : Bridge_Out)]) (List.length (a4 ++ [(⟨a1.kind, a1.port, a1.domain, a2, a1.frame, a1.error⟩ : Bridge_Out)])) false)] (pc h5<|pc (bs_ob 77 [(⟨a1.kind, a1.port, a1.domain, a2, a1.frame, a1.error⟩ : Bridge_Out)])<|pc (rn a2.length)<|pc (app_ob 77 (n := a4.length) (l := a4) (xs := [(⟨a1.kind, a1.port, a1.domain, a2, a1.frame, a1.error⟩ : Bridge_Out)]) h7)<|pc ((rn (List.length [(⟨a1.kind, a1.port, a1.domain, a2, a1.frame, a1.error⟩ : Bridge_Out)])))<|pn)
    · cases h

theorem k_leave_whole_vtep {a1 : Leave_whole} {a2 : Int} {r : Int} (h : leave_whole_vtep a1 a2 = some r) :
    CallsOK Tryz.prog UU 128 [.agg (c170 a1), .j a2] [] (.v (.int .u32 r)) [] := by
  unfold leave_whole_vtep at h
  obtain ⟨x3, h4, h⟩ := bo h
  obtain ⟨x5, h6, h⟩ := bo h
  injection h with h; subst h; exact rf Tryz.func128 none [.row (c93 x3), .row (c91 x5)] (pc (ob93 h4)<|pc (ob91 h6)<|pn)

theorem k_vxlan_Head {a1 : Int} {r : ((List Int) × Int)} (h : vxlan_Head a1 = some r) :
    CallsOK Tryz.prog UU 202 [.j a1] [] ((fun r => match r with | (l4, v5) => .tup [.os 0 l4.length, .j v5]) r) ((fun r => match r with | (l4, v5) => [.arr 5 l4 l4.length false]) r) := by
  unfold vxlan_Head at h
  obtain ⟨h2, h⟩|⟨h2, h⟩ := ite_out h
  · injection h with h; subst h; exact rf Tryz.func202 (some [1]) [.t] (pc h2<|pn)
  · obtain ⟨h3, h⟩|⟨h3, h⟩ := ite_out h
    · injection h with h; subst h; exact rf Tryz.func202 (some [1]) [.f, .t] (pc h2<|pc h3<|pn)
    · injection h with h; subst h; exact rf Tryz.func202 (some [1]) [.f, .f, .obj [] (.arr 5 [(8 : Int), (0 : Int), (0 : Int), (0 : Int), (wr_u8 (Int.fdiv a1 (2 ^ 16)) : Int), (wr_u8 (Int.fdiv a1 (2 ^ 8)) : Int), (wr_u8 a1 : Int), (0 : Int)] (List.length [(8 : Int), (0 : Int), (0 : Int), (0 : Int), (wr_u8 (Int.fdiv a1 (2 ^ 16)) : Int), (wr_u8 (Int.fdiv a1 (2 ^ 8)) : Int), (wr_u8 a1 : Int), (0 : Int)]) false)] (pc h2<|pc h3<|pc ((show (0 : Int) ≤ 16 from by decide))<|pc ((show (0 : Int) ≤ 8 from by decide))<|pc (bs_ob 5 [(8 : Int), (0 : Int), (0 : Int), (0 : Int), (wr_u8 (Int.fdiv a1 (2 ^ 16)) : Int), (wr_u8 (Int.fdiv a1 (2 ^ 8)) : Int), (wr_u8 a1 : Int), (0 : Int)])<|pn)

theorem k_udp_Port {a1 : Int} {a2 : Int} {r : Int} (h : udp_Port a1 a2 = some r) :
    CallsOK Tryz.prog UU 204 [.v (.int .u64 a1), .v (.int .u64 a2)] [] (.j r) [] := by
  unfold udp_Port at h
  injection h with h; subst h; exact rf Tryz.func204 none [] (pc ((show (16384 : Int) ≠ 0 from by decide))<|pn)

theorem k_udp_Put_L1 {a1 : Int} {a2 : Int} {a3 : List Int} : LoopOK Tryz.prog UU 0 51 (subC (codeOf Tryz.f203) [1, 1, 1, 0, 1, 0, 0]) (fun s : (List Int) × Int => match s with | (l9, v10) => udp_Put_L1 a1 a2 a3 l9 v10)
    (fun s : (List Int) × Int => (match s with | (l9, v10) => [(2, .sl 5 a3), (6, .os 0 0), (7, .z), (8, .os 1 l9.length), (35, .agg [.j a1, .j a2, .j (wr_i64 (8 + (a3.length : Int))), .z]), (36, .j v10)] : Fr DD)) (fun s : (List Int) × Int => (match s with | (l9, v10) => [.n 5, .arr 5 l9 l9.length false] : Heap DD)) (fun r => match r with | l24 => .exit 1) (fun r => match r with | l24 => [(2, .sl 5 a3), (6, .os 0 0), (7, .z), (8, .os 1 l24.length)]) (fun r => match r with | l24 => [.n 5, .arr 5 l24 l24.length false]) := by
  refine loop_sound3 (fun s q h => ?_) (fun r => ?_)
  · obtain ⟨l9, v10⟩ := s; replace h : udp_Put_L1 a1 a2 a3 l9 v10 = some q := h
    unfold udp_Put_L1 at h
    obtain ⟨h11, h⟩|⟨h11, h⟩ := ite_out h
    · obtain ⟨h12, h⟩|⟨h12, h⟩ := ite_out h
      · obtain ⟨h13, h⟩|⟨h13, h⟩ := ite_out h
        · injection h with h; subst h; exact rl [2, 6, 7, 8, 35, 36] [0, 1] [.t, .frz [0], .obj [] (.arr 5 [(wr_u8 (Int.fdiv a1 (2 ^ 8)) : Int), (wr_u8 a1 : Int)] (List.length [(wr_u8 (Int.fdiv a1 (2 ^ 8)) : Int), (wr_u8 a1 : Int)]) false), .obj [] (.arr 5 (l9 ++ [(wr_u8 (Int.fdiv a1 (2 ^ 8)) : Int), (wr_u8 a1 : Int)]) (List.length (l9 ++ [(wr_u8 (Int.fdiv a1 (2 ^ 8)) : Int), (wr_u8 a1 : Int)])) false)] (pc h11<|pc (eq_of_beq h12)<|pc ((show (0 : Int) ≤ 8 from by decide))<|pc (bs_ob 5 [(wr_u8 (Int.fdiv a1 (2 ^ 8)) : Int), (wr_u8 a1 : Int)])<|pc (app_ob 5 (n := l9.length) (l := l9) (xs := [(wr_u8 (Int.fdiv a1 (2 ^ 8)) : Int), (wr_u8 a1 : Int)]) h13)<|pc ((rn (List.length [(wr_u8 (Int.fdiv a1 (2 ^ 8)) : Int), (wr_u8 a1 : Int)])))<|pn)
        · cases h
      · obtain ⟨h14, h⟩|⟨h14, h⟩ := ite_out h
        · obtain ⟨h15, h⟩|⟨h15, h⟩ := ite_out h
          · injection h with h; subst h; exact rl [2, 6, 7, 8, 35, 36] [0, 1] [.t, .frz [1], .obj [] (.arr 5 [(wr_u8 (Int.fdiv a2 (2 ^ 8)) : Int), (wr_u8 a2 : Int)] (List.length [(wr_u8 (Int.fdiv a2 (2 ^ 8)) : Int), (wr_u8 a2 : Int)]) false), .obj [] (.arr 5 (l9 ++ [(wr_u8 (Int.fdiv a2 (2 ^ 8)) : Int), (wr_u8 a2 : Int)]) (List.length (l9 ++ [(wr_u8 (Int.fdiv a2 (2 ^ 8)) : Int), (wr_u8 a2 : Int)])) false)] (pc h11<|pc (eq_of_beq h14)<|pc ((show (0 : Int) ≤ 8 from by decide))<|pc (bs_ob 5 [(wr_u8 (Int.fdiv a2 (2 ^ 8)) : Int), (wr_u8 a2 : Int)])<|pc (app_ob 5 (n := l9.length) (l := l9) (xs := [(wr_u8 (Int.fdiv a2 (2 ^ 8)) : Int), (wr_u8 a2 : Int)]) h15)<|pc ((rn (List.length [(wr_u8 (Int.fdiv a2 (2 ^ 8)) : Int), (wr_u8 a2 : Int)])))<|pn)
          · cases h
        · obtain ⟨h16, h⟩|⟨h16, h⟩ := ite_out h
          · obtain ⟨h17, h⟩|⟨h17, h⟩ := ite_out h
            · injection h with h; subst h; exact rl [2, 6, 7, 8, 35, 36] [0, 1] [.t, .frz [2], .obj [] (.arr 5 [(wr_u8 (Int.fdiv (wr_i64 (8 + (a3.length : Int))) (2 ^ 8)) : Int), (wr_u8 (wr_i64 (8 + (a3.length : Int))) : Int)] (List.length [(wr_u8 (Int.fdiv (wr_i64 (8 + (a3.length : Int))) (2 ^ 8)) : Int), (wr_u8 (wr_i64 (8 + (a3.length : Int))) : Int)]) false), .obj [] (.arr 5 (l9 ++ [(wr_u8 (Int.fdiv (wr_i64 (8 + (a3.length : Int))) (2 ^ 8)) : Int), (wr_u8 (wr_i64 (8 + (a3.length : Int))) : Int)]) (List.length (l9 ++ [(wr_u8 (Int.fdiv (wr_i64 (8 + (a3.length : Int))) (2 ^ 8)) : Int), (wr_u8 (wr_i64 (8 + (a3.length : Int))) : Int)])) false)] (pc h11<|pc (eq_of_beq h16)<|pc ((show (0 : Int) ≤ 8 from by decide))<|pc (bs_ob 5 [(wr_u8 (Int.fdiv (wr_i64 (8 + (a3.length : Int))) (2 ^ 8)) : Int), (wr_u8 (wr_i64 (8 + (a3.length : Int))) : Int)])<|pc (app_ob 5 (n := l9.length) (l := l9) (xs := [(wr_u8 (Int.fdiv (wr_i64 (8 + (a3.length : Int))) (2 ^ 8)) : Int), (wr_u8 (wr_i64 (8 + (a3.length : Int))) : Int)]) h17)<|pc ((rn (List.length [(wr_u8 (Int.fdiv (wr_i64 (8 + (a3.length : Int))) (2 ^ 8)) : Int), (wr_u8 (wr_i64 (8 + (a3.length : Int))) : Int)])))<|pn)
            · cases h
          · obtain ⟨h18, h⟩|⟨h18, h⟩ := ite_out h
            · obtain ⟨h19, h⟩|⟨h19, h⟩ := ite_out h
              · injection h with h; subst h; exact rl [2, 6, 7, 8, 35, 36] [0, 1] [.t, .frz [3], .obj [] (.arr 5 [(wr_u8 (Int.fdiv 0 (2 ^ 8)) : Int), (wr_u8 0 : Int)] (List.length [(wr_u8 (Int.fdiv 0 (2 ^ 8)) : Int), (wr_u8 0 : Int)]) false), .obj [] (.arr 5 (l9 ++ [(wr_u8 (Int.fdiv 0 (2 ^ 8)) : Int), (wr_u8 0 : Int)]) (List.length (l9 ++ [(wr_u8 (Int.fdiv 0 (2 ^ 8)) : Int), (wr_u8 0 : Int)])) false)] (pc h11<|pc (eq_of_beq h18)<|pc ((show (0 : Int) ≤ 8 from by decide))<|pc (bs_ob 5 [(wr_u8 (Int.fdiv 0 (2 ^ 8)) : Int), (wr_u8 0 : Int)])<|pc (app_ob 5 (n := l9.length) (l := l9) (xs := [(wr_u8 (Int.fdiv 0 (2 ^ 8)) : Int), (wr_u8 0 : Int)]) h19)<|pc ((rn (List.length [(wr_u8 (Int.fdiv 0 (2 ^ 8)) : Int), (wr_u8 0 : Int)])))<|pn)
              · cases h
            · cases h
    · injection h with h; subst h; exact rl [2, 6, 7, 8] [0, 1] [.f] (pc h11<|pn)
  · exact Ex.noConfusion

theorem k_udp_Put {a1 : Int} {a2 : Int} {a3 : List Int} {r : ((List Int) × Int)} (h : udp_Put a1 a2 a3 = some r) :
    CallsOK Tryz.prog UU 203 [.j a1, .j a2, .sl 5 a3] [] ((fun r => match r with | (l28, v29) => .tup [.os 0 l28.length, .j v29]) r) ((fun r => match r with | (l28, v29) => [.arr 5 l28 l28.length false]) r) := by
  unfold udp_Put at h
  obtain ⟨h4, h⟩|⟨h4, h⟩ := ite_out h
  · injection h with h; subst h; exact rf Tryz.func203 (some [1]) [.t] (pc h4<|pn)
  · obtain ⟨h5, h⟩|⟨h5, h⟩ := ite_out h
    · injection h with h; subst h; exact rf Tryz.func203 (some [1]) [.f, .t] (pc h4<|pc h5<|pn)
    · obtain ⟨h6, h⟩|⟨h6, h⟩ := ite_out h
      · injection h with h; subst h; exact rf Tryz.func203 (some [1]) [.f, .f, .t] (pc h4<|pc h5<|pc h6<|pn)
      · obtain ⟨h7, h⟩|⟨h7, h⟩ := ite_out h
        · injection h with h; subst h; exact rf Tryz.func203 (some [1]) [.f, .f, .f, .t] (pc h4<|pc h5<|pc h6<|pc h7<|pn)
        · obtain ⟨h8, h⟩|⟨h8, h⟩ := ite_out h
          · injection h with h; subst h; exact rf Tryz.func203 (some [1]) [.f, .f, .f, .f, .t] (pc h4<|pc h5<|pc h6<|pc h7<|pc h8<|pn)
          · obtain ⟨l24, h25, h⟩ := bo h
            obtain ⟨h27, h⟩|⟨h27, h⟩ := ite_out h
            · injection h with h; subst h; exact rf Tryz.func203 (some [1]) [.f, .f, .f, .f, .f, .sum [2, 6, 7, 8, 35, 36] [0, 1] (.exit 1) [(2, .sl 5 a3), (6, .os 0 0), (7, .z), (8, .os 1 l24.length)] [.n 5, .arr 5 l24 l24.length false], .obj [] (.arr 5 (l24 ++ a3) (List.length (l24 ++ a3)) false)] (pc h4<|pc h5<|pc h6<|pc h7<|pc h8<|pc (k_udp_Put_L1 _ _ h25)<|pc (app_ob 5 (n := l24.length) (l := l24) (xs := a3) h27)<|pn)
            · cases h

theorem k_vxlan_Wrap {a1 : Int} {a2 : Int} {a3 : Int} {a4 : Api_Frame} {r : ((List Int) × Int)} (h : vxlan_Wrap a1 a2 a3 a4 = some r) :
    CallsOK Tryz.prog UU 127 [.v (.int .u32 a1), .v (.int .u32 a2), .j a3, .agg (c62 a4)] [] ((fun r => match r with | (l38, v39) => .tup [.os 0 l38.length, .j v39]) r) ((fun r => match r with | (l38, v39) => [.arr 5 l38 l38.length false]) r) := by
  unfold vxlan_Wrap at h
  obtain ⟨r5, h6, h⟩ := bo h
  obtain ⟨h7, h⟩|⟨h7, h⟩ := ite_out h
  · injection h with h; subst h; exact rf Tryz.func127 (some [2]) [.b r5, .t] (pc (k_tag_Is h6)<|pc h7<|pn)
  · obtain ⟨r8, h9, h⟩ := bo h
    obtain ⟨l10, v11⟩ := r8
    obtain ⟨h12, h⟩|⟨h12, h⟩ := ite_out h
    · injection h with h; subst h; exact rf Tryz.func127 (some [3]) [.b r5, .f, .callo (.tup [.os 0 l10.length, .j v11]) [.arr 5 l10 l10.length false], .t] (pc (k_tag_Is h6)<|pc h7<|pc (k_ether_Put h9)<|pc (im5 l10)<|pc h12<|pn)
    · obtain ⟨r13, h14, h⟩ := bo h
      obtain ⟨l15, v16⟩ := r13
      obtain ⟨h17, h⟩|⟨h17, h⟩ := ite_out h
      · injection h with h; subst h; exact rf Tryz.func127 (some [4]) [.b r5, .f, .callo (.tup [.os 0 l10.length, .j v11]) [.arr 5 l10 l10.length false], .f, .callo (.tup [.os 0 l15.length, .j v16]) [.arr 5 l15 l15.length false], .t] (pc (k_tag_Is h6)<|pc h7<|pc (k_ether_Put h9)<|pc (im5 l10)<|pc h12<|pc (k_vxlan_Head h14)<|pc (im5 l15)<|pc h17<|pn)
      · obtain ⟨h18, h⟩|⟨h18, h⟩ := ite_out h
        · injection h with h; subst h; exact rf Tryz.func127 (some [4]) [.b r5, .f, .callo (.tup [.os 0 l10.length, .j v11]) [.arr 5 l10 l10.length false], .f, .callo (.tup [.os 0 l15.length, .j v16]) [.arr 5 l15 l15.length false], .f, .t] (pc (k_tag_Is h6)<|pc h7<|pc (k_ether_Put h9)<|pc (im5 l10)<|pc h12<|pc (k_vxlan_Head h14)<|pc (im5 l15)<|pc h17<|pc (rn l10.length)<|pc h18<|pn)
        · obtain ⟨r19, h20, h⟩ := bo h
          obtain ⟨h21, h⟩|⟨h21, h⟩ := ite_out h
          · obtain ⟨r22, h23, h⟩ := bo h
            obtain ⟨l24, v25⟩ := r22
            obtain ⟨r26, h27, h⟩ := bo h
            obtain ⟨l28, v29⟩ := r26
            obtain ⟨r30, h31, h⟩ := bo h
            obtain ⟨r32, h33, h⟩ := bo h
            obtain ⟨r34, h35, h⟩ := bo h
            obtain ⟨l36, v37⟩ := r34
            injection h with h; subst h; exact rf Tryz.func127 (some [6]) [.b r5, .f, .callo (.tup [.os 0 l10.length, .j v11]) [.arr 5 l10 l10.length false], .f, .callo (.tup [.os 0 l15.length, .j v16]) [.arr 5 l15 l15.length false], .f, .f, .callv (.j r19), .obj [] (.arr 5 (l15 ++ l10) (List.length (l15 ++ l10)) false), .callo (.tup [.os 0 l24.length, .j v25]) [.arr 5 l24 l24.length false], .callo (.tup [.os 0 l28.length, .j v29]) [.arr 5 l28 l28.length false], .callv (.v (.int .u64 r30)), .callv (.v (.int .u64 r32)), .callo (.tup [.os 0 l36.length, .j v37]) [.arr 5 l36 l36.length false]] (pc (k_tag_Is h6)<|pc h7<|pc (k_ether_Put h9)<|pc (im5 l10)<|pc h12<|pc (k_vxlan_Head h14)<|pc (im5 l15)<|pc h17<|pc (rn l10.length)<|pc h18<|pc (k_udp_Port h20)<|pc (app_ob 5 (n := l15.length) (l := l15) (xs := l10) h21)<|pc (rn l10.length)<|pc (k_udp_Put h23)<|pc (im5 l24)<|pc ((rn (List.length (l15 ++ l10))))<|pc (k_ipv4_Put h27)<|pc (im5 l28)<|pc (rn l24.length)<|pc (k_mac_Host h31)<|pc (k_mac_Host h33)<|pc (k_ether_Put h35)<|pc (im5 l36)<|pc (rn l28.length)<|pn)
          · cases h

def b0_k_leave_Mesh (a1 : Api_Net) : AObj DD := .box 170 [.sl 91 a1.devices, .sl 56 a1.ports, .sl 112 a1.links, .sl 93 a1.domains, .sl 97 a1.statics, .sl 100 a1.floods, .sl 103 a1.vrfs, .sl 118 a1.irbs] false
theorem k_leave_Mesh {a1 : Api_Net} {a2 : Int} {a3 : Int} {a4 : Api_Frame} {r : ((List Int) × Int)} (h : leave_Mesh a1 a2 a3 a4 = some r) :
    CallsOK Tryz.prog UU 39 [.agg (c31 a1), .j a2, .j a3, .agg (c62 a4)] [] ((fun r => match r with | (l29, v30) => .tup [.os 0 l29.length, .j v30]) r) ((fun r => match r with | (l29, v30) => [.arr 5 l29 l29.length false]) r) := by
  unfold leave_Mesh at h
  obtain ⟨r5, h6, h⟩ := bo h
  obtain ⟨h7, h⟩|⟨h7, h⟩ := ite_out h
  · injection h with h; subst h; exact rf Tryz.func39 (some [3]) [.b r5, .t] (pc (k_leave_place h6)<|pc h7<|pn)
  · obtain ⟨r8, h9, h⟩ := bo h
    obtain ⟨h10, h⟩|⟨h10, h⟩ := ite_out h
    · injection h with h; subst h; exact rf Tryz.func39 (some [3]) [.b r5, .f, .b r8, .t] (pc (k_leave_place h6)<|pc h7<|pc (k_leave_place h9)<|pc h10<|pn)
    · obtain ⟨r11, h12, h⟩ := bo h
      obtain ⟨h13, h⟩|⟨h13, h⟩ := ite_out h
      · injection h with h; subst h; exact rf Tryz.func39 (some [3]) [.b r5, .f, .b r8, .f, .b r11, .t] (pc (k_leave_place h6)<|pc h7<|pc (k_leave_place h9)<|pc h10<|pc (k_names_Right h12)<|pc h13<|pn)
      · obtain ⟨x14, h15, h⟩ := bo h
        obtain ⟨r16, h17, h⟩ := bo h
        obtain ⟨h18, h⟩|⟨h18, h⟩ := ite_out h
        · injection h with h; subst h; exact rf Tryz.func39 (some [3]) [.b r5, .f, .b r8, .f, .b r11, .f, .row (c93 x14), .b r16, .t] (pc (k_leave_place h6)<|pc h7<|pc (k_leave_place h9)<|pc h10<|pc (k_names_Right h12)<|pc h13<|pc (ob93 h15)<|pc (k_slices_Contains_int h17)<|pc h18<|pn)
        · obtain ⟨r19, h20, h⟩ := bo h
          obtain ⟨r21, h22, h⟩ := bo h
          obtain ⟨x23, h24, h⟩ := bo h
          obtain ⟨r25, h26, h⟩ := bo h
          obtain ⟨l27, v28⟩ := r25
          injection h with h; subst h; exact rf Tryz.func39 (some [12]) [.b r5, .f, .b r8, .f, .b r11, .f, .row (c93 x14), .b r16, .f, .sum [13] [] .nor [] [.box 31 (c31 a1) false, .box 62 (c62 a4) false, .n 5, .n 91, .n 56, .n 112, .n 93, .n 97, .n 100, .n 103, .n 118, (b0_k_leave_Mesh a1), .arr 5 l27 l27.length false], .callv (.v (.int .u32 r19)), .callv (.v (.int .u32 r21)), .row (c93 x23), .callo (.tup [.os 0 l27.length, .j v28]) [.arr 5 l27 l27.length false]] (pc (k_leave_place h6)<|pc h7<|pc (k_leave_place h9)<|pc h10<|pc (k_names_Right h12)<|pc h13<|pc (ob93 h15)<|pc (k_slices_Contains_int h17)<|pc h18<|pc (k_leave_whole_vtep h20)<|pc (k_leave_whole_vtep h22)<|pc (ob93 h24)<|pc ((rfl : ([.box 31 (c31 a1) false, .box 62 (c62 a4) false, .n 5, .n 91, .n 56, .n 112, .n 93, .n 97, .n 100, .n 103, .n 118, (b0_k_leave_Mesh a1), .arr 5 l27 l27.length false] : Heap DD) = [.box 31 (c31 a1) false, .box 62 (c62 a4) false, .n 5, .n 91, .n 56, .n 112, .n 93, .n 97, .n 100, .n 103, .n 118, (b0_k_leave_Mesh a1), .arr 5 l27 l27.length false]))<|pc (k_vxlan_Wrap h26)<|pc (im5 l27)<|pn)

theorem k_bridge_Step_J2 {a1 : Api_Net} {a4 : Int} {a5 : Api_Queued} {l18 : List Api_Entry} {n19 : Nat} {r34 : List Int} {r35 : List Int} {l37 : List Bridge_Out} {v38 : Int} {x40 : Int} {r : Int} (h : bridge_Step_J2 a1 a4 a5 l18 n19 r34 r35 l37 v38 x40 = some r) :
    ExecOK Tryz.prog UU 0 154 (subC (codeOf Tryz.f32) [1, 1, 1, 1, 1, 1, 0, 1, 0, 0, 1, 1, 0, 0, 1, 1, 0]) [(3, .j a4), (6, .op 0 1 0 0), (10, .op 1 1 0 0), (12, .os 2 n19), (13, .op 3 1 0 0), (14, .z), (23, .fn (.func 110) [] [.op 3 1 0 0]), (25, .sl 3 r35), (28, .j x40), (29, .j 1), (100, .sl 3 r34), (101, .j (r34.length : Int)), (102, .j v38)] [.box 31 (c31 a1) false, .box 64 (c64 a5) false, .arr 84 l18 n19 true, .box 66 [.os 4 l37.length] false, .arr 77 l37 l37.length false] ((fun r => match r with | v46 => .nor) r) ((fun r => match r with | v46 => [(3, .j a4), (6, .op 0 1 0 0), (10, .op 1 1 0 0), (12, .os 2 n19), (13, .op 3 1 0 0), (14, .z), (23, .fn (.func 110) [] [.op 3 1 0 0]), (25, .sl 3 r35), (28, .j x40), (29, .j v46), (100, .sl 3 r34), (101, .j (r34.length : Int)), (102, .j v38)]) r) ((fun r => match r with | v46 => [.box 31 (c31 a1) false, .box 64 (c64 a5) false, .arr 84 l18 n19 true, .box 66 [.os 4 l37.length] false, .arr 77 l37 l37.length false]) r) := by
  unfold bridge_Step_J2 at h
  obtain ⟨x42, h43, h⟩ := bo h
  obtain ⟨h44, h⟩|⟨h44, h⟩ := ite_out h
  · injection h with h; subst h; exact rl [3, 6, 10, 12, 13, 14, 23, 25, 28, 29, 100, 101, 102] [0, 1, 2, 3, 4] [.row (c56 x42), .t] (pc (ob56 h43)<|pc h44<|pn)
  · injection h with h; subst h; exact rl [3, 6, 10, 12, 13, 14, 23, 25, 28, 29, 100, 101, 102] [0, 1, 2, 3, 4] [.row (c56 x42), .f] (pc (ob56 h43)<|pc h44<|pn)

theorem k_bridge_Step_L1 {a1 : Api_Net} {a4 : Int} {a5 : Api_Queued} {l18 : List Api_Entry} {n19 : Nat} {r34 : List Int} {r35 : List Int} : LoopOK Tryz.prog UU 0 154 (subC (codeOf Tryz.f32) [1, 1, 1, 1, 1, 1, 0, 1, 0, 0]) (fun s : (List Bridge_Out) × Int => match s with | (l37, v38) => bridge_Step_L1 a1 a4 a5 l18 n19 r34 r35 l37 v38)
    (fun s : (List Bridge_Out) × Int => (match s with | (l37, v38) => [(3, .j a4), (6, .op 0 1 0 0), (10, .op 1 1 0 0), (12, .os 2 n19), (13, .op 3 1 0 0), (14, .z), (23, .fn (.func 110) [] [.op 3 1 0 0]), (25, .sl 3 r35), (100, .sl 3 r34), (101, .j (r34.length : Int)), (102, .j v38)] : Fr DD)) (fun s : (List Bridge_Out) × Int => (match s with | (l37, v38) => [.box 31 (c31 a1) false, .box 64 (c64 a5) false, .arr 84 l18 n19 true, .box 66 [.os 4 l37.length] false, .arr 77 l37 l37.length false] : Heap DD)) (fun r => match r with | l63 => .exit 0) (fun r => match r with | l63 => [(3, .j a4), (6, .op 0 1 0 0), (10, .op 1 1 0 0), (12, .os 2 n19), (13, .op 3 1 0 0), (14, .z), (23, .fn (.func 110) [] [.op 3 1 0 0]), (25, .sl 3 r35)]) (fun r => match r with | l63 => [.box 31 (c31 a1) false, .box 64 (c64 a5) false, .arr 84 l18 n19 true, .box 66 [.os 4 l63.length] false, .arr 77 l63 l63.length false]) := by
  refine loop_sound3 (fun s q h => ?_) (fun r => ?_)
  · obtain ⟨l37, v38⟩ := s; replace h : bridge_Step_L1 a1 a4 a5 l18 n19 r34 r35 l37 v38 = some q := h
    unfold bridge_Step_L1 at h
    obtain ⟨h39, h⟩|⟨h39, h⟩ := ite_out h
    · obtain ⟨x40, h41, h⟩ := bo h
      obtain ⟨v46, h47, h⟩ := bo h
      obtain ⟨r49, h50, h⟩ := bo h
      obtain ⟨l51, v52⟩ := r49
      obtain ⟨r53, h54, h⟩ := bo h
      rcases r53 with _ | _
      · injection h with h; subst h; exact rl [3, 6, 10, 12, 13, 14, 23, 25, 100, 101, 102] [0, 1, 2, 3, 4] [.t, .row (c3 x40), .skp, .cut [3, 6, 10, 12, 13, 14, 23, 25, 28, 29, 100, 101, 102] [0, 1, 2, 3, 4] .nor [(3, .j a4), (6, .op 0 1 0 0), (10, .op 1 1 0 0), (12, .os 2 n19), (13, .op 3 1 0 0), (14, .z), (23, .fn (.func 110) [] [.op 3 1 0 0]), (25, .sl 3 r35), (28, .j x40), (29, .j v46), (100, .sl 3 r34), (101, .j (r34.length : Int)), (102, .j v38)] [.box 31 (c31 a1) false, .box 64 (c64 a5) false, .arr 84 l18 n19 true, .box 66 [.os 4 l37.length] false, .arr 77 l37 l37.length false], .callo (.tup [.os 0 l51.length, .j v52]) [.arr 5 l51 l51.length false], .frz [], .callm [5, 3, 4] (.tup []) [.arr 5 l51 l51.length false, .box 66 [.os 2 (List.length (l37 ++ [(⟨5, (⟨v46, x40, 0, [], (⟨0, 0, 0, []⟩ : Api_Frame), 0⟩ : Bridge_Out).port, (⟨v46, x40, 0, [], (⟨0, 0, 0, []⟩ : Api_Frame), 0⟩ : Bridge_Out).domain, [], (⟨v46, x40, 0, [], (⟨0, 0, 0, []⟩ : Api_Frame), 0⟩ : Bridge_Out).frame, v52⟩ : Bridge_Out)]))] false, .arr 77 (l37 ++ [(⟨5, (⟨v46, x40, 0, [], (⟨0, 0, 0, []⟩ : Api_Frame), 0⟩ : Bridge_Out).port, (⟨v46, x40, 0, [], (⟨0, 0, 0, []⟩ : Api_Frame), 0⟩ : Bridge_Out).domain, [], (⟨v46, x40, 0, [], (⟨0, 0, 0, []⟩ : Api_Frame), 0⟩ : Bridge_Out).frame, v52⟩ : Bridge_Out)]) (List.length (l37 ++ [(⟨5, (⟨v46, x40, 0, [], (⟨0, 0, 0, []⟩ : Api_Frame), 0⟩ : Bridge_Out).port, (⟨v46, x40, 0, [], (⟨0, 0, 0, []⟩ : Api_Frame), 0⟩ : Bridge_Out).domain, [], (⟨v46, x40, 0, [], (⟨0, 0, 0, []⟩ : Api_Frame), 0⟩ : Bridge_Out).frame, v52⟩ : Bridge_Out)])) false]] (pc h39<|pc (ob3 h41)<|pc (k_bridge_Step_J2 h47)<|pc (k_leave_At h50)<|pc (im5 l51)<|pc (k_bridge_Step_1_own h54)<|pn)
      · injection h with h; subst h; exact rl [3, 6, 10, 12, 13, 14, 23, 25, 100, 101, 102] [0, 1, 2, 3, 4] [.t, .row (c3 x40), .skp, .cut [3, 6, 10, 12, 13, 14, 23, 25, 28, 29, 100, 101, 102] [0, 1, 2, 3, 4] .nor [(3, .j a4), (6, .op 0 1 0 0), (10, .op 1 1 0 0), (12, .os 2 n19), (13, .op 3 1 0 0), (14, .z), (23, .fn (.func 110) [] [.op 3 1 0 0]), (25, .sl 3 r35), (28, .j x40), (29, .j v46), (100, .sl 3 r34), (101, .j (r34.length : Int)), (102, .j v38)] [.box 31 (c31 a1) false, .box 64 (c64 a5) false, .arr 84 l18 n19 true, .box 66 [.os 4 l37.length] false, .arr 77 l37 l37.length false], .callo (.tup [.os 0 l51.length, .j v52]) [.arr 5 l51 l51.length false], .frz [], .callm [5, 3, 4] (.tup []) [.arr 5 l51 l51.length true, .box 66 [.os 2 (List.length (l37 ++ [(⟨(⟨v46, x40, 0, [], (⟨0, 0, 0, []⟩ : Api_Frame), 0⟩ : Bridge_Out).kind, (⟨v46, x40, 0, [], (⟨0, 0, 0, []⟩ : Api_Frame), 0⟩ : Bridge_Out).port, (⟨v46, x40, 0, [], (⟨0, 0, 0, []⟩ : Api_Frame), 0⟩ : Bridge_Out).domain, l51, (⟨v46, x40, 0, [], (⟨0, 0, 0, []⟩ : Api_Frame), 0⟩ : Bridge_Out).frame, (⟨v46, x40, 0, [], (⟨0, 0, 0, []⟩ : Api_Frame), 0⟩ : Bridge_Out).error⟩ : Bridge_Out)]))] false, .arr 77 (l37 ++ [(⟨(⟨v46, x40, 0, [], (⟨0, 0, 0, []⟩ : Api_Frame), 0⟩ : Bridge_Out).kind, (⟨v46, x40, 0, [], (⟨0, 0, 0, []⟩ : Api_Frame), 0⟩ : Bridge_Out).port, (⟨v46, x40, 0, [], (⟨0, 0, 0, []⟩ : Api_Frame), 0⟩ : Bridge_Out).domain, l51, (⟨v46, x40, 0, [], (⟨0, 0, 0, []⟩ : Api_Frame), 0⟩ : Bridge_Out).frame, (⟨v46, x40, 0, [], (⟨0, 0, 0, []⟩ : Api_Frame), 0⟩ : Bridge_Out).error⟩ : Bridge_Out)]) (List.length (l37 ++ [(⟨(⟨v46, x40, 0, [], (⟨0, 0, 0, []⟩ : Api_Frame), 0⟩ : Bridge_Out).kind, (⟨v46, x40, 0, [], (⟨0, 0, 0, []⟩ : Api_Frame), 0⟩ : Bridge_Out).port, (⟨v46, x40, 0, [], (⟨0, 0, 0, []⟩ : Api_Frame), 0⟩ : Bridge_Out).domain, l51, (⟨v46, x40, 0, [], (⟨0, 0, 0, []⟩ : Api_Frame), 0⟩ : Bridge_Out).frame, (⟨v46, x40, 0, [], (⟨0, 0, 0, []⟩ : Api_Frame), 0⟩ : Bridge_Out).error⟩ : Bridge_Out)])) false]] (pc h39<|pc (ob3 h41)<|pc (k_bridge_Step_J2 h47)<|pc (k_leave_At h50)<|pc (im5 l51)<|pc (k_bridge_Step_1_own h54)<|pn)
    · injection h with h; subst h; exact rl [3, 6, 10, 12, 13, 14, 23, 25] [0, 1, 2, 3, 4] [.f] (pc h39<|pn)
  · exact Ex.noConfusion

theorem k_bridge_Step_L3 {a1 : Api_Net} {a4 : Int} {a5 : Api_Queued} {l18 : List Api_Entry} {n19 : Nat} {r35 : List Int} : LoopOK Tryz.prog UU 0 154 (subC (codeOf Tryz.f32) [1, 1, 1, 1, 1, 1, 1, 0, 1, 0, 0]) (fun s : (List Bridge_Out) × Int => match s with | (l66, v67) => bridge_Step_L3 a1 a4 a5 l18 n19 r35 l66 v67)
    (fun s : (List Bridge_Out) × Int => (match s with | (l66, v67) => [(3, .j a4), (6, .op 0 1 0 0), (10, .op 1 1 0 0), (12, .os 2 n19), (13, .op 3 1 0 0), (14, .z), (23, .fn (.func 110) [] [.op 3 1 0 0]), (130, .sl 3 r35), (131, .j (r35.length : Int)), (132, .j v67)] : Fr DD)) (fun s : (List Bridge_Out) × Int => (match s with | (l66, v67) => [.box 31 (c31 a1) false, .box 64 (c64 a5) false, .arr 84 l18 n19 true, .box 66 [.os 4 l66.length] false, .arr 77 l66 l66.length false] : Heap DD)) (fun r => match r with | l80 => .exit 2) (fun r => match r with | l80 => [(12, .os 0 n19), (13, .op 1 1 0 0), (14, .z)]) (fun r => match r with | l80 => [.arr 84 l18 n19 true, .box 66 [.os 2 l80.length] false, .arr 77 l80 l80.length false]) := by
  refine loop_sound3 (fun s q h => ?_) (fun r => ?_)
  · obtain ⟨l66, v67⟩ := s; replace h : bridge_Step_L3 a1 a4 a5 l18 n19 r35 l66 v67 = some q := h
    unfold bridge_Step_L3 at h
    obtain ⟨h68, h⟩|⟨h68, h⟩ := ite_out h
    · obtain ⟨x69, h70, h⟩ := bo h
      obtain ⟨r71, h72, h⟩ := bo h
      obtain ⟨l73, v74⟩ := r71
      obtain ⟨r75, h76, h⟩ := bo h
      rcases r75 with _ | _
      · injection h with h; subst h; exact rl [3, 6, 10, 12, 13, 14, 23, 130, 131, 132] [0, 1, 2, 3, 4] [.t, .row (c3 x69), .callo (.tup [.os 0 l73.length, .j v74]) [.arr 5 l73 l73.length false], .frz [], .callm [5, 3, 4] (.tup []) [.arr 5 l73 l73.length false, .box 66 [.os 2 (List.length (l66 ++ [(⟨5, (⟨3, 0, x69, [], (⟨0, 0, 0, []⟩ : Api_Frame), 0⟩ : Bridge_Out).port, (⟨3, 0, x69, [], (⟨0, 0, 0, []⟩ : Api_Frame), 0⟩ : Bridge_Out).domain, [], (⟨3, 0, x69, [], (⟨0, 0, 0, []⟩ : Api_Frame), 0⟩ : Bridge_Out).frame, v74⟩ : Bridge_Out)]))] false, .arr 77 (l66 ++ [(⟨5, (⟨3, 0, x69, [], (⟨0, 0, 0, []⟩ : Api_Frame), 0⟩ : Bridge_Out).port, (⟨3, 0, x69, [], (⟨0, 0, 0, []⟩ : Api_Frame), 0⟩ : Bridge_Out).domain, [], (⟨3, 0, x69, [], (⟨0, 0, 0, []⟩ : Api_Frame), 0⟩ : Bridge_Out).frame, v74⟩ : Bridge_Out)]) (List.length (l66 ++ [(⟨5, (⟨3, 0, x69, [], (⟨0, 0, 0, []⟩ : Api_Frame), 0⟩ : Bridge_Out).port, (⟨3, 0, x69, [], (⟨0, 0, 0, []⟩ : Api_Frame), 0⟩ : Bridge_Out).domain, [], (⟨3, 0, x69, [], (⟨0, 0, 0, []⟩ : Api_Frame), 0⟩ : Bridge_Out).frame, v74⟩ : Bridge_Out)])) false]] (pc h68<|pc (ob3 h70)<|pc (k_leave_Mesh h72)<|pc (im5 l73)<|pc (k_bridge_Step_1_own h76)<|pn)
      · injection h with h; subst h; exact rl [3, 6, 10, 12, 13, 14, 23, 130, 131, 132] [0, 1, 2, 3, 4] [.t, .row (c3 x69), .callo (.tup [.os 0 l73.length, .j v74]) [.arr 5 l73 l73.length false], .frz [], .callm [5, 3, 4] (.tup []) [.arr 5 l73 l73.length true, .box 66 [.os 2 (List.length (l66 ++ [(⟨(⟨3, 0, x69, [], (⟨0, 0, 0, []⟩ : Api_Frame), 0⟩ : Bridge_Out).kind, (⟨3, 0, x69, [], (⟨0, 0, 0, []⟩ : Api_Frame), 0⟩ : Bridge_Out).port, (⟨3, 0, x69, [], (⟨0, 0, 0, []⟩ : Api_Frame), 0⟩ : Bridge_Out).domain, l73, (⟨3, 0, x69, [], (⟨0, 0, 0, []⟩ : Api_Frame), 0⟩ : Bridge_Out).frame, (⟨3, 0, x69, [], (⟨0, 0, 0, []⟩ : Api_Frame), 0⟩ : Bridge_Out).error⟩ : Bridge_Out)]))] false, .arr 77 (l66 ++ [(⟨(⟨3, 0, x69, [], (⟨0, 0, 0, []⟩ : Api_Frame), 0⟩ : Bridge_Out).kind, (⟨3, 0, x69, [], (⟨0, 0, 0, []⟩ : Api_Frame), 0⟩ : Bridge_Out).port, (⟨3, 0, x69, [], (⟨0, 0, 0, []⟩ : Api_Frame), 0⟩ : Bridge_Out).domain, l73, (⟨3, 0, x69, [], (⟨0, 0, 0, []⟩ : Api_Frame), 0⟩ : Bridge_Out).frame, (⟨3, 0, x69, [], (⟨0, 0, 0, []⟩ : Api_Frame), 0⟩ : Bridge_Out).error⟩ : Bridge_Out)]) (List.length (l66 ++ [(⟨(⟨3, 0, x69, [], (⟨0, 0, 0, []⟩ : Api_Frame), 0⟩ : Bridge_Out).kind, (⟨3, 0, x69, [], (⟨0, 0, 0, []⟩ : Api_Frame), 0⟩ : Bridge_Out).port, (⟨3, 0, x69, [], (⟨0, 0, 0, []⟩ : Api_Frame), 0⟩ : Bridge_Out).domain, l73, (⟨3, 0, x69, [], (⟨0, 0, 0, []⟩ : Api_Frame), 0⟩ : Bridge_Out).frame, (⟨3, 0, x69, [], (⟨0, 0, 0, []⟩ : Api_Frame), 0⟩ : Bridge_Out).error⟩ : Bridge_Out)])) false]] (pc h68<|pc (ob3 h70)<|pc (k_leave_Mesh h72)<|pc (im5 l73)<|pc (k_bridge_Step_1_own h76)<|pn)
    · injection h with h; subst h; exact rl [12, 13, 14] [2, 3, 4] [.f] (pc h68<|pn)
  · exact Ex.noConfusion

theorem k_bridge_Step {a1 : Api_Net} {a2 : List Bool} {a3 : List Api_Entry} {a4 : Int} {a5 : Api_Queued} {a6 : Int} {r : ((List Api_Entry) × (List Bridge_Out) × Int)} (h : bridge_Step a1 a2 a3 a4 a5 a6 = some r) :
    CallsOK Tryz.prog UU 32 [.agg (c31 a1), .sl 4 a2, .sl 84 a3, .j a4, .agg (c64 a5), .j a6] [] ((fun r => match r with | (r83, r84, r85) => .tup [.sl 84 r83, .sl 77 r84, .j r85]) r) ((fun r => match r with | (r83, r84, r85) => []) r) := by
  unfold bridge_Step at h
  obtain ⟨r7, h8, h⟩ := bo h
  obtain ⟨r9, r10, r11⟩ := r7
  obtain ⟨h12, h⟩|⟨h12, h⟩ := ite_out h
  · injection h with h; subst h; exact runFz_sound mixedOrders Tryz.func32 rfl (ids := []) (fz := [5, 6]) (π := [.callm [] (.tup [.sl 3 r9, .sl 3 r10, .j r11]) [], .t]) (hrun := by kernel_rfl) (hps := pc (k_lookup_Flood h8)<|pc h12<|pc (rn 0)<|pc (rn 0)<|pn)
  · obtain ⟨r13, h14, h⟩ := bo h
    obtain ⟨h15, h⟩|⟨h15, h⟩ := ite_out h
    · injection h with h; subst h; exact runFz_sound mixedOrders Tryz.func32 rfl (ids := []) (fz := [5, 6]) (π := [.callm [] (.tup [.sl 3 r9, .sl 3 r10, .j r11]) [], .f, .b r13, .t]) (hrun := by kernel_rfl) (hps := pc (k_lookup_Flood h8)<|pc h12<|pc (k_table_Right h14)<|pc h15<|pc (rn 0)<|pc (rn 0)<|pn)
    · obtain ⟨r16, h17, h⟩ := bo h
      obtain ⟨l18, n19⟩ := r16
      obtain ⟨r20, h21, h⟩ := bo h
      obtain ⟨h22, h⟩|⟨h22, h⟩ := ite_out h
      · obtain ⟨r23, h24, h⟩ := bo h
        obtain ⟨l25, v26, v27, v28, v29, v30⟩ := r23
        obtain ⟨h31, h⟩|⟨h31, h⟩ := ite_out h
        · injection h with h; subst h; exact runFz_sound mixedOrders Tryz.func32 rfl (ids := []) (fz := [5, 9]) (π := [.callm [] (.tup [.sl 3 r9, .sl 3 r10, .j r11]) [], .f, .b r13, .f, .callo (.os 0 n19) [.arr 84 l18 n19 false], .callv (.tup [.v (.int .i64 r20.1), .v (.bool r20.2)]), .t, .callo (.tup [.j v26, .agg [.v (.int .u64 v27), .v (.int .u64 v28), .j v29, .os 0 l25.length], .j v30]) [.arr 5 l25 l25.length false], .t]) (hrun := by kernel_rfl) (hps := pc (k_lookup_Flood h8)<|pc h12<|pc (k_table_Right h14)<|pc h15<|pc (k_bridge_learn h17)<|pc (im84 l18)<|pc (k_vrfs_Router h21)<|pc h22<|pc (k_route_Hop h24)<|pc (im5 l25)<|pc h31<|pc (rn n19)<|pc (rn 0)<|pn)
        · injection h with h; subst h; exact runFz_sound mixedOrders Tryz.func32 rfl (ids := []) (fz := [5, 9]) (π := [.callm [] (.tup [.sl 3 r9, .sl 3 r10, .j r11]) [], .f, .b r13, .f, .callo (.os 0 n19) [.arr 84 l18 n19 false], .callv (.tup [.v (.int .i64 r20.1), .v (.bool r20.2)]), .t, .callo (.tup [.j v26, .agg [.v (.int .u64 v27), .v (.int .u64 v28), .j v29, .os 0 l25.length], .j v30]) [.arr 5 l25 l25.length false], .f, .sum [4] [] .nor [] [.box 31 (c31 a1) false, .box 64 (c64 a5) false, .n 84, .n 77, .box 66 [.os 3 0] false, .arr 84 l18 n19 false, .arr 5 l25 l25.length true, .n 5, .box 62 [.v (.int .u64 v27), .v (.int .u64 v28), .j v29, .os 6 l25.length] false, .arr 77 [(⟨4, 0, v26, [], (⟨v27, v28, v29, l25⟩ : Api_Frame), 0⟩ : Bridge_Out)] (List.length [(⟨4, 0, v26, [], (⟨v27, v28, v29, l25⟩ : Api_Frame), 0⟩ : Bridge_Out)]) false], .obj [6] (.arr 77 [(⟨4, 0, v26, [], (⟨v27, v28, v29, l25⟩ : Api_Frame), 0⟩ : Bridge_Out)] (List.length [(⟨4, 0, v26, [], (⟨v27, v28, v29, l25⟩ : Api_Frame), 0⟩ : Bridge_Out)]) false)]) (hrun := by kernel_rfl) (hps := pc (k_lookup_Flood h8)<|pc h12<|pc (k_table_Right h14)<|pc h15<|pc (k_bridge_learn h17)<|pc (im84 l18)<|pc (k_vrfs_Router h21)<|pc h22<|pc (k_route_Hop h24)<|pc (im5 l25)<|pc h31<|pc ((rfl : (.os 5 n19 : AV DD) = .os 5 n19))<|pc ((rfl : ([.box 31 (c31 a1) false, .box 64 (c64 a5) false, .n 84, .n 77, .box 66 [.os 3 0] false, .arr 84 l18 n19 false, .arr 5 l25 l25.length true, .n 5, .box 62 [.v (.int .u64 v27), .v (.int .u64 v28), .j v29, .os 6 l25.length] false, .arr 77 [(⟨4, 0, v26, [], (⟨v27, v28, v29, l25⟩ : Api_Frame), 0⟩ : Bridge_Out)] (List.length [(⟨4, 0, v26, [], (⟨v27, v28, v29, l25⟩ : Api_Frame), 0⟩ : Bridge_Out)]) false] : Heap DD) = [.box 31 (c31 a1) false, .box 64 (c64 a5) false, .n 84, .n 77, .box 66 [.os 3 0] false, .arr 84 l18 n19 false, .arr 5 l25 l25.length true, .n 5, .box 62 [.v (.int .u64 v27), .v (.int .u64 v28), .j v29, .os 6 l25.length] false, .arr 77 [(⟨4, 0, v26, [], (⟨v27, v28, v29, l25⟩ : Api_Frame), 0⟩ : Bridge_Out)] (List.length [(⟨4, 0, v26, [], (⟨v27, v28, v29, l25⟩ : Api_Frame), 0⟩ : Bridge_Out)]) false]))<|pc (bs_ob 77 [(⟨4, 0, v26, [], (⟨v27, v28, v29, l25⟩ : Api_Frame), 0⟩ : Bridge_Out)])<|pc (rn l25.length)<|pc ((rfl : (.os 5 n19 : AV DD) = .os 5 n19))<|pc (rn n19)<|pc ((rn (List.length [(⟨4, 0, v26, [], (⟨v27, v28, v29, l25⟩ : Api_Frame), 0⟩ : Bridge_Out)])))<|pn)
      · obtain ⟨r32, h33, h⟩ := bo h
        obtain ⟨r34, r35, r36⟩ := r32
        obtain ⟨l63, h64, h⟩ := bo h
        obtain ⟨l80, h81, h⟩ := bo h
        injection h with h; subst h; exact runFz_sound mixedOrders Tryz.func32 rfl (ids := []) (fz := [0, 2]) (π := [.callm [] (.tup [.sl 3 r9, .sl 3 r10, .j r11]) [], .f, .b r13, .f, .callo (.os 0 n19) [.arr 84 l18 n19 false], .callv (.tup [.v (.int .i64 r20.1), .v (.bool r20.2)]), .f, .frz [5], .callm [] (.tup [.sl 3 r34, .sl 3 r35, .j r36]) [], .sum [3, 6, 10, 12, 13, 14, 23, 25, 100, 101, 102] [0, 1, 5, 4, 3] (.exit 0) [(3, .j a4), (6, .op 0 1 0 0), (10, .op 1 1 0 0), (12, .os 2 n19), (13, .op 3 1 0 0), (14, .z), (23, .fn (.func 110) [] [.op 3 1 0 0]), (25, .sl 3 r35)] [.box 31 (c31 a1) false, .box 64 (c64 a5) false, .arr 84 l18 n19 true, .box 66 [.os 4 l63.length] false, .arr 77 l63 l63.length false], .sum [3, 6, 10, 12, 13, 14, 23, 130, 131, 132] [0, 1, 2, 3, 4] (.exit 2) [(12, .os 0 n19), (13, .op 1 1 0 0), (14, .z)] [.arr 84 l18 n19 true, .box 66 [.os 2 l80.length] false, .arr 77 l80 l80.length false]]) (hrun := by kernel_rfl) (hps := pc (k_lookup_Flood h8)<|pc h12<|pc (k_table_Right h14)<|pc h15<|pc (k_bridge_learn h17)<|pc (im84 l18)<|pc (k_vrfs_Router h21)<|pc h22<|pc (rn n19)<|pc (k_lookup_Decide h33)<|pc (k_bridge_Step_L1 _ _ h64)<|pc (k_bridge_Step_L3 _ _ h81)<|pc (rn n19)<|pc (rn l80.length)<|pn)

theorem k_palinglaw31_works {r : Bool} (h : palinglaw31_works = some r) :
    CallsOK Tryz.prog UU 31 [] [] (.v (.bool r)) [] := by
  have hr : some true = some r := (by kernel_rfl : palinglaw31_works = some true).symm.trans h
  unfold palinglaw31_works at h
  obtain ⟨r1, h2, h⟩ := bo h
  obtain ⟨r3, r4, r5⟩ := r1
  obtain ⟨r6, h7, h⟩ := bo h
  obtain ⟨r8, r9, r10⟩ := r6
  obtain ⟨h11, h⟩|⟨h11, h⟩ := ite_out h
  · obtain ⟨h12, h⟩|⟨h12, h⟩ := ite_out h
    · obtain ⟨x13, h14, h⟩ := bo h
      obtain ⟨h15, h⟩|⟨h15, h⟩ := ite_out h
      · obtain ⟨h16, h⟩|⟨h16, h⟩ := ite_out h
        · obtain ⟨x17, h18, h⟩ := bo h
          obtain ⟨h19, h⟩|⟨h19, h⟩ := ite_out h
          · obtain ⟨x20, h21, h⟩ := bo h
            obtain ⟨h22, h⟩|⟨h22, h⟩ := ite_out h
            · obtain ⟨x23, h24, h⟩ := bo h
              obtain ⟨h25, h⟩|⟨h25, h⟩ := ite_out h
              · injection h with h; subst h; exact rf Tryz.func31 none [.obj [] (.arr 91 [(⟨0, 0, (⟨#[97]⟩ : ByteArray), 0, 0⟩ : Api_Device)] (List.length [(⟨0, 0, (⟨#[97]⟩ : ByteArray), 0, 0⟩ : Api_Device)]) false), .obj [] (.arr 56 [(⟨0, 0, 10, 0, (-1), (⟨#[112]⟩ : ByteArray), []⟩ : Api_Port), (⟨0, 0, 10, 0, (-1), (⟨#[113]⟩ : ByteArray), []⟩ : Api_Port), (⟨0, 0, 10, 0, (-1), (⟨#[114]⟩ : ByteArray), []⟩ : Api_Port)] (List.length [(⟨0, 0, 10, 0, (-1), (⟨#[112]⟩ : ByteArray), []⟩ : Api_Port), (⟨0, 0, 10, 0, (-1), (⟨#[113]⟩ : ByteArray), []⟩ : Api_Port), (⟨0, 0, 10, 0, (-1), (⟨#[114]⟩ : ByteArray), []⟩ : Api_Port)]) false), .obj [] (.arr 93 [(⟨0, 10, 0, (-1), 0, []⟩ : Api_Domain)] (List.length [(⟨0, 10, 0, (-1), 0, []⟩ : Api_Domain)]) false), .frz [0, 1, 12, 2, 13, 14, 15, 16], .callm [] (.tup [.sl 84 r3, .sl 77 r4, .j r5]) [], .frz [0, 1, 12, 2, 13, 14, 15, 16], .callm [] (.tup [.sl 84 r8, .sl 77 r9, .j r10]) [], .t, .t, .row (c84 x13), .t, .t, .row (c77 x17), .t, .row (c77 x20), .t, .row (c77 x23), .t] (pc (bs_ob 91 [(⟨0, 0, (⟨#[97]⟩ : ByteArray), 0, 0⟩ : Api_Device)])<|pc (bs_ob 56 [(⟨0, 0, 10, 0, (-1), (⟨#[112]⟩ : ByteArray), []⟩ : Api_Port), (⟨0, 0, 10, 0, (-1), (⟨#[113]⟩ : ByteArray), []⟩ : Api_Port), (⟨0, 0, 10, 0, (-1), (⟨#[114]⟩ : ByteArray), []⟩ : Api_Port)])<|pc (bs_ob 93 [(⟨0, 10, 0, (-1), 0, []⟩ : Api_Domain)])<|pc ((rn (List.length [(⟨0, 0, (⟨#[97]⟩ : ByteArray), 0, 0⟩ : Api_Device)])))<|pc ((rn (List.length [(⟨0, 0, 10, 0, (-1), (⟨#[112]⟩ : ByteArray), []⟩ : Api_Port), (⟨0, 0, 10, 0, (-1), (⟨#[113]⟩ : ByteArray), []⟩ : Api_Port), (⟨0, 0, 10, 0, (-1), (⟨#[114]⟩ : ByteArray), []⟩ : Api_Port)])))<|pc (rn 0)<|pc ((rn (List.length [(⟨0, 10, 0, (-1), 0, []⟩ : Api_Domain)])))<|pc (rn 0)<|pc (rn 0)<|pc (rn 0)<|pc (rn 0)<|pc (k_bridge_Step h2)<|pc ((rn (List.length [(⟨0, 0, (⟨#[97]⟩ : ByteArray), 0, 0⟩ : Api_Device)])))<|pc ((rn (List.length [(⟨0, 0, 10, 0, (-1), (⟨#[112]⟩ : ByteArray), []⟩ : Api_Port), (⟨0, 0, 10, 0, (-1), (⟨#[113]⟩ : ByteArray), []⟩ : Api_Port), (⟨0, 0, 10, 0, (-1), (⟨#[114]⟩ : ByteArray), []⟩ : Api_Port)])))<|pc (rn 0)<|pc ((rn (List.length [(⟨0, 10, 0, (-1), 0, []⟩ : Api_Domain)])))<|pc (rn 0)<|pc (rn 0)<|pc (rn 0)<|pc (rn 0)<|pc (k_bridge_Step h7)<|pc h11<|pc h12<|pc (ob84 h14)<|pc h15<|pc h16<|pc (ob77 h18)<|pc h19<|pc (ob77 h21)<|pc h22<|pc (ob77 h24)<|pc h25<|pn)
              · exact absurd (hr.trans h.symm) (by decide)
            · exact absurd (hr.trans h.symm) (by decide)
          · exact absurd (hr.trans h.symm) (by decide)
        · exact absurd (hr.trans h.symm) (by decide)
      · exact absurd (hr.trans h.symm) (by decide)
    · exact absurd (hr.trans h.symm) (by decide)
  · exact absurd (hr.trans h.symm) (by decide)

theorem k_palingref15_Place {a1 : Int} {a2 : Int} {r : Bool} (h : palingref15_Place a1 a2 = some r) :
    CallsOK Tryz.prog UU 67 [.j a1, .j a2] [] (.v (.bool r)) [] := by
  unfold palingref15_Place at h
  obtain ⟨h3, h⟩|⟨h3, h⟩ := ite_out h
  · injection h with h; subst h; exact rf Tryz.func67 none [.t] (pc h3<|pn)
  · injection h with h; subst h; exact rf Tryz.func67 none [.f] (pc h3<|pn)

theorem k_palingref15_At_L1 {a1 : Api_Net} {a2 : Int} {a3 : Int} : LoopOK Tryz.prog UU 0 34 (subC (codeOf Tryz.f53) [1, 0, 1, 0, 0]) (ρ := Int ⊕ Unit) (palingref15_At_L1 a1 a2 a3)
    (fun v4 : Int => ([(1, .j a2), (2, .j a3), (3, .op 0 1 0 0), (6, .z), (7, .j v4)] : Fr DD)) (fun v4 : Int => ([.box 31 (c31 a1) false] : Heap DD)) (fun r => match r with | Sum.inl v13 => .ret | Sum.inr _ => .exit 0) (fun r => match r with | Sum.inl v13 => [(6, .j v13)] | Sum.inr _ => [(6, .z)]) (fun r => match r with | Sum.inl v13 => [] | Sum.inr _ => []) := by
  refine loop_sound3 (fun s q h => ?_) (fun r => ?_)
  · replace h : palingref15_At_L1 a1 a2 a3 s = some q := h; revert h; revert s; intro v4 h
    unfold palingref15_At_L1 at h
    obtain ⟨h5, h⟩|⟨h5, h⟩ := ite_out h
    · obtain ⟨x6, h7, h⟩ := bo h
      obtain ⟨h8, h⟩|⟨h8, h⟩ := ite_out h
      · obtain ⟨x9, h10, h⟩ := bo h
        obtain ⟨h11, h⟩|⟨h11, h⟩ := ite_out h
        · injection h with h; subst h; exact rl [6] [] [.t, .row (c93 x6), .t, .row (c93 x9), .t] (pc h5<|pc (ob93 h7)<|pc h8<|pc (ob93 h10)<|pc h11<|pn)
        · injection h with h; subst h; exact rl [1, 2, 3, 6, 7] [0] [.t, .row (c93 x6), .t, .row (c93 x9), .f] (pc h5<|pc (ob93 h7)<|pc h8<|pc (ob93 h10)<|pc h11<|pn)
      · injection h with h; subst h; exact rl [1, 2, 3, 6, 7] [0] [.t, .row (c93 x6), .f] (pc h5<|pc (ob93 h7)<|pc h8<|pn)
    · injection h with h; subst h; exact rl [6] [] [.f] (pc h5<|pn)
  · rcases r with _ | _ <;> exact Ex.noConfusion

theorem k_palingref15_At {a1 : Api_Net} {a2 : Int} {a3 : Int} {r : Int} (h : palingref15_At a1 a2 a3 = some r) :
    CallsOK Tryz.prog UU 53 [.agg (c31 a1), .j a2, .j a3] [] (.j r) [] := by
  unfold palingref15_At at h
  obtain ⟨r15, h14, h⟩ := bo h
  rcases r15 with v13 | _
  · injection h with h; subst h; exact rf Tryz.func53 none [.sum [1, 2, 3, 6, 7] [0] .ret [(6, .j v13)] []] (pc (k_palingref15_At_L1 _ _ h14)<|pn)
  · injection h with h; subst h; exact rf Tryz.func53 none [.sum [1, 2, 3, 6, 7] [0] (.exit 0) [(6, .z)] []] (pc (k_palingref15_At_L1 _ _ h14)<|pn)

theorem k_palingref15_In_L1 {a1 : List Int} {a2 : Int} : LoopOK Tryz.prog UU 0 18 (subC (codeOf Tryz.f154) [1, 0, 1, 0, 0]) (ρ := Unit ⊕ Unit) (palingref15_In_L1 a1 a2)
    (fun v3 : Int => ([(0, .sl 3 a1), (1, .j a2), (4, .v (.bool false)), (5, .j v3)] : Fr DD)) (fun v3 : Int => ([] : Heap DD)) (fun r => match r with | Sum.inl _ => .ret | Sum.inr _ => .exit 0) (fun r => match r with | Sum.inl _ => [(4, .v (.bool true))] | Sum.inr _ => [(4, .v (.bool false))]) (fun r => match r with | Sum.inl _ => [] | Sum.inr _ => []) := by
  refine loop_sound3 (fun s q h => ?_) (fun r => ?_)
  · replace h : palingref15_In_L1 a1 a2 s = some q := h; revert h; revert s; intro v3 h
    unfold palingref15_In_L1 at h
    obtain ⟨h4, h⟩|⟨h4, h⟩ := ite_out h
    · obtain ⟨x5, h6, h⟩ := bo h
      obtain ⟨h7, h⟩|⟨h7, h⟩ := ite_out h
      · injection h with h; subst h; exact rl [4] [] [.t, .row (c3 x5), .t] (pc h4<|pc (ob3 h6)<|pc h7<|pn)
      · injection h with h; subst h; exact rl [0, 1, 4, 5] [] [.t, .row (c3 x5), .f] (pc h4<|pc (ob3 h6)<|pc h7<|pn)
    · injection h with h; subst h; exact rl [4] [] [.f] (pc h4<|pn)
  · rcases r with _ | _ <;> exact Ex.noConfusion

theorem k_palingref15_In {a1 : List Int} {a2 : Int} {r : Bool} (h : palingref15_In a1 a2 = some r) :
    CallsOK Tryz.prog UU 154 [.sl 3 a1, .j a2] [] (.v (.bool r)) [] := by
  unfold palingref15_In at h
  obtain ⟨r9, h8, h⟩ := bo h
  rcases r9 with _ | _
  · injection h with h; subst h; exact rf Tryz.func154 none [.sum [0, 1, 4, 5] [] .ret [(4, .v (.bool true))] []] (pc (k_palingref15_In_L1 _ _ h8)<|pn)
  · injection h with h; subst h; exact rf Tryz.func154 none [.sum [0, 1, 4, 5] [] (.exit 0) [(4, .v (.bool false))] []] (pc (k_palingref15_In_L1 _ _ h8)<|pn)

theorem k_palingref15_peer {a1 : Api_Net} {a2 : Int} {a3 : Int} {r : Bool} (h : palingref15_peer a1 a2 a3 = some r) :
    CallsOK Tryz.prog UU 158 [.agg (c31 a1), .j a2, .j a3] [] (.v (.bool r)) [] := by
  unfold palingref15_peer at h
  obtain ⟨r4, h5, h⟩ := bo h
  obtain ⟨h6, h⟩|⟨h6, h⟩ := ite_out h
  · injection h with h; subst h; exact rf Tryz.func158 none [.b r4, .t] (pc (k_palingref15_Place h5)<|pc h6<|pn)
  · obtain ⟨h7, h⟩|⟨h7, h⟩ := ite_out h
    · injection h with h; subst h; exact rf Tryz.func158 none [.b r4, .f, .t] (pc (k_palingref15_Place h5)<|pc h6<|pc h7<|pn)
    · obtain ⟨x8, h9, h⟩ := bo h
      obtain ⟨x10, h11, h⟩ := bo h
      obtain ⟨h12, h⟩|⟨h12, h⟩ := ite_out h
      · obtain ⟨h13, h⟩|⟨h13, h⟩ := ite_out h
        · obtain ⟨h14, h⟩|⟨h14, h⟩ := ite_out h
          · obtain ⟨x15, h16, h⟩ := bo h
            obtain ⟨h17, h⟩|⟨h17, h⟩ := ite_out h
            · obtain ⟨x18, h19, h⟩ := bo h
              obtain ⟨h20, h⟩|⟨h20, h⟩ := ite_out h
              · obtain ⟨r21, h22, h⟩ := bo h
                injection h with h; subst h; exact rf Tryz.func158 none [.b r4, .f, .f, .row (c93 x8), .row (c93 x10), .t, .t, .t, .row (c91 x15), .t, .row (c91 x18), .t, .b r21] (pc (k_palingref15_Place h5)<|pc h6<|pc h7<|pc (ob93 h9)<|pc (ob93 h11)<|pc h12<|pc h13<|pc h14<|pc (ob91 h16)<|pc h17<|pc (ob91 h19)<|pc h20<|pc (k_palingref15_In h22)<|pn)
              · injection h with h; subst h; exact rf Tryz.func158 none [.b r4, .f, .f, .row (c93 x8), .row (c93 x10), .t, .t, .t, .row (c91 x15), .t, .row (c91 x18), .f] (pc (k_palingref15_Place h5)<|pc h6<|pc h7<|pc (ob93 h9)<|pc (ob93 h11)<|pc h12<|pc h13<|pc h14<|pc (ob91 h16)<|pc h17<|pc (ob91 h19)<|pc h20<|pn)
            · injection h with h; subst h; exact rf Tryz.func158 none [.b r4, .f, .f, .row (c93 x8), .row (c93 x10), .t, .t, .t, .row (c91 x15), .f] (pc (k_palingref15_Place h5)<|pc h6<|pc h7<|pc (ob93 h9)<|pc (ob93 h11)<|pc h12<|pc h13<|pc h14<|pc (ob91 h16)<|pc h17<|pn)
          · injection h with h; subst h; exact rf Tryz.func158 none [.b r4, .f, .f, .row (c93 x8), .row (c93 x10), .t, .t, .f] (pc (k_palingref15_Place h5)<|pc h6<|pc h7<|pc (ob93 h9)<|pc (ob93 h11)<|pc h12<|pc h13<|pc h14<|pn)
        · injection h with h; subst h; exact rf Tryz.func158 none [.b r4, .f, .f, .row (c93 x8), .row (c93 x10), .t, .f] (pc (k_palingref15_Place h5)<|pc h6<|pc h7<|pc (ob93 h9)<|pc (ob93 h11)<|pc h12<|pc h13<|pn)
      · injection h with h; subst h; exact rf Tryz.func158 none [.b r4, .f, .f, .row (c93 x8), .row (c93 x10), .f] (pc (k_palingref15_Place h5)<|pc h6<|pc h7<|pc (ob93 h9)<|pc (ob93 h11)<|pc h12<|pn)

end Go.Eng
