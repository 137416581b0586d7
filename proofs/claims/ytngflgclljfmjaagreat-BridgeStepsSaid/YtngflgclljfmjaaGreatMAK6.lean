/- Part of the proof of BridgeSteps: printed mirrors of the functions, or their contracts. No conditions. -/
import Derived.Test.YtngflgclljfmjaaGreatMAK5
set_option linter.unusedVariables false
set_option maxRecDepth 100000
namespace Go.Eng
open Go Go.Proofs
theorem k_palingref31_Step_J1 {a1 : Api_Net} {a2 : List Bool} {a3 : List Api_Entry} {a4 : Int} {a5 : Api_Queued} {a6 : Int} {r : (List Api_Entry)} (h : palingref31_Step_J1 a1 a2 a3 a4 a5 a6 = some r) :
    ExecOK Tryz.prog UU 0 192 (subC (codeOf Tryz.f33) [1, 1, 1, 1, 0]) [(1, .sl 4 a2), (2, .sl 84 a3), (3, .j a4), (5, .j a6), (6, .op 0 1 0 0), (10, .op 1 1 0 0), (12, .os 2 0), (13, .os 3 0), (14, .z), (18, .os 4 a3.length)] [.box 31 (c31 a1) false, .box 64 (c64 a5) false, .n 84, .n 163, .arr 84 a3 a3.length false] ((fun r => match r with | l31 => .nor) r) ((fun r => match r with | l31 => [(1, .sl 4 a2), (2, .sl 84 a3), (3, .j a4), (5, .j a6), (6, .op 0 1 0 0), (10, .op 1 1 0 0), (12, .os 2 0), (13, .os 3 0), (14, .z), (18, .os 4 l31.length)]) r) ((fun r => match r with | l31 => [.box 31 (c31 a1) false, .box 64 (c64 a5) false, .n 84, .n 163, .arr 84 l31 l31.length false]) r) := by
  unfold palingref31_Step_J1 at h
  obtain ⟨h17, h⟩|⟨h17, h⟩ := ite_out h
  · obtain ⟨l20, h19, h⟩ := bo h
    injection h with h; subst h; exact rl [1, 2, 3, 5, 6, 10, 12, 13, 14, 18] [0, 1, 2, 3, 5] [.t, .callo (.os 0 l20.length) [.arr 84 l20 l20.length false]] (pc h17<|pc (k_palingref26_Learn h19)<|pc (im84 l20)<|pn)
  · injection h with h; subst h; exact rl [1, 2, 3, 5, 6, 10, 12, 13, 14, 18] [0, 1, 2, 3, 4] [.f] (pc h17<|pn)

theorem k_palingref31_Step_J2 {a1 : Api_Net} {a2 : List Bool} {a3 : List Api_Entry} {a4 : Int} {a5 : Api_Queued} {a6 : Int} {l31 : List Api_Entry} {r : (List Api_Entry)} (h : palingref31_Step_J2 a1 a2 a3 a4 a5 a6 l31 = some r) :
    ExecOK Tryz.prog UU 0 192 (subC (codeOf Tryz.f33) [1, 1, 1, 1, 1, 0]) [(1, .sl 4 a2), (2, .sl 84 a3), (3, .j a4), (5, .j a6), (6, .op 0 1 0 0), (10, .op 1 1 0 0), (12, .os 2 0), (13, .os 3 0), (14, .z), (18, .os 4 l31.length)] [.box 31 (c31 a1) false, .box 64 (c64 a5) false, .n 84, .n 163, .arr 84 l31 l31.length false] ((fun r => match r with | l46 => .nor) r) ((fun r => match r with | l46 => [(1, .sl 4 a2), (3, .j a4), (6, .op 0 1 0 0), (10, .op 1 1 0 0), (12, .os 2 0), (13, .os 3 0), (14, .z), (18, .os 4 l46.length)]) r) ((fun r => match r with | l46 => [.box 31 (c31 a1) false, .box 64 (c64 a5) false, .n 84, .n 163, .arr 84 l46 l46.length false]) r) := by
  unfold palingref31_Step_J2 at h
  obtain ⟨h34, h⟩|⟨h34, h⟩ := ite_out h
  · obtain ⟨l37, h36, h⟩ := bo h
    injection h with h; subst h; exact rl [1, 3, 6, 10, 12, 13, 14, 18] [0, 1, 2, 3, 5] [.t, .callo (.os 0 l37.length) [.arr 84 l37 l37.length false]] (pc h34<|pc (k_palingref26_Learn h36)<|pc (im84 l37)<|pn)
  · injection h with h; subst h; exact rl [1, 3, 6, 10, 12, 13, 14, 18] [0, 1, 2, 3, 4] [.f] (pc h34<|pn)

theorem k_palingref31_Step_L3 {a1 : Api_Net} {a4 : Int} {a5 : Api_Queued} {l46 : List Api_Entry} {r63 : List Int} {r64 : List Int} : LoopOK Tryz.prog UU 0 192 (subC (codeOf Tryz.f33) [1, 1, 1, 1, 1, 1, 1, 1, 1, 1, 0, 1, 0, 0]) (fun s : (List Palingref31_Out) × Int => match s with | (l66, v67) => palingref31_Step_L3 a1 a4 a5 l46 r63 r64 l66 v67)
    (fun s : (List Palingref31_Out) × Int => (match s with | (l66, v67) => [(3, .j a4), (6, .op 0 1 0 0), (10, .op 1 1 0 0), (12, .os 2 0), (13, .os 3 0), (14, .z), (18, .os 4 l46.length), (24, .sl 3 r63), (25, .sl 3 r64), (27, .os 5 l66.length), (28, .j v67)] : Fr DD)) (fun s : (List Palingref31_Out) × Int => (match s with | (l66, v67) => [.box 31 (c31 a1) false, .box 64 (c64 a5) false, .n 84, .n 163, .arr 84 l46 l46.length true, .arr 163 l66 l66.length false] : Heap DD)) (fun r => match r with | l99 => .exit 0) (fun r => match r with | l99 => [(3, .j a4), (6, .op 0 1 0 0), (10, .op 1 1 0 0), (12, .os 2 0), (13, .os 3 0), (14, .z), (18, .os 4 l46.length), (25, .sl 3 r64), (27, .os 5 l99.length)]) (fun r => match r with | l99 => [.box 31 (c31 a1) false, .box 64 (c64 a5) false, .n 84, .n 163, .arr 84 l46 l46.length true, .arr 163 l99 l99.length false]) := by
  refine loop_sound3 (fun s q h => ?_) (fun r => ?_)
  · obtain ⟨l66, v67⟩ := s; replace h : palingref31_Step_L3 a1 a4 a5 l46 r63 r64 l66 v67 = some q := h
    unfold palingref31_Step_L3 at h
    obtain ⟨h68, h⟩|⟨h68, h⟩ := ite_out h
    · obtain ⟨x69, h70, h⟩ := bo h
      obtain ⟨r71, h72, h⟩ := bo h
      obtain ⟨l73, v74⟩ := r71
      obtain ⟨x75, h76, h⟩ := bo h
      obtain ⟨x77, h78, h⟩ := bo h
      obtain ⟨x79, h80, h⟩ := bo h
      obtain ⟨h81, h⟩|⟨h81, h⟩ := ite_out h
      · obtain ⟨r84, h83, h⟩ := bo h
        obtain ⟨h85, h⟩|⟨h85, h⟩ := ite_out h
        · injection h with h; subst h; exact rl [3, 6, 10, 12, 13, 14, 18, 24, 25, 27, 28] [0, 1, 2, 3, 4, 5] [.t, .sum [8] [] .nor [] [.box 31 (c31 a1) false, .box 64 (c64 a5) false, .n 84, .n 163, .arr 84 l46 l46.length true, .arr 163 l66 l66.length false, .arr 5 l73 l73.length false], .row (c3 x69), .callo (.tup [.os 0 l73.length, .j v74]) [.arr 5 l73 l73.length false], .row (c3 x75), .row (c3 x77), .row (c56 x79), .t, .frz [10, 11, 6], .callm [] (.agg (c163 r84)) [], .obj [] (.arr 163 [r84] (List.length [r84]) false), .obj [] (.arr 163 (l66 ++ [r84]) (List.length (l66 ++ [r84])) false)] (pc h68<|pc (ob3 h70)<|pc ((rfl : ([.box 31 (c31 a1) false, .box 64 (c64 a5) false, .n 84, .n 163, .arr 84 l46 l46.length true, .arr 163 l66 l66.length false, .arr 5 l73 l73.length false] : Heap DD) = [.box 31 (c31 a1) false, .box 64 (c64 a5) false, .n 84, .n 163, .arr 84 l46 l46.length true, .arr 163 l66 l66.length false, .arr 5 l73 l73.length false]))<|pc (k_palingref28_At h72)<|pc (im5 l73)<|pc (ob3 h76)<|pc (ob3 h78)<|pc (ob56 h80)<|pc h81<|pc (rn 0)<|pc (rn 0)<|pc (rn l73.length)<|pc (k_palingref31_lost h83)<|pc (bs_ob 163 [r84])<|pc (app_ob 163 (n := l66.length) (l := l66) (xs := [r84]) h85)<|pc ((rn (List.length [r84])))<|pn)
        · cases h
      · obtain ⟨r88, h87, h⟩ := bo h
        obtain ⟨h89, h⟩|⟨h89, h⟩ := ite_out h
        · injection h with h; subst h; exact rl [3, 6, 10, 12, 13, 14, 18, 24, 25, 27, 28] [0, 1, 2, 3, 4, 5] [.t, .sum [8] [] .nor [] [.box 31 (c31 a1) false, .box 64 (c64 a5) false, .n 84, .n 163, .arr 84 l46 l46.length true, .arr 163 l66 l66.length false, .arr 5 l73 l73.length false], .row (c3 x69), .callo (.tup [.os 0 l73.length, .j v74]) [.arr 5 l73 l73.length false], .row (c3 x75), .row (c3 x77), .row (c56 x79), .f, .frz [10, 11, 6], .callm [] (.agg (c163 r88)) [], .obj [] (.arr 163 [r88] (List.length [r88]) false), .obj [] (.arr 163 (l66 ++ [r88]) (List.length (l66 ++ [r88])) false)] (pc h68<|pc (ob3 h70)<|pc ((rfl : ([.box 31 (c31 a1) false, .box 64 (c64 a5) false, .n 84, .n 163, .arr 84 l46 l46.length true, .arr 163 l66 l66.length false, .arr 5 l73 l73.length false] : Heap DD) = [.box 31 (c31 a1) false, .box 64 (c64 a5) false, .n 84, .n 163, .arr 84 l46 l46.length true, .arr 163 l66 l66.length false, .arr 5 l73 l73.length false]))<|pc (k_palingref28_At h72)<|pc (im5 l73)<|pc (ob3 h76)<|pc (ob3 h78)<|pc (ob56 h80)<|pc h81<|pc (rn 0)<|pc (rn 0)<|pc (rn l73.length)<|pc (k_palingref31_lost h87)<|pc (bs_ob 163 [r88])<|pc (app_ob 163 (n := l66.length) (l := l66) (xs := [r88]) h89)<|pc ((rn (List.length [r88])))<|pn)
        · cases h
    · injection h with h; subst h; exact rl [3, 6, 10, 12, 13, 14, 18, 25, 27] [0, 1, 2, 3, 4, 5] [.f] (pc h68<|pn)
  · exact Ex.noConfusion

theorem k_palingref31_Step_L4 {a1 : Api_Net} {a4 : Int} {a5 : Api_Queued} {l46 : List Api_Entry} {r64 : List Int} : LoopOK Tryz.prog UU 0 192 (subC (codeOf Tryz.f33) [1, 1, 1, 1, 1, 1, 1, 1, 1, 1, 1, 0, 1, 0, 0]) (fun s : (List Palingref31_Out) × Int => match s with | (l102, v103) => palingref31_Step_L4 a1 a4 a5 l46 r64 l102 v103)
    (fun s : (List Palingref31_Out) × Int => (match s with | (l102, v103) => [(3, .j a4), (6, .op 0 1 0 0), (10, .op 1 1 0 0), (12, .os 2 0), (13, .os 3 0), (14, .z), (18, .os 4 l46.length), (25, .sl 3 r64), (27, .os 5 l102.length), (32, .j v103)] : Fr DD)) (fun s : (List Palingref31_Out) × Int => (match s with | (l102, v103) => [.box 31 (c31 a1) false, .box 64 (c64 a5) false, .n 84, .n 163, .arr 84 l46 l46.length true, .arr 163 l102 l102.length false] : Heap DD)) (fun r => match r with | l122 => .exit 2) (fun r => match r with | l122 => [(12, .os 0 0), (13, .os 1 0), (14, .z), (18, .os 2 l46.length), (27, .os 3 l122.length)]) (fun r => match r with | l122 => [.n 84, .n 163, .arr 84 l46 l46.length true, .arr 163 l122 l122.length false]) := by
  refine loop_sound3 (fun s q h => ?_) (fun r => ?_)
  · obtain ⟨l102, v103⟩ := s; replace h : palingref31_Step_L4 a1 a4 a5 l46 r64 l102 v103 = some q := h
    unfold palingref31_Step_L4 at h
    obtain ⟨h104, h⟩|⟨h104, h⟩ := ite_out h
    · obtain ⟨x105, h106, h⟩ := bo h
      obtain ⟨r107, h108, h⟩ := bo h
      obtain ⟨l109, v110⟩ := r107
      obtain ⟨x111, h112, h⟩ := bo h
      obtain ⟨r115, h114, h⟩ := bo h
      obtain ⟨h116, h⟩|⟨h116, h⟩ := ite_out h
      · injection h with h; subst h; exact rl [3, 6, 10, 12, 13, 14, 18, 25, 27, 32] [0, 1, 2, 3, 4, 5] [.t, .sum [8] [] .nor [] [.box 31 (c31 a1) false, .box 64 (c64 a5) false, .n 84, .n 163, .arr 84 l46 l46.length true, .arr 163 l102 l102.length false, .arr 5 l109 l109.length false], .row (c3 x105), .callo (.tup [.os 0 l109.length, .j v110]) [.arr 5 l109 l109.length false], .row (c3 x111), .frz [6], .callm [] (.agg (c163 r115)) [], .obj [] (.arr 163 [r115] (List.length [r115]) false), .obj [] (.arr 163 (l102 ++ [r115]) (List.length (l102 ++ [r115])) false)] (pc h104<|pc (ob3 h106)<|pc ((rfl : ([.box 31 (c31 a1) false, .box 64 (c64 a5) false, .n 84, .n 163, .arr 84 l46 l46.length true, .arr 163 l102 l102.length false, .arr 5 l109 l109.length false] : Heap DD) = [.box 31 (c31 a1) false, .box 64 (c64 a5) false, .n 84, .n 163, .arr 84 l46 l46.length true, .arr 163 l102 l102.length false, .arr 5 l109 l109.length false]))<|pc (k_palingref28_Mesh h108)<|pc (im5 l109)<|pc (ob3 h112)<|pc (rn l109.length)<|pc (k_palingref31_lost h114)<|pc (bs_ob 163 [r115])<|pc (app_ob 163 (n := l102.length) (l := l102) (xs := [r115]) h116)<|pc ((rn (List.length [r115])))<|pn)
      · cases h
    · injection h with h; subst h; exact rl [12, 13, 14, 18, 27] [2, 3, 4, 5] [.f] (pc h104<|pn)
  · exact Ex.noConfusion

theorem k_palingref31_Step {a1 : Api_Net} {a2 : List Bool} {a3 : List Api_Entry} {a4 : Int} {a5 : Api_Queued} {a6 : Int} {r : ((List Api_Entry) × (List Palingref31_Out) × Int)} (h : palingref31_Step a1 a2 a3 a4 a5 a6 = some r) :
    CallsOK Tryz.prog UU 33 [.agg (c31 a1), .sl 4 a2, .sl 84 a3, .j a4, .agg (c64 a5), .j a6] [] ((fun r => match r with | (r125, r126, r127) => .tup [.sl 84 r125, .sl 163 r126, .j r127]) r) ((fun r => match r with | (r125, r126, r127) => []) r) := by
  unfold palingref31_Step at h
  obtain ⟨r7, h8, h⟩ := bo h
  obtain ⟨r9, r10, r11⟩ := r7
  obtain ⟨h12, h⟩|⟨h12, h⟩ := ite_out h
  · injection h with h; subst h; exact runFz_sound mixedOrders Tryz.func33 rfl (ids := []) (fz := [4, 5]) (π := [.callm [] (.tup [.sl 3 r9, .sl 3 r10, .j r11]) [], .t]) (hrun := by kernel_rfl) (hps := pc (k_palingref29_Flood h8)<|pc h12<|pc (rn 0)<|pc (rn 0)<|pn)
  · obtain ⟨r13, h14, h⟩ := bo h
    obtain ⟨h15, h⟩|⟨h15, h⟩ := ite_out h
    · injection h with h; subst h; exact runFz_sound mixedOrders Tryz.func33 rfl (ids := []) (fz := [4, 5]) (π := [.callm [] (.tup [.sl 3 r9, .sl 3 r10, .j r11]) [], .f, .b r13, .t]) (hrun := by kernel_rfl) (hps := pc (k_palingref29_Flood h8)<|pc h12<|pc (k_palingref26_Right h14)<|pc h15<|pc (rn 0)<|pc (rn 0)<|pn)
    · obtain ⟨h16, h⟩|⟨h16, h⟩ := ite_out h
      · obtain ⟨l31, h32, h⟩ := bo h
        obtain ⟨l46, h47, h⟩ := bo h
        obtain ⟨r49, h50, h⟩ := bo h
        obtain ⟨h51, h⟩|⟨h51, h⟩ := ite_out h
        · obtain ⟨r52, h53, h⟩ := bo h
          obtain ⟨l54, v55, v56, v57, v58, v59⟩ := r52
          obtain ⟨h60, h⟩|⟨h60, h⟩ := ite_out h
          · injection h with h; subst h; exact runFz_sound mixedOrders Tryz.func33 rfl (ids := []) (fz := [4, 8]) (π := [.callm [] (.tup [.sl 3 r9, .sl 3 r10, .j r11]) [], .f, .b r13, .f, .obj [] (.n 84), .obj [] (.arr 84 (a3) a3.length false), .cut [1, 2, 3, 5, 6, 10, 12, 13, 14, 18] [0, 1, 2, 3, 4] .nor [(1, .sl 4 a2), (2, .sl 84 a3), (3, .j a4), (5, .j a6), (6, .op 0 1 0 0), (10, .op 1 1 0 0), (12, .os 2 0), (13, .os 3 0), (14, .z), (18, .os 4 l31.length)] [.box 31 (c31 a1) false, .box 64 (c64 a5) false, .n 84, .n 163, .arr 84 l31 l31.length false], .cut [1, 2, 3, 5, 6, 10, 12, 13, 14, 18] [0, 1, 2, 3, 4] .nor [(1, .sl 4 a2), (3, .j a4), (6, .op 0 1 0 0), (10, .op 1 1 0 0), (12, .os 2 0), (13, .os 3 0), (14, .z), (18, .os 4 l46.length)] [.box 31 (c31 a1) false, .box 64 (c64 a5) false, .n 84, .n 163, .arr 84 l46 l46.length false], .callv (.tup [.v (.int .i64 r49.1), .v (.bool r49.2)]), .t, .callo (.tup [.j v55, .agg [.v (.int .u64 v56), .v (.int .u64 v57), .j v58, .os 0 l54.length], .j v59]) [.arr 5 l54 l54.length false], .t]) (hrun := by kernel_rfl) (hps := pc (k_palingref29_Flood h8)<|pc h12<|pc (k_palingref26_Right h14)<|pc h15<|pc (bs_ob 84 [])<|pc (app_ob 84 (n := 0) (l := []) (xs := a3) h16)<|pc (k_palingref31_Step_J1 h32)<|pc (k_palingref31_Step_J2 h47)<|pc (k_palingref20_Router h50)<|pc h51<|pc (k_palingref30_Hop h53)<|pc (im5 l54)<|pc h60<|pc (rn l46.length)<|pc (rn 0)<|pn)
          · injection h with h; subst h; exact runFz_sound mixedOrders Tryz.func33 rfl (ids := []) (fz := [4, 8]) (π := [.callm [] (.tup [.sl 3 r9, .sl 3 r10, .j r11]) [], .f, .b r13, .f, .obj [] (.n 84), .obj [] (.arr 84 (a3) a3.length false), .cut [1, 2, 3, 5, 6, 10, 12, 13, 14, 18] [0, 1, 2, 3, 4] .nor [(1, .sl 4 a2), (2, .sl 84 a3), (3, .j a4), (5, .j a6), (6, .op 0 1 0 0), (10, .op 1 1 0 0), (12, .os 2 0), (13, .os 3 0), (14, .z), (18, .os 4 l31.length)] [.box 31 (c31 a1) false, .box 64 (c64 a5) false, .n 84, .n 163, .arr 84 l31 l31.length false], .cut [1, 2, 3, 5, 6, 10, 12, 13, 14, 18] [0, 1, 2, 3, 4] .nor [(1, .sl 4 a2), (3, .j a4), (6, .op 0 1 0 0), (10, .op 1 1 0 0), (12, .os 2 0), (13, .os 3 0), (14, .z), (18, .os 4 l46.length)] [.box 31 (c31 a1) false, .box 64 (c64 a5) false, .n 84, .n 163, .arr 84 l46 l46.length false], .callv (.tup [.v (.int .i64 r49.1), .v (.bool r49.2)]), .t, .callo (.tup [.j v55, .agg [.v (.int .u64 v56), .v (.int .u64 v57), .j v58, .os 0 l54.length], .j v59]) [.arr 5 l54 l54.length false], .f, .sum [4] [] .nor [] [.box 31 (c31 a1) false, .box 64 (c64 a5) false, .n 84, .n 163, .arr 84 l46 l46.length false, .arr 5 l54 l54.length true, .n 5, .box 62 [.v (.int .u64 v56), .v (.int .u64 v57), .j v58, .os 5 l54.length] false, .arr 163 [(⟨4, 0, v55, [], (⟨v56, v57, v58, l54⟩ : Api_Frame), 0⟩ : Palingref31_Out)] (List.length [(⟨4, 0, v55, [], (⟨v56, v57, v58, l54⟩ : Api_Frame), 0⟩ : Palingref31_Out)]) false], .obj [5] (.arr 163 [(⟨4, 0, v55, [], (⟨v56, v57, v58, l54⟩ : Api_Frame), 0⟩ : Palingref31_Out)] (List.length [(⟨4, 0, v55, [], (⟨v56, v57, v58, l54⟩ : Api_Frame), 0⟩ : Palingref31_Out)]) false)]) (hrun := by kernel_rfl) (hps := pc (k_palingref29_Flood h8)<|pc h12<|pc (k_palingref26_Right h14)<|pc h15<|pc (bs_ob 84 [])<|pc (app_ob 84 (n := 0) (l := []) (xs := a3) h16)<|pc (k_palingref31_Step_J1 h32)<|pc (k_palingref31_Step_J2 h47)<|pc (k_palingref20_Router h50)<|pc h51<|pc (k_palingref30_Hop h53)<|pc (im5 l54)<|pc h60<|pc ((rfl : (.os 4 l46.length : AV DD) = .os 4 l46.length))<|pc ((rfl : ([.box 31 (c31 a1) false, .box 64 (c64 a5) false, .n 84, .n 163, .arr 84 l46 l46.length false, .arr 5 l54 l54.length true, .n 5, .box 62 [.v (.int .u64 v56), .v (.int .u64 v57), .j v58, .os 5 l54.length] false, .arr 163 [(⟨4, 0, v55, [], (⟨v56, v57, v58, l54⟩ : Api_Frame), 0⟩ : Palingref31_Out)] (List.length [(⟨4, 0, v55, [], (⟨v56, v57, v58, l54⟩ : Api_Frame), 0⟩ : Palingref31_Out)]) false] : Heap DD) = [.box 31 (c31 a1) false, .box 64 (c64 a5) false, .n 84, .n 163, .arr 84 l46 l46.length false, .arr 5 l54 l54.length true, .n 5, .box 62 [.v (.int .u64 v56), .v (.int .u64 v57), .j v58, .os 5 l54.length] false, .arr 163 [(⟨4, 0, v55, [], (⟨v56, v57, v58, l54⟩ : Api_Frame), 0⟩ : Palingref31_Out)] (List.length [(⟨4, 0, v55, [], (⟨v56, v57, v58, l54⟩ : Api_Frame), 0⟩ : Palingref31_Out)]) false]))<|pc (bs_ob 163 [(⟨4, 0, v55, [], (⟨v56, v57, v58, l54⟩ : Api_Frame), 0⟩ : Palingref31_Out)])<|pc (rn l54.length)<|pc ((rfl : (.os 4 l46.length : AV DD) = .os 4 l46.length))<|pc (rn l46.length)<|pc ((rn (List.length [(⟨4, 0, v55, [], (⟨v56, v57, v58, l54⟩ : Api_Frame), 0⟩ : Palingref31_Out)])))<|pn)
        · obtain ⟨r61, h62, h⟩ := bo h
          obtain ⟨r63, r64, r65⟩ := r61
          obtain ⟨l99, h100, h⟩ := bo h
          obtain ⟨l122, h123, h⟩ := bo h
          injection h with h; subst h; exact runFz_sound mixedOrders Tryz.func33 rfl (ids := []) (fz := [2, 3]) (π := [.callm [] (.tup [.sl 3 r9, .sl 3 r10, .j r11]) [], .f, .b r13, .f, .obj [] (.n 84), .obj [] (.arr 84 (a3) a3.length false), .cut [1, 2, 3, 5, 6, 10, 12, 13, 14, 18] [0, 1, 2, 3, 4] .nor [(1, .sl 4 a2), (2, .sl 84 a3), (3, .j a4), (5, .j a6), (6, .op 0 1 0 0), (10, .op 1 1 0 0), (12, .os 2 0), (13, .os 3 0), (14, .z), (18, .os 4 l31.length)] [.box 31 (c31 a1) false, .box 64 (c64 a5) false, .n 84, .n 163, .arr 84 l31 l31.length false], .cut [1, 2, 3, 5, 6, 10, 12, 13, 14, 18] [0, 1, 2, 3, 4] .nor [(1, .sl 4 a2), (3, .j a4), (6, .op 0 1 0 0), (10, .op 1 1 0 0), (12, .os 2 0), (13, .os 3 0), (14, .z), (18, .os 4 l46.length)] [.box 31 (c31 a1) false, .box 64 (c64 a5) false, .n 84, .n 163, .arr 84 l46 l46.length false], .callv (.tup [.v (.int .i64 r49.1), .v (.bool r49.2)]), .f, .frz [4], .callm [] (.tup [.sl 3 r63, .sl 3 r64, .j r65]) [], .sum [3, 6, 10, 12, 13, 14, 18, 24, 25, 27, 28] [0, 1, 2, 3, 4, 5] (.exit 0) [(3, .j a4), (6, .op 0 1 0 0), (10, .op 1 1 0 0), (12, .os 2 0), (13, .os 3 0), (14, .z), (18, .os 4 l46.length), (25, .sl 3 r64), (27, .os 5 l99.length)] [.box 31 (c31 a1) false, .box 64 (c64 a5) false, .n 84, .n 163, .arr 84 l46 l46.length true, .arr 163 l99 l99.length false], .sum [3, 6, 10, 12, 13, 14, 18, 25, 27, 32] [0, 1, 2, 3, 4, 5] (.exit 2) [(12, .os 0 0), (13, .os 1 0), (14, .z), (18, .os 2 l46.length), (27, .os 3 l122.length)] [.n 84, .n 163, .arr 84 l46 l46.length true, .arr 163 l122 l122.length false]]) (hrun := by kernel_rfl) (hps := pc (k_palingref29_Flood h8)<|pc h12<|pc (k_palingref26_Right h14)<|pc h15<|pc (bs_ob 84 [])<|pc (app_ob 84 (n := 0) (l := []) (xs := a3) h16)<|pc (k_palingref31_Step_J1 h32)<|pc (k_palingref31_Step_J2 h47)<|pc (k_palingref20_Router h50)<|pc h51<|pc (rn l46.length)<|pc (k_palingref29_Decide h62)<|pc (k_palingref31_Step_L3 _ _ h100)<|pc (k_palingref31_Step_L4 _ _ h123)<|pc (rn l46.length)<|pc (rn l122.length)<|pn)
      · cases h

theorem k_palingref26_Same_L1 {a1 : List Api_Entry} {a2 : List Api_Entry} : LoopOK Tryz.prog UU 0 26 (subC (codeOf Tryz.f34) [1, 1, 0, 1, 0, 0]) (ρ := Unit ⊕ Unit) (palingref26_Same_L1 a1 a2)
    (fun v4 : Int => ([(0, .sl 84 a1), (1, .sl 84 a2), (4, .v (.bool false)), (5, .j v4)] : Fr DD)) (fun v4 : Int => ([] : Heap DD)) (fun r => match r with | Sum.inl _ => .ret | Sum.inr _ => .exit 0) (fun r => match r with | Sum.inl _ => [(4, .v (.bool false))] | Sum.inr _ => [(4, .v (.bool false))]) (fun r => match r with | Sum.inl _ => [] | Sum.inr _ => []) := by
  refine loop_sound3 (fun s q h => ?_) (fun r => ?_)
  · replace h : palingref26_Same_L1 a1 a2 s = some q := h; revert h; revert s; intro v4 h
    unfold palingref26_Same_L1 at h
    obtain ⟨h5, h⟩|⟨h5, h⟩ := ite_out h
    · obtain ⟨x6, h7, h⟩ := bo h
      obtain ⟨x8, h9, h⟩ := bo h
      obtain ⟨h10, h⟩|⟨h10, h⟩ := ite_out h
      · injection h with h; subst h; exact rl [4] [] [.t, .row (c84 x6), .row (c84 x8), .t] (pc h5<|pc (ob84 h7)<|pc (ob84 h9)<|pc h10<|pn)
      · injection h with h; subst h; exact rl [0, 1, 4, 5] [] [.t, .row (c84 x6), .row (c84 x8), .f] (pc h5<|pc (ob84 h7)<|pc (ob84 h9)<|pc h10<|pn)
    · injection h with h; subst h; exact rl [4] [] [.f] (pc h5<|pn)
  · rcases r with _ | _ <;> exact Ex.noConfusion

theorem k_palingref26_Same {a1 : List Api_Entry} {a2 : List Api_Entry} {r : Bool} (h : palingref26_Same a1 a2 = some r) :
    CallsOK Tryz.prog UU 34 [.sl 84 a1, .sl 84 a2] [] (.v (.bool r)) [] := by
  unfold palingref26_Same at h
  obtain ⟨h3, h⟩|⟨h3, h⟩ := ite_out h
  · injection h with h; subst h; exact rf Tryz.func34 none [.t] (pc h3<|pn)
  · obtain ⟨r12, h11, h⟩ := bo h
    rcases r12 with _ | _
    · injection h with h; subst h; exact rf Tryz.func34 none [.f, .sum [0, 1, 4, 5] [] .ret [(4, .v (.bool false))] []] (pc h3<|pc (k_palingref26_Same_L1 _ _ h11)<|pn)
    · injection h with h; subst h; exact rf Tryz.func34 none [.f, .sum [0, 1, 4, 5] [] (.exit 0) [(4, .v (.bool false))] []] (pc h3<|pc (k_palingref26_Same_L1 _ _ h11)<|pn)

theorem k_palinglaw31_told_L1 {a1 : List Bridge_Out} : LoopOK Tryz.prog UU 0 30 (subC (codeOf Tryz.f36) [1, 1, 0, 1, 0, 0]) (fun s : (List Palingref31_Out) × Int => match s with | (l2, v3) => palinglaw31_told_L1 a1 l2 v3)
    (fun s : (List Palingref31_Out) × Int => (match s with | (l2, v3) => [(2, .os 0 0), (3, .os 1 l2.length), (6, .sl 77 a1), (7, .j (a1.length : Int)), (8, .j v3)] : Fr DD)) (fun s : (List Palingref31_Out) × Int => (match s with | (l2, v3) => [.n 163, .arr 163 l2 l2.length false] : Heap DD)) (fun r => match r with | l10 => .exit 0) (fun r => match r with | l10 => [(2, .os 0 0), (3, .os 1 l10.length)]) (fun r => match r with | l10 => [.n 163, .arr 163 l10 l10.length false]) := by
  refine loop_sound3 (fun s q h => ?_) (fun r => ?_)
  · obtain ⟨l2, v3⟩ := s; replace h : palinglaw31_told_L1 a1 l2 v3 = some q := h
    unfold palinglaw31_told_L1 at h
    obtain ⟨h4, h⟩|⟨h4, h⟩ := ite_out h
    · obtain ⟨x5, h6, h⟩ := bo h
      obtain ⟨h7, h⟩|⟨h7, h⟩ := ite_out h
      · injection h with h; subst h; exact rl [2, 3, 6, 7, 8] [0, 1] [.t, .row (c77 x5), .obj [] (.arr 163 [(⟨x5.kind, x5.port, x5.domain, x5.bytes, x5.frame, x5.error⟩ : Palingref31_Out)] (List.length [(⟨x5.kind, x5.port, x5.domain, x5.bytes, x5.frame, x5.error⟩ : Palingref31_Out)]) false), .obj [] (.arr 163 (l2 ++ [(⟨x5.kind, x5.port, x5.domain, x5.bytes, x5.frame, x5.error⟩ : Palingref31_Out)]) (List.length (l2 ++ [(⟨x5.kind, x5.port, x5.domain, x5.bytes, x5.frame, x5.error⟩ : Palingref31_Out)])) false)] (pc h4<|pc (ob77 h6)<|pc (bs_ob 163 [(⟨x5.kind, x5.port, x5.domain, x5.bytes, x5.frame, x5.error⟩ : Palingref31_Out)])<|pc (app_ob 163 (n := l2.length) (l := l2) (xs := [(⟨x5.kind, x5.port, x5.domain, x5.bytes, x5.frame, x5.error⟩ : Palingref31_Out)]) h7)<|pc ((rn (List.length [(⟨x5.kind, x5.port, x5.domain, x5.bytes, x5.frame, x5.error⟩ : Palingref31_Out)])))<|pn)
      · cases h
    · injection h with h; subst h; exact rl [2, 3] [0, 1] [.f] (pc h4<|pn)
  · exact Ex.noConfusion

theorem k_palinglaw31_told {a1 : List Bridge_Out} {r : ((List Palingref31_Out))} (h : palinglaw31_told a1 = some r) :
    CallsOK Tryz.prog UU 36 [.sl 77 a1] [] ((fun r => match r with | l13 => .os 0 l13.length) r) ((fun r => match r with | l13 => [.arr 163 l13 l13.length false]) r) := by
  unfold palinglaw31_told at h
  obtain ⟨l10, h11, h⟩ := bo h
  injection h with h; subst h; exact rf Tryz.func36 (some [1]) [.sum [2, 3, 6, 7, 8] [0, 1] (.exit 0) [(2, .os 0 0), (3, .os 1 l10.length)] [.n 163, .arr 163 l10 l10.length false]] (pc (k_palinglaw31_told_L1 _ _ h11)<|pn)

theorem k_palingref04_Same {a1 : Api_Frame} {a2 : Api_Frame} {r : Bool} (h : palingref04_Same a1 a2 = some r) :
    CallsOK Tryz.prog UU 121 [.agg (c62 a1), .agg (c62 a2)] [] (.v (.bool r)) [] := by
  unfold palingref04_Same at h
  obtain ⟨h3, h⟩|⟨h3, h⟩ := ite_out h
  · obtain ⟨h4, h⟩|⟨h4, h⟩ := ite_out h
    · obtain ⟨h5, h⟩|⟨h5, h⟩ := ite_out h
      · injection h with h; subst h; exact rf Tryz.func121 none [.t, .t, .t, .callv (.v (.string (bstr a1.body))), .callv (.v (.string (bstr a2.body)))] (pc h3<|pc h4<|pc h5<|pc (cvb5 a1.body)<|pc (cvb5 a2.body)<|pn)
      · injection h with h; subst h; exact rf Tryz.func121 none [.t, .t, .f] (pc h3<|pc h4<|pc h5<|pn)
    · injection h with h; subst h; exact rf Tryz.func121 none [.t, .f] (pc h3<|pc h4<|pn)
  · injection h with h; subst h; exact rf Tryz.func121 none [.f] (pc h3<|pn)

theorem k_palingref31_Same_L1 {a1 : List Palingref31_Out} {a2 : List Palingref31_Out} : LoopOK Tryz.prog UU 0 70 (subC (codeOf Tryz.f35) [1, 1, 0, 1, 0, 0]) (ρ := Unit ⊕ Unit) (palingref31_Same_L1 a1 a2)
    (fun v4 : Int => ([(0, .sl 163 a1), (1, .sl 163 a2), (4, .v (.bool false)), (5, .j v4)] : Fr DD)) (fun v4 : Int => ([] : Heap DD)) (fun r => match r with | Sum.inl _ => .ret | Sum.inr _ => .exit 0) (fun r => match r with | Sum.inl _ => [(4, .v (.bool false))] | Sum.inr _ => [(4, .v (.bool false))]) (fun r => match r with | Sum.inl _ => [] | Sum.inr _ => []) := by
  refine loop_sound3 (fun s q h => ?_) (fun r => ?_)
  · replace h : palingref31_Same_L1 a1 a2 s = some q := h; revert h; revert s; intro v4 h
    unfold palingref31_Same_L1 at h
    obtain ⟨h5, h⟩|⟨h5, h⟩ := ite_out h
    · obtain ⟨x6, h7, h⟩ := bo h
      obtain ⟨x8, h9, h⟩ := bo h
      obtain ⟨h10, h⟩|⟨h10, h⟩ := ite_out h
      · injection h with h; subst h; exact rl [4] [] [.t, .row (c163 x6), .row (c163 x8), .t] (pc h5<|pc (ob163 h7)<|pc (ob163 h9)<|pc h10<|pn)
      · obtain ⟨h11, h⟩|⟨h11, h⟩ := ite_out h
        · injection h with h; subst h; exact rl [4] [] [.t, .row (c163 x6), .row (c163 x8), .f, .t] (pc h5<|pc (ob163 h7)<|pc (ob163 h9)<|pc h10<|pc h11<|pn)
        · obtain ⟨h12, h⟩|⟨h12, h⟩ := ite_out h
          · injection h with h; subst h; exact rl [4] [] [.t, .row (c163 x6), .row (c163 x8), .f, .f, .t] (pc h5<|pc (ob163 h7)<|pc (ob163 h9)<|pc h10<|pc h11<|pc h12<|pn)
          · obtain ⟨h13, h⟩|⟨h13, h⟩ := ite_out h
            · injection h with h; subst h; exact rl [4] [] [.t, .row (c163 x6), .row (c163 x8), .f, .f, .f, .t] (pc h5<|pc (ob163 h7)<|pc (ob163 h9)<|pc h10<|pc h11<|pc h12<|pc h13<|pn)
            · obtain ⟨h14, h⟩|⟨h14, h⟩ := ite_out h
              · injection h with h; subst h; exact rl [4] [] [.t, .row (c163 x6), .row (c163 x8), .f, .f, .f, .f, .callv (.v (.string (bstr x6.bytes))), .callv (.v (.string (bstr x8.bytes))), .t] (pc h5<|pc (ob163 h7)<|pc (ob163 h9)<|pc h10<|pc h11<|pc h12<|pc h13<|pc (cvb5 x6.bytes)<|pc (cvb5 x8.bytes)<|pc h14<|pn)
              · obtain ⟨r15, h16, h⟩ := bo h
                obtain ⟨h17, h⟩|⟨h17, h⟩ := ite_out h
                · injection h with h; subst h; exact rl [4] [] [.t, .row (c163 x6), .row (c163 x8), .f, .f, .f, .f, .callv (.v (.string (bstr x6.bytes))), .callv (.v (.string (bstr x8.bytes))), .f, .b r15, .t] (pc h5<|pc (ob163 h7)<|pc (ob163 h9)<|pc h10<|pc h11<|pc h12<|pc h13<|pc (cvb5 x6.bytes)<|pc (cvb5 x8.bytes)<|pc h14<|pc (k_palingref04_Same h16)<|pc h17<|pn)
                · injection h with h; subst h; exact rl [0, 1, 4, 5] [] [.t, .row (c163 x6), .row (c163 x8), .f, .f, .f, .f, .callv (.v (.string (bstr x6.bytes))), .callv (.v (.string (bstr x8.bytes))), .f, .b r15, .f] (pc h5<|pc (ob163 h7)<|pc (ob163 h9)<|pc h10<|pc h11<|pc h12<|pc h13<|pc (cvb5 x6.bytes)<|pc (cvb5 x8.bytes)<|pc h14<|pc (k_palingref04_Same h16)<|pc h17<|pn)
    · injection h with h; subst h; exact rl [4] [] [.f] (pc h5<|pn)
  · rcases r with _ | _ <;> exact Ex.noConfusion

theorem k_palingref31_Same {a1 : List Palingref31_Out} {a2 : List Palingref31_Out} {r : Bool} (h : palingref31_Same a1 a2 = some r) :
    CallsOK Tryz.prog UU 35 [.sl 163 a1, .sl 163 a2] [] (.v (.bool r)) [] := by
  unfold palingref31_Same at h
  obtain ⟨h3, h⟩|⟨h3, h⟩ := ite_out h
  · injection h with h; subst h; exact rf Tryz.func35 none [.t] (pc h3<|pn)
  · obtain ⟨r19, h18, h⟩ := bo h
    rcases r19 with _ | _
    · injection h with h; subst h; exact rf Tryz.func35 none [.f, .sum [0, 1, 4, 5] [] .ret [(4, .v (.bool false))] []] (pc h3<|pc (k_palingref31_Same_L1 _ _ h18)<|pn)
    · injection h with h; subst h; exact rf Tryz.func35 none [.f, .sum [0, 1, 4, 5] [] (.exit 0) [(4, .v (.bool false))] []] (pc h3<|pc (k_palingref31_Same_L1 _ _ h18)<|pn)

theorem k_palinglaw31_BridgeSteps {a1 : Api_Net} {a2 : List Bool} {a3 : List Api_Entry} {a4 : Int} {a5 : Api_Queued} {a6 : Int} {r : Bool} (h : palinglaw31_BridgeSteps a1 a2 a3 a4 a5 a6 = some r) :
    CallsOK Tryz.prog UU 6 [.agg (c31 a1), .sl 4 a2, .sl 84 a3, .j a4, .agg (c64 a5), .j a6] [] (.v (.bool r)) [] := by
  unfold palinglaw31_BridgeSteps at h
  obtain ⟨r7, h8, h⟩ := bo h
  obtain ⟨h9, h⟩|⟨h9, h⟩ := ite_out h
  · obtain ⟨r10, h11, h⟩ := bo h
    injection h with h; subst h; exact rf Tryz.func6 none [.b r7, .t, .b r10] (pc (k_palinglaw31_Great h8)<|pc h9<|pc (k_palinglaw31_works h11)<|pn)
  · obtain ⟨r12, h13, h⟩ := bo h
    obtain ⟨r14, r15, r16⟩ := r12
    obtain ⟨r17, h18, h⟩ := bo h
    obtain ⟨r19, r20, r21⟩ := r17
    obtain ⟨r22, h23, h⟩ := bo h
    obtain ⟨h24, h⟩|⟨h24, h⟩ := ite_out h
    · obtain ⟨l27, h26, h⟩ := bo h
      obtain ⟨r28, h29, h⟩ := bo h
      obtain ⟨h30, h⟩|⟨h30, h⟩ := ite_out h
      · obtain ⟨h31, h⟩|⟨h31, h⟩ := ite_out h
        · obtain ⟨r32, h33, h⟩ := bo h
          injection h with h; subst h; exact rf Tryz.func6 none [.b r7, .f, .callm [] (.tup [.sl 84 r14, .sl 77 r15, .j r16]) [], .callm [] (.tup [.sl 84 r19, .sl 163 r20, .j r21]) [], .b r22, .t, .callm [] (.os 0 l27.length) [.arr 163 l27 l27.length false], .b r28, .t, .t, .b r32] (pc (k_palinglaw31_Great h8)<|pc h9<|pc (k_bridge_Step h13)<|pc (k_palingref31_Step h18)<|pc (k_palingref26_Same h23)<|pc h24<|pc (k_palinglaw31_told h26)<|pc (k_palingref31_Same h29)<|pc (rn l27.length)<|pc h30<|pc h31<|pc (k_palinglaw31_works h33)<|pn)
        · injection h with h; subst h; exact rf Tryz.func6 none [.b r7, .f, .callm [] (.tup [.sl 84 r14, .sl 77 r15, .j r16]) [], .callm [] (.tup [.sl 84 r19, .sl 163 r20, .j r21]) [], .b r22, .t, .callm [] (.os 0 l27.length) [.arr 163 l27 l27.length false], .b r28, .t, .f] (pc (k_palinglaw31_Great h8)<|pc h9<|pc (k_bridge_Step h13)<|pc (k_palingref31_Step h18)<|pc (k_palingref26_Same h23)<|pc h24<|pc (k_palinglaw31_told h26)<|pc (k_palingref31_Same h29)<|pc (rn l27.length)<|pc h30<|pc h31<|pn)
      · injection h with h; subst h; exact rf Tryz.func6 none [.b r7, .f, .callm [] (.tup [.sl 84 r14, .sl 77 r15, .j r16]) [], .callm [] (.tup [.sl 84 r19, .sl 163 r20, .j r21]) [], .b r22, .t, .callm [] (.os 0 l27.length) [.arr 163 l27 l27.length false], .b r28, .f] (pc (k_palinglaw31_Great h8)<|pc h9<|pc (k_bridge_Step h13)<|pc (k_palingref31_Step h18)<|pc (k_palingref26_Same h23)<|pc h24<|pc (k_palinglaw31_told h26)<|pc (k_palingref31_Same h29)<|pc (rn l27.length)<|pc h30<|pn)
    · injection h with h; subst h; exact rf Tryz.func6 none [.b r7, .f, .callm [] (.tup [.sl 84 r14, .sl 77 r15, .j r16]) [], .callm [] (.tup [.sl 84 r19, .sl 163 r20, .j r21]) [], .b r22, .f] (pc (k_palinglaw31_Great h8)<|pc h9<|pc (k_bridge_Step h13)<|pc (k_palingref31_Step h18)<|pc (k_palingref26_Same h23)<|pc h24<|pn)

end Go.Eng
