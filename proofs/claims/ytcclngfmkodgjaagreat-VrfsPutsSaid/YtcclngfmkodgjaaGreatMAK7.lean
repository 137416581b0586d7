/- Part of the proof of VrfsPuts: printed mirrors of the functions, or their contracts. No conditions. -/
import Derived.Test.YtcclngfmkodgjaaGreatMAK6
set_option linter.unusedVariables false
set_option maxRecDepth 100000
namespace Go.Eng
open Go Go.Proofs
theorem k_palingref11_Read_J2 {a1 : List ByteArray} {a2 : Int} {r3 : ByteArray} {r : Bool} (h : palingref11_Read_J2 a1 a2 r3 = some r) :
  ExecOK Tryz.prog UU 0 97 (subC (codeOf Tryz.f184) [1, 1, 0, 0]) [(0, .sl 9 a1), (1, .j a2), (4, .o 0), (5, .z), (6, .x r3)] [.box 37 [.z, .z, .e, .e, .e, .e, .e, .v (.int .u64 0), .v (.int .u32 0), .z, .z, .z, .z, .os 1 0, .os 2 0, .os 3 0, .os 4 0] false, .n 3, .n 3, .n 3, .n 33] ((fun r => match r with | v7 => .nor) r) ((fun r => match r with | v7 => [(0, .sl 9 a1), (1, .j a2), (4, .o 0), (5, .z), (6, .x r3), (22, .y v7)]) r) ((fun r => match r with | v7 => [.box 37 [.z, .z, .e, .e, .e, .e, .e, .v (.int .u64 0), .v (.int .u32 0), .z, .z, .z, .z, .os 1 0, .os 2 0, .os 3 0, .os 4 0] false, .n 3, .n 3, .n 3, .n 33]) r) := by
 unfold palingref11_Read_J2 at h
 obtain ⟨h5, h⟩|⟨h5, h⟩ := ite_out h
 ·obtain rfl := oi h; exact rl [0, 1, 4, 5, 6, 22] [0, 1, 2, 3, 4] [.t] (pc h5<|pn)
 ·obtain rfl := oi h; exact rl [0, 1, 4, 5, 6, 22] [0, 1, 2, 3, 4] [.f] (pc h5<|pn)

def b0_k_palingref11_Read_J1 : List (AObj DD) := [.box 37 [.z, .z, .e, .e, .e, .e, .e, .v (.int .u64 0), .v (.int .u32 0), .z, .z, .z, .z, .os 1 0, .os 2 0, .os 3 0, .os 4 0] false, .n 3, .n 3, .n 3, .n 33]
def b1_k_palingref11_Read_J1 : AObj DD := .box 37 [.z, .z, .e, .e, .e, .e, .e, .v (.int .u64 0), .v (.int .u32 0), .z, .z, .z, .z, .os 1 0, .os 2 0, .os 3 0, .os 4 0] false
theorem k_palingref11_Read_J1 {a1 : List ByteArray} {a2 : Int} {r3 : ByteArray} {r : ByteArray ⊕ Unit} (h : palingref11_Read_J1 a1 a2 r3 = some r) :
  ExecOK Tryz.prog UU 0 97 (subC (codeOf Tryz.f184) [1, 1, 0]) [(0, .sl 9 a1), (1, .j a2), (4, .o 0), (5, .z), (6, .x r3)] b0_k_palingref11_Read_J1 ((fun r => match r with | Sum.inl v24 => .nor | Sum.inr _ => .ret) r) ((fun r => match r with | Sum.inl v24 => [(0, .sl 9 a1), (1, .j a2), (4, .o 0), (5, .z), (6, .x v24)] | Sum.inr _ => [(4, .o 0), (5, .j 22)]) r) ((fun r => match r with | Sum.inl v24 => b0_k_palingref11_Read_J1 | Sum.inr _ => b0_k_palingref11_Read_J1) r) := by
 unfold palingref11_Read_J1 at h
 obtain ⟨v7, h8, h⟩ := bo h
 obtain ⟨h10, h⟩|⟨h10, h⟩ := ite_out h
 ·obtain ⟨h11, h⟩|⟨h11, h⟩ := ite_out h
  ·obtain ⟨x12, h13, h⟩ := bo h
   obtain ⟨h14, h⟩|⟨h14, h⟩ := ite_out h
   ·obtain ⟨h15, h⟩|⟨h15, h⟩ := ite_out h
    ·obtain ⟨h16, h⟩|⟨h16, h⟩ := ite_out h
     ·obtain ⟨x17, h18, h⟩ := bo h
      obtain ⟨h19, h⟩|⟨h19, h⟩ := ite_out h
      ·obtain ⟨x20, h21, h⟩ := bo h
       obtain ⟨h22, h⟩|⟨h22, h⟩ := ite_out h
       ·obtain rfl := oi h; exact rl [0, 1, 4, 5, 6] [0, 1, 2, 3, 4] [.cut [0, 1, 4, 5, 6] [0, 1, 2, 3, 4] .nor [(0, .sl 9 a1), (1, .j a2), (4, .o 0), (5, .z), (6, .x r3), (22, .y v7)] b0_k_palingref11_Read_J1, .t, .t, .row (c9 x12), .t, .t, .t, .row (c9 x17), .t, .row (c9 x20), .t] (pc (k_palingref11_Read_J2 h8)<|pc h10<|pc h11<|pc (ob9 h13)<|pc h14<|pc h15<|pc h16<|pc (ob9 h18)<|pc h19<|pc (ob9 h21)<|pc h22<|pn)
       ·obtain rfl := oi h; exact rl [4, 5] [0, 5, 6, 7, 8] [.cut [0, 1, 4, 5, 6] [0, 1, 2, 3, 4] .nor [(0, .sl 9 a1), (1, .j a2), (4, .o 0), (5, .z), (6, .x r3), (22, .y v7)] b0_k_palingref11_Read_J1, .t, .t, .row (c9 x12), .t, .t, .t, .row (c9 x17), .t, .row (c9 x20), .f] (pc (k_palingref11_Read_J2 h8)<|pc h10<|pc h11<|pc (ob9 h13)<|pc h14<|pc h15<|pc h16<|pc (ob9 h18)<|pc h19<|pc (ob9 h21)<|pc h22<|pn)
      ·obtain rfl := oi h; exact rl [4, 5] [0, 5, 6, 7, 8] [.cut [0, 1, 4, 5, 6] [0, 1, 2, 3, 4] .nor [(0, .sl 9 a1), (1, .j a2), (4, .o 0), (5, .z), (6, .x r3), (22, .y v7)] b0_k_palingref11_Read_J1, .t, .t, .row (c9 x12), .t, .t, .t, .row (c9 x17), .f] (pc (k_palingref11_Read_J2 h8)<|pc h10<|pc h11<|pc (ob9 h13)<|pc h14<|pc h15<|pc h16<|pc (ob9 h18)<|pc h19<|pn)
     ·obtain rfl := oi h; exact rl [4, 5] [0, 5, 6, 7, 8] [.cut [0, 1, 4, 5, 6] [0, 1, 2, 3, 4] .nor [(0, .sl 9 a1), (1, .j a2), (4, .o 0), (5, .z), (6, .x r3), (22, .y v7)] b0_k_palingref11_Read_J1, .t, .t, .row (c9 x12), .t, .t, .f] (pc (k_palingref11_Read_J2 h8)<|pc h10<|pc h11<|pc (ob9 h13)<|pc h14<|pc h15<|pc h16<|pn)
    ·obtain rfl := oi h; exact rl [4, 5] [0, 5, 6, 7, 8] [.cut [0, 1, 4, 5, 6] [0, 1, 2, 3, 4] .nor [(0, .sl 9 a1), (1, .j a2), (4, .o 0), (5, .z), (6, .x r3), (22, .y v7)] b0_k_palingref11_Read_J1, .t, .t, .row (c9 x12), .t, .f] (pc (k_palingref11_Read_J2 h8)<|pc h10<|pc h11<|pc (ob9 h13)<|pc h14<|pc h15<|pn)
   ·obtain rfl := oi h; exact rl [4, 5] [0, 5, 6, 7, 8] [.cut [0, 1, 4, 5, 6] [0, 1, 2, 3, 4] .nor [(0, .sl 9 a1), (1, .j a2), (4, .o 0), (5, .z), (6, .x r3), (22, .y v7)] b0_k_palingref11_Read_J1, .t, .t, .row (c9 x12), .f] (pc (k_palingref11_Read_J2 h8)<|pc h10<|pc h11<|pc (ob9 h13)<|pc h14<|pn)
  ·obtain rfl := oi h; exact rl [4, 5] [0, 5, 6, 7, 8] [.cut [0, 1, 4, 5, 6] [0, 1, 2, 3, 4] .nor [(0, .sl 9 a1), (1, .j a2), (4, .o 0), (5, .z), (6, .x r3), (22, .y v7)] b0_k_palingref11_Read_J1, .t, .f] (pc (k_palingref11_Read_J2 h8)<|pc h10<|pc h11<|pn)
 ·obtain rfl := oi h; exact rl [0, 1, 4, 5, 6] [0, 1, 2, 3, 4] [.cut [0, 1, 4, 5, 6] [0, 1, 2, 3, 4] .nor [(0, .sl 9 a1), (1, .j a2), (4, .o 0), (5, .z), (6, .x r3), (22, .y v7)] b0_k_palingref11_Read_J1, .f] (pc (k_palingref11_Read_J2 h8)<|pc h10<|pn)

theorem k_palingref11_Read_J4 {a1 : List ByteArray} {a2 : Int} {v24 : ByteArray} {r29 : Int} {l31 : List Int} {l32 : List Int} {l33 : List Int} {v34 : ByteArray} {v35 : ByteArray} {v36 : ByteArray} {v37 : ByteArray} {v38 : ByteArray} {v39 : Int} {v40 : Int} {v41 : Int} {v42 : Int} {v43 : Int} {v44 : Int} {v45 : Int} {v46 : Int} {l47 : List Int} {r : ((List Int) × (List Int) × (List Int) × (List Int) × ByteArray × ByteArray × ByteArray × ByteArray × ByteArray × Int × Int × Int × Int × Int × Int × Int)} (h : palingref11_Read_J4 a1 a2 v24 r29 l31 l32 l33 v34 v35 v36 v37 v38 v39 v40 v41 v42 v43 v44 v45 v46 l47 = some r) :
  ExecOK Tryz.prog UU 0 97 (subC (codeOf Tryz.f184) [1, 1, 1, 1, 1, 0, 1, 0, 0, 1, 0, 0, 0]) [(0, .sl 9 a1), (4, .o 0), (5, .z), (6, .x v24), (7, .o 5), (8, .j v45), (9, .j v46)] [.box 37 [.z, .z, .e, .e, .e, .e, .e, .v (.int .u64 0), .v (.int .u32 0), .z, .z, .z, .z, .os 1 0, .os 2 0, .os 3 0, .os 4 0] false, .n 3, .n 3, .n 3, .n 33, .box 37 [.j a2, .j r29, .x v34, .x v35, .x v36, .x v37, .x v38, .v (.int .u64 v39), .v (.int .u32 v40), .j v41, .j v42, .j v43, .j v44, .os 6 l31.length, .os 7 l47.length, .os 8 l32.length, .os 9 l33.length] false, .w 3 l31, .w 3 l47, .w 3 l32, .w 33 l33] ((fun r => match r with | (l193, l194, l195, l196, v197, v198, v199, v200, v201, v202, v203, v204, v205, v206, v207, v208) => .nor) r) ((fun r => match r with | (l193, l194, l195, l196, v197, v198, v199, v200, v201, v202, v203, v204, v205, v206, v207, v208) => [(0, .sl 9 a1), (4, .o 0), (5, .z), (6, .x v24), (7, .o 5), (8, .j v45), (9, .j v46), (10, .j v208)]) r) ((fun r => match r with | (l193, l194, l195, l196, v197, v198, v199, v200, v201, v202, v203, v204, v205, v206, v207, v208) => [.box 37 [.z, .z, .e, .e, .e, .e, .e, .v (.int .u64 0), .v (.int .u32 0), .z, .z, .z, .z, .os 1 0, .os 2 0, .os 3 0, .os 4 0] false, .n 3, .n 3, .n 3, .n 33, .box 37 [.j a2, .j r29, .x v197, .x v198, .x v199, .x v200, .x v201, .v (.int .u64 v202), .v (.int .u32 v203), .j v204, .j v205, .j v206, .j v207, .os 6 l193.length, .os 7 l194.length, .os 8 l195.length, .os 9 l196.length] false, .w 3 l193, .w 3 l194, .w 3 l195, .w 33 l196]) r) := by
 unfold palingref11_Read_J4 at h
 obtain ⟨h49, h⟩|⟨h49, h⟩ := ite_out h
 ·obtain ⟨x50, h51, h⟩ := bo h
  obtain ⟨r52, h53, h⟩ := bo h
  rcases r52 with ⟨v54, v55, v56, v57, v58, v59, v60, v61, v62, v63, v64, v65⟩ | ⟨l66, v67⟩ | ⟨l68, v69⟩ | ⟨l70, v71⟩
  ·obtain rfl := oi h; exact rl [0, 4, 5, 6, 7, 8, 9, 10] [0, 1, 2, 3, 4, 5, 6, 7, 8, 9] [.row (c9 x50), .callm [5, 6, 7, 8, 9] (.j v65) [.box 37 [.j a2, .j r29, .x v54, .x v55, .x v56, .x v57, .x v58, .v (.int .u64 v59), .v (.int .u32 v60), .j v61, .j v62, .j v63, .j v64, .os 1 l31.length, .os 2 l47.length, .os 3 l32.length, .os 4 l33.length] false, .w 3 l31, .w 3 l47, .w 3 l32, .w 33 l33]] (pc (of_decide_eq_true h49)<|pc (ob9 h51)<|pc (k_palingref11_word_own h53)<|pn)
  ·obtain rfl := oi h; exact rl [0, 4, 5, 6, 7, 8, 9, 10] [0, 1, 2, 3, 4, 5, 10, 7, 8, 9] [.row (c9 x50), .callm [5, 6, 7, 8, 9] (.j v67) [.box 37 [.j a2, .j r29, .x v34, .x v35, .x v36, .x v37, .x v38, .v (.int .u64 v39), .v (.int .u32 v40), .j v41, .j v42, .j v43, .j v44, .os 5 l66.length, .os 2 l47.length, .os 3 l32.length, .os 4 l33.length] false, .w 3 l31, .w 3 l47, .w 3 l32, .w 33 l33, .w 3 l66]] (pc (of_decide_eq_true h49)<|pc (ob9 h51)<|pc (k_palingref11_word_own h53)<|pn)
  ·obtain rfl := oi h; exact rl [0, 4, 5, 6, 7, 8, 9, 10] [0, 1, 2, 3, 4, 5, 6, 7, 8, 10] [.row (c9 x50), .callm [5, 6, 7, 8, 9] (.j v69) [.box 37 [.j a2, .j r29, .x v34, .x v35, .x v36, .x v37, .x v38, .v (.int .u64 v39), .v (.int .u32 v40), .j v41, .j v42, .j v43, .j v44, .os 1 l31.length, .os 2 l47.length, .os 3 l32.length, .os 5 l68.length] false, .w 3 l31, .w 3 l47, .w 3 l32, .w 33 l33, .w 33 l68]] (pc (of_decide_eq_true h49)<|pc (ob9 h51)<|pc (k_palingref11_word_own h53)<|pn)
  ·obtain rfl := oi h; exact rl [0, 4, 5, 6, 7, 8, 9, 10] [0, 1, 2, 3, 4, 5, 6, 8, 10, 9] [.row (c9 x50), .callm [5, 6, 7, 8, 9] (.j v71) [.box 37 [.j a2, .j r29, .x v34, .x v35, .x v36, .x v37, .x v38, .v (.int .u64 v39), .v (.int .u32 v40), .j v41, .j v42, .j v43, .j v44, .os 1 l31.length, .os 3 l32.length, .os 5 l70.length, .os 4 l33.length] false, .w 3 l31, .w 3 l47, .w 3 l32, .w 33 l33, .w 3 l70]] (pc (of_decide_eq_true h49)<|pc (ob9 h51)<|pc (k_palingref11_word_own h53)<|pn)
 ·cases h

def b0_k_palingref11_Read_L3 : AObj DD := .box 37 [.z, .z, .e, .e, .e, .e, .e, .v (.int .u64 0), .v (.int .u32 0), .z, .z, .z, .z, .os 1 0, .os 2 0, .os 3 0, .os 4 0] false
theorem k_palingref11_Read_L3 {a1 : List ByteArray} {a2 : Int} {v24 : ByteArray} {r29 : Int} : LoopOK Tryz.prog UU 0 97 (subC (codeOf Tryz.f184) [1, 1, 1, 1, 1, 0, 1, 0, 0]) (fun s : (List Int) × (List Int) × (List Int) × ByteArray × ByteArray × ByteArray × ByteArray × ByteArray × Int × Int × Int × Int × Int × Int × Int × Int × (List Int) => match s with | (l31, l32, l33, v34, v35, v36, v37, v38, v39, v40, v41, v42, v43, v44, v45, v46, l47) => palingref11_Read_L3 a1 a2 v24 r29 l31 l32 l33 v34 v35 v36 v37 v38 v39 v40 v41 v42 v43 v44 v45 v46 l47)
  (fun s : (List Int) × (List Int) × (List Int) × ByteArray × ByteArray × ByteArray × ByteArray × ByteArray × Int × Int × Int × Int × Int × Int × Int × Int × (List Int) => (match s with | (l31, l32, l33, v34, v35, v36, v37, v38, v39, v40, v41, v42, v43, v44, v45, v46, l47) => [(0, .sl 9 a1), (4, .o 0), (5, .z), (6, .x v24), (7, .o 5), (8, .j v45), (9, .j v46)] : Fr DD)) (fun s : (List Int) × (List Int) × (List Int) × ByteArray × ByteArray × ByteArray × ByteArray × ByteArray × Int × Int × Int × Int × Int × Int × Int × Int × (List Int) => (match s with | (l31, l32, l33, v34, v35, v36, v37, v38, v39, v40, v41, v42, v43, v44, v45, v46, l47) => [b0_k_palingref11_Read_L3, .n 3, .n 3, .n 3, .n 33, .box 37 [.j a2, .j r29, .x v34, .x v35, .x v36, .x v37, .x v38, .v (.int .u64 v39), .v (.int .u32 v40), .j v41, .j v42, .j v43, .j v44, .os 6 l31.length, .os 7 l47.length, .os 8 l32.length, .os 9 l33.length] false, .w 3 l31, .w 3 l47, .w 3 l32, .w 33 l33] : Heap DD)) (fun r => match r with | Sum.inl v215 => .ret | Sum.inr (l261, l262, l263, l264, v265, v266, v267, v268, v269, v270, v271, v272, v273, v274, v275) => .exit 0) (fun r => match r with | Sum.inl v215 => [(4, .o 0), (5, .j v215)] | Sum.inr (l261, l262, l263, l264, v265, v266, v267, v268, v269, v270, v271, v272, v273, v274, v275) => [(4, .o 0), (5, .z), (7, .o 5)]) (fun r => match r with | Sum.inl v215 => [b0_k_palingref11_Read_L3, .n 3, .n 3, .n 3, .n 33] | Sum.inr (l261, l262, l263, l264, v265, v266, v267, v268, v269, v270, v271, v272, v273, v274, v275) => [b0_k_palingref11_Read_L3, .n 3, .n 3, .n 3, .n 33, .box 37 [.j a2, .j r29, .x v265, .x v266, .x v267, .x v268, .x v269, .v (.int .u64 v270), .v (.int .u32 v271), .j v272, .j v273, .j v274, .j v275, .os 6 l261.length, .os 7 l262.length, .os 8 l263.length, .os 9 l264.length] false, .w 3 l261, .w 3 l262, .w 3 l263, .w 33 l264]) := by
 refine loop_sound3 (fun s q h => ?_) (fun r => ?_)
 ·obtain ⟨l31, l32, l33, v34, v35, v36, v37, v38, v39, v40, v41, v42, v43, v44, v45, v46, l47⟩ := s; replace h : palingref11_Read_L3 a1 a2 v24 r29 l31 l32 l33 v34 v35 v36 v37 v38 v39 v40 v41 v42 v43 v44 v45 v46 l47 = some q := h
  unfold palingref11_Read_L3 at h
  obtain ⟨h48, h⟩|⟨h48, h⟩ := ite_out h
  ·obtain ⟨r210, h209, h⟩ := bo h
   obtain ⟨l193, l194, l195, l196, v197, v198, v199, v200, v201, v202, v203, v204, v205, v206, v207, v208⟩ := r210
   obtain ⟨h211, h⟩|⟨h211, h⟩ := ite_out h
   ·obtain rfl := oi h; exact rl [4, 5] [0, 10, 11, 12, 13] [.t, .skp, .cut [0, 4, 5, 6, 7, 8, 9] [0, 1, 2, 3, 4, 5, 6, 7, 8, 9] .nor [(0, .sl 9 a1), (4, .o 0), (5, .z), (6, .x v24), (7, .o 5), (8, .j v45), (9, .j v46), (10, .j v208)] [b0_k_palingref11_Read_L3, .n 3, .n 3, .n 3, .n 33, .box 37 [.j a2, .j r29, .x v197, .x v198, .x v199, .x v200, .x v201, .v (.int .u64 v202), .v (.int .u32 v203), .j v204, .j v205, .j v206, .j v207, .os 6 l193.length, .os 7 l194.length, .os 8 l195.length, .os 9 l196.length] false, .w 3 l193, .w 3 l194, .w 3 l195, .w 33 l196], .t] (pc h48<|pc (k_palingref11_Read_J4 h209)<|pc h211<|pn)
   ·obtain ⟨h212, h⟩|⟨h212, h⟩ := ite_out h
    ·obtain ⟨h213, h⟩|⟨h213, h⟩ := ite_out h
     ·obtain rfl := oi h; exact rl [0, 4, 5, 6, 7, 8, 9] [0, 1, 2, 3, 4, 5, 6, 7, 8, 9] [.t, .skp, .cut [0, 4, 5, 6, 7, 8, 9] [0, 1, 2, 3, 4, 5, 6, 7, 8, 9] .nor [(0, .sl 9 a1), (4, .o 0), (5, .z), (6, .x v24), (7, .o 5), (8, .j v45), (9, .j v46), (10, .j v208)] [b0_k_palingref11_Read_L3, .n 3, .n 3, .n 3, .n 33, .box 37 [.j a2, .j r29, .x v197, .x v198, .x v199, .x v200, .x v201, .v (.int .u64 v202), .v (.int .u32 v203), .j v204, .j v205, .j v206, .j v207, .os 6 l193.length, .os 7 l194.length, .os 8 l195.length, .os 9 l196.length] false, .w 3 l193, .w 3 l194, .w 3 l195, .w 33 l196], .f, .t] (pc h48<|pc (k_palingref11_Read_J4 h209)<|pc h211<|pc (of_decide_eq_true h212)<|pc h213<|pn)
     ·obtain rfl := oi h; exact rl [0, 4, 5, 6, 7, 8, 9] [0, 1, 2, 3, 4, 5, 6, 7, 8, 9] [.t, .skp, .cut [0, 4, 5, 6, 7, 8, 9] [0, 1, 2, 3, 4, 5, 6, 7, 8, 9] .nor [(0, .sl 9 a1), (4, .o 0), (5, .z), (6, .x v24), (7, .o 5), (8, .j v45), (9, .j v46), (10, .j v208)] [b0_k_palingref11_Read_L3, .n 3, .n 3, .n 3, .n 33, .box 37 [.j a2, .j r29, .x v197, .x v198, .x v199, .x v200, .x v201, .v (.int .u64 v202), .v (.int .u32 v203), .j v204, .j v205, .j v206, .j v207, .os 6 l193.length, .os 7 l194.length, .os 8 l195.length, .os 9 l196.length] false, .w 3 l193, .w 3 l194, .w 3 l195, .w 33 l196], .f, .f] (pc h48<|pc (k_palingref11_Read_J4 h209)<|pc h211<|pc (of_decide_eq_true h212)<|pc h213<|pn)
    ·cases h
  ·obtain rfl := oi h; exact rl [4, 5, 7] [0, 1, 2, 3, 4, 5, 6, 7, 8, 9] [.f] (pc h48<|pn)
 ·rcases r with _ | _ <;> exact Ex.noConfusion

def b0_k_palingref11_Read : List (AObj DD) := [.box 37 [.z, .z, .e, .e, .e, .e, .e, .v (.int .u64 0), .v (.int .u32 0), .z, .z, .z, .z, .os 1 0, .os 2 0, .os 3 0, .os 4 0] false, .n 3, .n 3, .n 3, .n 33]
def b1_k_palingref11_Read : AObj DD := .box 37 [.z, .z, .e, .e, .e, .e, .e, .v (.int .u64 0), .v (.int .u32 0), .z, .z, .z, .z, .os 1 0, .os 2 0, .os 3 0, .os 4 0] false
theorem k_palingref11_Read {a1 : List ByteArray} {a2 : Int} {r : ((List Int) × (List Int) × (List Int) × (List Int) × Int × Int × ByteArray × ByteArray × ByteArray × ByteArray × ByteArray × Int × Int × Int × Int × Int × Int × Int)} (h : palingref11_Read a1 a2 = some r) :
  CallsOK Tryz.prog UU 184 [.sl 9 a1, .j a2] [] ((fun r => match r with | (l282, l283, l284, l285, v286, v287, v288, v289, v290, v291, v292, v293, v294, v295, v296, v297, v298, v299) => .tup [.agg [.j v286, .j v287, .x v288, .x v289, .x v290, .x v291, .x v292, .v (.int .u64 v293), .v (.int .u32 v294), .j v295, .j v296, .j v297, .j v298, .os 0 l282.length, .os 1 l283.length, .os 2 l284.length, .os 3 l285.length], .j v299]) r) ((fun r => match r with | (l282, l283, l284, l285, v286, v287, v288, v289, v290, v291, v292, v293, v294, v295, v296, v297, v298, v299) => [.w 3 l282, .w 3 l283, .w 3 l284, .w 33 l285]) r) := by
 unfold palingref11_Read at h
 obtain ⟨r3, h4, h⟩ := bo h
 obtain ⟨r26, h25, h⟩ := bo h
 rcases r26 with v24 | _
 ·obtain ⟨x27, h28, h⟩ := bo h
  obtain ⟨r29, h30, h⟩ := bo h
  obtain ⟨r277, h276, h⟩ := bo h
  rcases r277 with v215 | ⟨l261, l262, l263, l264, v265, v266, v267, v268, v269, v270, v271, v272, v273, v274, v275⟩
  ·obtain rfl := oi h; exact rf Tryz.func184 (some [1, 2, 3, 4]) [.callv (.x r3), .cut [0, 1, 4, 5, 6] [4, 0, 1, 2, 3] .nor [(0, .sl 9 a1), (1, .j a2), (4, .o 0), (5, .z), (6, .x v24)] b0_k_palingref11_Read, .row (c9 x27), .callv (.j r29), .sum [0, 4, 5, 6, 7, 8, 9] [0, 1, 2, 3, 4, 9, 10, 11, 12, 13] .ret [(4, .o 0), (5, .j v215)] b0_k_palingref11_Read] (pc (k_palingref11_form h4)<|pc (k_palingref11_Read_J1 h25)<|pc (ob9 h28)<|pc (k_palingref11_kind h30)<|pc (k_palingref11_Read_L3 _ _ h276)<|pn)
  ·obtain ⟨h278, h⟩|⟨h278, h⟩ := ite_out h
   ·obtain ⟨r279, h280, h⟩ := bo h
    obtain ⟨h281, h⟩|⟨h281, h⟩ := ite_out h
    ·obtain rfl := oi h; exact rf Tryz.func184 (some [10, 11, 12, 13]) [.callv (.x r3), .cut [0, 1, 4, 5, 6] [4, 0, 1, 2, 3] .nor [(0, .sl 9 a1), (1, .j a2), (4, .o 0), (5, .z), (6, .x v24)] b0_k_palingref11_Read, .row (c9 x27), .callv (.j r29), .sum [0, 4, 5, 6, 7, 8, 9] [0, 1, 2, 3, 4, 9, 10, 11, 12, 13] (.exit 0) [(4, .o 0), (5, .z), (7, .o 5)] [b1_k_palingref11_Read, .n 3, .n 3, .n 3, .n 33, .box 37 [.j a2, .j r29, .x v265, .x v266, .x v267, .x v268, .x v269, .v (.int .u64 v270), .v (.int .u32 v271), .j v272, .j v273, .j v274, .j v275, .os 6 l261.length, .os 7 l262.length, .os 8 l263.length, .os 9 l264.length] false, .w 3 l261, .w 3 l262, .w 3 l263, .w 33 l264], .t, .b r279, .t] (pc (k_palingref11_form h4)<|pc (k_palingref11_Read_J1 h25)<|pc (ob9 h28)<|pc (k_palingref11_kind h30)<|pc (k_palingref11_Read_L3 _ _ h276)<|pc h278<|pc (k_palingref11_members h280)<|pc (rn l261.length)<|pc (rn l262.length)<|pc (rn l263.length)<|pc (rn l264.length)<|pc h281<|pn)
    ·obtain rfl := oi h; exact rf Tryz.func184 (some [6, 7, 8, 9]) [.callv (.x r3), .cut [0, 1, 4, 5, 6] [4, 0, 1, 2, 3] .nor [(0, .sl 9 a1), (1, .j a2), (4, .o 0), (5, .z), (6, .x v24)] b0_k_palingref11_Read, .row (c9 x27), .callv (.j r29), .sum [0, 4, 5, 6, 7, 8, 9] [0, 1, 2, 3, 4, 9, 10, 11, 12, 13] (.exit 0) [(4, .o 0), (5, .z), (7, .o 5)] [b1_k_palingref11_Read, .n 3, .n 3, .n 3, .n 33, .box 37 [.j a2, .j r29, .x v265, .x v266, .x v267, .x v268, .x v269, .v (.int .u64 v270), .v (.int .u32 v271), .j v272, .j v273, .j v274, .j v275, .os 6 l261.length, .os 7 l262.length, .os 8 l263.length, .os 9 l264.length] false, .w 3 l261, .w 3 l262, .w 3 l263, .w 33 l264], .t, .b r279, .f] (pc (k_palingref11_form h4)<|pc (k_palingref11_Read_J1 h25)<|pc (ob9 h28)<|pc (k_palingref11_kind h30)<|pc (k_palingref11_Read_L3 _ _ h276)<|pc h278<|pc (k_palingref11_members h280)<|pc (rn l261.length)<|pc (rn l262.length)<|pc (rn l263.length)<|pc (rn l264.length)<|pc h281<|pn)
   ·obtain rfl := oi h; exact rf Tryz.func184 (some [6, 7, 8, 9]) [.callv (.x r3), .cut [0, 1, 4, 5, 6] [4, 0, 1, 2, 3] .nor [(0, .sl 9 a1), (1, .j a2), (4, .o 0), (5, .z), (6, .x v24)] b0_k_palingref11_Read, .row (c9 x27), .callv (.j r29), .sum [0, 4, 5, 6, 7, 8, 9] [0, 1, 2, 3, 4, 9, 10, 11, 12, 13] (.exit 0) [(4, .o 0), (5, .z), (7, .o 5)] [b1_k_palingref11_Read, .n 3, .n 3, .n 3, .n 33, .box 37 [.j a2, .j r29, .x v265, .x v266, .x v267, .x v268, .x v269, .v (.int .u64 v270), .v (.int .u32 v271), .j v272, .j v273, .j v274, .j v275, .os 6 l261.length, .os 7 l262.length, .os 8 l263.length, .os 9 l264.length] false, .w 3 l261, .w 3 l262, .w 3 l263, .w 33 l264], .f] (pc (k_palingref11_form h4)<|pc (k_palingref11_Read_J1 h25)<|pc (ob9 h28)<|pc (k_palingref11_kind h30)<|pc (k_palingref11_Read_L3 _ _ h276)<|pc h278<|pn)
 ·obtain rfl := oi h; exact rf Tryz.func184 (some [1, 2, 3, 4]) [.callv (.x r3), .cut [0, 1, 4, 5, 6] [4, 0, 1, 2, 3] .ret [(4, .o 0), (5, .j 22)] b0_k_palingref11_Read] (pc (k_palingref11_form h4)<|pc (k_palingref11_Read_J1 h25)<|pn)

theorem k_palingref03_Ints_L1 {a1 : List Int} {a2 : List Int} : LoopOK Tryz.prog UU 0 26 (subC (codeOf Tryz.f56) [1, 1, 0, 1, 0, 0]) (ρ := Unit ⊕ Unit) (palingref03_Ints_L1 a1 a2)
  (fun v4 : Int => ([(0, .sl 3 a1), (1, .sl 3 a2), (4, .y false), (5, .j v4)] : Fr DD)) (fun v4 : Int => ([] : Heap DD)) (fun r => match r with | Sum.inl _ => .ret | Sum.inr _ => .exit 0) (fun r => match r with | Sum.inl _ => [(4, .y false)] | Sum.inr _ => [(4, .y false)]) (fun r => match r with | Sum.inl _ => [] | Sum.inr _ => []) := by
 refine loop_sound3 (fun s q h => ?_) (fun r => ?_)
 ·replace h : palingref03_Ints_L1 a1 a2 s = some q := h; revert h; revert s; intro v4 h
  unfold palingref03_Ints_L1 at h
  obtain ⟨h5, h⟩|⟨h5, h⟩ := ite_out h
  ·obtain ⟨x6, h7, h⟩ := bo h
   obtain ⟨x8, h9, h⟩ := bo h
   obtain ⟨h10, h⟩|⟨h10, h⟩ := ite_out h
   ·obtain rfl := oi h; exact rl [4] [] [.t, .row (c3 x6), .row (c3 x8), .t] (pc h5<|pc (ob3 h7)<|pc (ob3 h9)<|pc h10<|pn)
   ·obtain rfl := oi h; exact rl [0, 1, 4, 5] [] [.t, .row (c3 x6), .row (c3 x8), .f] (pc h5<|pc (ob3 h7)<|pc (ob3 h9)<|pc h10<|pn)
  ·obtain rfl := oi h; exact rl [4] [] [.f] (pc h5<|pn)
 ·rcases r with _ | _ <;> exact Ex.noConfusion

theorem k_palingref03_Ints {a1 : List Int} {a2 : List Int} {r : Bool} (h : palingref03_Ints a1 a2 = some r) :
  CallsOK Tryz.prog UU 56 [.sl 3 a1, .sl 3 a2] [] (.y r) [] := by
 unfold palingref03_Ints at h
 obtain ⟨h3, h⟩|⟨h3, h⟩ := ite_out h
 ·obtain rfl := oi h; exact rf Tryz.func56 none [.t] (pc h3<|pn)
 ·obtain ⟨r12, h11, h⟩ := bo h
  rcases r12 with _ | _
  ·obtain rfl := oi h; exact rf Tryz.func56 none [.f, .sum [0, 1, 4, 5] [] .ret [(4, .y false)] []] (pc h3<|pc (k_palingref03_Ints_L1 _ _ h11)<|pn)
  ·obtain rfl := oi h; exact rf Tryz.func56 none [.f, .sum [0, 1, 4, 5] [] (.exit 0) [(4, .y false)] []] (pc h3<|pc (k_palingref03_Ints_L1 _ _ h11)<|pn)

theorem k_palingref03_Addrs_L1 {a1 : List Int} {a2 : List Int} : LoopOK Tryz.prog UU 0 26 (subC (codeOf Tryz.f57) [1, 1, 0, 1, 0, 0]) (ρ := Unit ⊕ Unit) (palingref03_Addrs_L1 a1 a2)
  (fun v4 : Int => ([(0, .sl 33 a1), (1, .sl 33 a2), (4, .y false), (5, .j v4)] : Fr DD)) (fun v4 : Int => ([] : Heap DD)) (fun r => match r with | Sum.inl _ => .ret | Sum.inr _ => .exit 0) (fun r => match r with | Sum.inl _ => [(4, .y false)] | Sum.inr _ => [(4, .y false)]) (fun r => match r with | Sum.inl _ => [] | Sum.inr _ => []) := by
 refine loop_sound3 (fun s q h => ?_) (fun r => ?_)
 ·replace h : palingref03_Addrs_L1 a1 a2 s = some q := h; revert h; revert s; intro v4 h
  unfold palingref03_Addrs_L1 at h
  obtain ⟨h5, h⟩|⟨h5, h⟩ := ite_out h
  ·obtain ⟨x6, h7, h⟩ := bo h
   obtain ⟨x8, h9, h⟩ := bo h
   obtain ⟨h10, h⟩|⟨h10, h⟩ := ite_out h
   ·obtain rfl := oi h; exact rl [4] [] [.t, .row (c33 x6), .row (c33 x8), .t] (pc h5<|pc (ob33 h7)<|pc (ob33 h9)<|pc h10<|pn)
   ·obtain rfl := oi h; exact rl [0, 1, 4, 5] [] [.t, .row (c33 x6), .row (c33 x8), .f] (pc h5<|pc (ob33 h7)<|pc (ob33 h9)<|pc h10<|pn)
  ·obtain rfl := oi h; exact rl [4] [] [.f] (pc h5<|pn)
 ·rcases r with _ | _ <;> exact Ex.noConfusion

theorem k_palingref03_Addrs {a1 : List Int} {a2 : List Int} {r : Bool} (h : palingref03_Addrs a1 a2 = some r) :
  CallsOK Tryz.prog UU 57 [.sl 33 a1, .sl 33 a2] [] (.y r) [] := by
 unfold palingref03_Addrs at h
 obtain ⟨h3, h⟩|⟨h3, h⟩ := ite_out h
 ·obtain rfl := oi h; exact rf Tryz.func57 none [.t] (pc h3<|pn)
 ·obtain ⟨r12, h11, h⟩ := bo h
  rcases r12 with _ | _
  ·obtain rfl := oi h; exact rf Tryz.func57 none [.f, .sum [0, 1, 4, 5] [] .ret [(4, .y false)] []] (pc h3<|pc (k_palingref03_Addrs_L1 _ _ h11)<|pn)
  ·obtain rfl := oi h; exact rf Tryz.func57 none [.f, .sum [0, 1, 4, 5] [] (.exit 0) [(4, .y false)] []] (pc h3<|pc (k_palingref03_Addrs_L1 _ _ h11)<|pn)

theorem k_palingref11_Same {a1 : Api_Line} {a2 : Api_Line} {r : Bool} (h : palingref11_Same a1 a2 = some r) :
  CallsOK Tryz.prog UU 186 [.agg (c37 a1), .agg (c37 a2)] [] (.y r) [] := by
 unfold palingref11_Same at h
 obtain ⟨h3, h⟩|⟨h3, h⟩ := ite_out h
 ·obtain ⟨h4, h⟩|⟨h4, h⟩ := ite_out h
  ·obtain ⟨h5, h⟩|⟨h5, h⟩ := ite_out h
   ·obtain ⟨h6, h⟩|⟨h6, h⟩ := ite_out h
    ·obtain ⟨h7, h⟩|⟨h7, h⟩ := ite_out h
     ·obtain ⟨h8, h⟩|⟨h8, h⟩ := ite_out h
      ·obtain ⟨h9, h⟩|⟨h9, h⟩ := ite_out h
       ·obtain ⟨h10, h⟩|⟨h10, h⟩ := ite_out h
        ·obtain ⟨h11, h⟩|⟨h11, h⟩ := ite_out h
         ·obtain ⟨h12, h⟩|⟨h12, h⟩ := ite_out h
          ·obtain ⟨h13, h⟩|⟨h13, h⟩ := ite_out h
           ·obtain ⟨h14, h⟩|⟨h14, h⟩ := ite_out h
            ·obtain ⟨h15, h⟩|⟨h15, h⟩ := ite_out h
             ·obtain ⟨r16, h17, h⟩ := bo h
              obtain ⟨h18, h⟩|⟨h18, h⟩ := ite_out h
              ·obtain ⟨r19, h20, h⟩ := bo h
               obtain ⟨h21, h⟩|⟨h21, h⟩ := ite_out h
               ·obtain ⟨r22, h23, h⟩ := bo h
                obtain ⟨h24, h⟩|⟨h24, h⟩ := ite_out h
                ·obtain ⟨r25, h26, h⟩ := bo h
                 obtain rfl := oi h; exact rf Tryz.func186 none [.t, .t, .t, .t, .t, .t, .t, .t, .t, .t, .t, .t, .t, .b r16, .t, .b r19, .t, .b r22, .t, .b r25] (pc h3<|pc h4<|pc h5<|pc h6<|pc h7<|pc h8<|pc h9<|pc h10<|pc h11<|pc h12<|pc h13<|pc h14<|pc h15<|pc (k_palingref03_Ints h17)<|pc h18<|pc (k_palingref03_Ints h20)<|pc h21<|pc (k_palingref03_Ints h23)<|pc h24<|pc (k_palingref03_Addrs h26)<|pn)
                ·obtain rfl := oi h; exact rf Tryz.func186 none [.t, .t, .t, .t, .t, .t, .t, .t, .t, .t, .t, .t, .t, .b r16, .t, .b r19, .t, .b r22, .f] (pc h3<|pc h4<|pc h5<|pc h6<|pc h7<|pc h8<|pc h9<|pc h10<|pc h11<|pc h12<|pc h13<|pc h14<|pc h15<|pc (k_palingref03_Ints h17)<|pc h18<|pc (k_palingref03_Ints h20)<|pc h21<|pc (k_palingref03_Ints h23)<|pc h24<|pn)
               ·obtain rfl := oi h; exact rf Tryz.func186 none [.t, .t, .t, .t, .t, .t, .t, .t, .t, .t, .t, .t, .t, .b r16, .t, .b r19, .f] (pc h3<|pc h4<|pc h5<|pc h6<|pc h7<|pc h8<|pc h9<|pc h10<|pc h11<|pc h12<|pc h13<|pc h14<|pc h15<|pc (k_palingref03_Ints h17)<|pc h18<|pc (k_palingref03_Ints h20)<|pc h21<|pn)
              ·obtain rfl := oi h; exact rf Tryz.func186 none [.t, .t, .t, .t, .t, .t, .t, .t, .t, .t, .t, .t, .t, .b r16, .f] (pc h3<|pc h4<|pc h5<|pc h6<|pc h7<|pc h8<|pc h9<|pc h10<|pc h11<|pc h12<|pc h13<|pc h14<|pc h15<|pc (k_palingref03_Ints h17)<|pc h18<|pn)
             ·obtain rfl := oi h; exact rf Tryz.func186 none [.t, .t, .t, .t, .t, .t, .t, .t, .t, .t, .t, .t, .f] (pc h3<|pc h4<|pc h5<|pc h6<|pc h7<|pc h8<|pc h9<|pc h10<|pc h11<|pc h12<|pc h13<|pc h14<|pc h15<|pn)
            ·obtain rfl := oi h; exact rf Tryz.func186 none [.t, .t, .t, .t, .t, .t, .t, .t, .t, .t, .t, .f] (pc h3<|pc h4<|pc h5<|pc h6<|pc h7<|pc h8<|pc h9<|pc h10<|pc h11<|pc h12<|pc h13<|pc h14<|pn)
           ·obtain rfl := oi h; exact rf Tryz.func186 none [.t, .t, .t, .t, .t, .t, .t, .t, .t, .t, .f] (pc h3<|pc h4<|pc h5<|pc h6<|pc h7<|pc h8<|pc h9<|pc h10<|pc h11<|pc h12<|pc h13<|pn)
          ·obtain rfl := oi h; exact rf Tryz.func186 none [.t, .t, .t, .t, .t, .t, .t, .t, .t, .f] (pc h3<|pc h4<|pc h5<|pc h6<|pc h7<|pc h8<|pc h9<|pc h10<|pc h11<|pc h12<|pn)
         ·obtain rfl := oi h; exact rf Tryz.func186 none [.t, .t, .t, .t, .t, .t, .t, .t, .f] (pc h3<|pc h4<|pc h5<|pc h6<|pc h7<|pc h8<|pc h9<|pc h10<|pc h11<|pn)
        ·obtain rfl := oi h; exact rf Tryz.func186 none [.t, .t, .t, .t, .t, .t, .t, .f] (pc h3<|pc h4<|pc h5<|pc h6<|pc h7<|pc h8<|pc h9<|pc h10<|pn)
       ·obtain rfl := oi h; exact rf Tryz.func186 none [.t, .t, .t, .t, .t, .t, .f] (pc h3<|pc h4<|pc h5<|pc h6<|pc h7<|pc h8<|pc h9<|pn)
      ·obtain rfl := oi h; exact rf Tryz.func186 none [.t, .t, .t, .t, .t, .f] (pc h3<|pc h4<|pc h5<|pc h6<|pc h7<|pc h8<|pn)
     ·obtain rfl := oi h; exact rf Tryz.func186 none [.t, .t, .t, .t, .f] (pc h3<|pc h4<|pc h5<|pc h6<|pc h7<|pn)
    ·obtain rfl := oi h; exact rf Tryz.func186 none [.t, .t, .t, .f] (pc h3<|pc h4<|pc h5<|pc h6<|pn)
   ·obtain rfl := oi h; exact rf Tryz.func186 none [.t, .t, .f] (pc h3<|pc h4<|pc h5<|pn)
  ·obtain rfl := oi h; exact rf Tryz.func186 none [.t, .f] (pc h3<|pc h4<|pn)
 ·obtain rfl := oi h; exact rf Tryz.func186 none [.f] (pc h3<|pn)

theorem k_palingref11_Right {a1 : Api_Line} {r : Bool} (h : palingref11_Right a1 = some r) :
  CallsOK Tryz.prog UU 116 [.agg (c37 a1)] [] (.y r) [] := by
 unfold palingref11_Right at h
 obtain ⟨h2, h⟩|⟨h2, h⟩ := ite_out h
 ·obtain rfl := oi h; exact rf Tryz.func116 none [.t] (pc h2<|pn)
 ·obtain ⟨h3, h⟩|⟨h3, h⟩ := ite_out h
  ·obtain rfl := oi h; exact rf Tryz.func116 none [.f, .t] (pc h2<|pc h3<|pn)
  ·obtain ⟨h4, h⟩|⟨h4, h⟩ := ite_out h
   ·obtain rfl := oi h; exact rf Tryz.func116 none [.f, .f, .t] (pc h2<|pc h3<|pc h4<|pn)
   ·obtain ⟨h5, h⟩|⟨h5, h⟩ := ite_out h
    ·obtain rfl := oi h; exact rf Tryz.func116 none [.f, .f, .f, .t] (pc h2<|pc h3<|pc h4<|pc h5<|pn)
    ·obtain ⟨l8, h7, h⟩ := bo h
     obtain ⟨r9, h10, h⟩ := bo h
     obtain ⟨l11, l12, l13, l14, v15, v16, v17, v18, v19, v20, v21, v22, v23, v24, v25, v26, v27, v28⟩ := r9
     obtain ⟨h29, h⟩|⟨h29, h⟩ := ite_out h
     ·obtain ⟨r30, h31, h⟩ := bo h
      obtain rfl := oi h; exact rf Tryz.func116 none [.f, .f, .f, .f, .sum [1] [] .nor [] [.box 37 (c37 a1) false, .w 9 l8], .sum [4] [] .nor [] [.box 37 (c37 a1) false, .w 9 l8, .w 3 l11, .w 3 l12, .w 3 l13, .w 33 l14], .callo (.os 0 l8.length) [.w 9 l8], .callo (.tup [.agg [.j v15, .j v16, .x v17, .x v18, .x v19, .x v20, .x v21, .v (.int .u64 v22), .v (.int .u32 v23), .j v24, .j v25, .j v26, .j v27, .os 0 l11.length, .os 1 l12.length, .os 2 l13.length, .os 3 l14.length], .j v28]) [.w 3 l11, .w 3 l12, .w 3 l13, .w 33 l14], .t, .b r30] (pc h2<|pc h3<|pc h4<|pc h5<|pc (rh [.box 37 (c37 a1) false, .w 9 l8])<|pc (k_palingref11_Words h7)<|pc (im9 l8)<|pc (rr (.o 0))<|pc (rr (.j a1.row))<|pc (rh [.box 37 (c37 a1) false, .w 9 l8, .w 3 l11, .w 3 l12, .w 3 l13, .w 33 l14])<|pc (k_palingref11_Read h10)<|pc (im3 l11)<|pc (im3 l12)<|pc (im3 l13)<|pc (im33 l14)<|pc (rn l8.length)<|pc h29<|pc (k_palingref11_Same h31)<|pc (rn l11.length)<|pc (rn l12.length)<|pc (rn l13.length)<|pc (rn l14.length)<|pn)
     ·obtain rfl := oi h; exact rf Tryz.func116 none [.f, .f, .f, .f, .sum [1] [] .nor [] [.box 37 (c37 a1) false, .w 9 l8], .sum [4] [] .nor [] [.box 37 (c37 a1) false, .w 9 l8, .w 3 l11, .w 3 l12, .w 3 l13, .w 33 l14], .callo (.os 0 l8.length) [.w 9 l8], .callo (.tup [.agg [.j v15, .j v16, .x v17, .x v18, .x v19, .x v20, .x v21, .v (.int .u64 v22), .v (.int .u32 v23), .j v24, .j v25, .j v26, .j v27, .os 0 l11.length, .os 1 l12.length, .os 2 l13.length, .os 3 l14.length], .j v28]) [.w 3 l11, .w 3 l12, .w 3 l13, .w 33 l14], .f] (pc h2<|pc h3<|pc h4<|pc h5<|pc (rh [.box 37 (c37 a1) false, .w 9 l8])<|pc (k_palingref11_Words h7)<|pc (im9 l8)<|pc (rr (.o 0))<|pc (rr (.j a1.row))<|pc (rh [.box 37 (c37 a1) false, .w 9 l8, .w 3 l11, .w 3 l12, .w 3 l13, .w 33 l14])<|pc (k_palingref11_Read h10)<|pc (im3 l11)<|pc (im3 l12)<|pc (im3 l13)<|pc (im33 l14)<|pc (rn l8.length)<|pc h29<|pn)

theorem k_palingref15_Place {a1 : Int} {a2 : Int} {r : Bool} (h : palingref15_Place a1 a2 = some r) :
  CallsOK Tryz.prog UU 149 [.j a1, .j a2] [] (.y r) [] := by
 unfold palingref15_Place at h
 obtain ⟨h3, h⟩|⟨h3, h⟩ := ite_out h
 ·obtain rfl := oi h; exact rf Tryz.func149 none [.t] (pc h3<|pn)
 ·obtain rfl := oi h; exact rf Tryz.func149 none [.f] (pc h3<|pn)

theorem k_palingref15_At_L1 {a1 : Api_Net} {a2 : Int} {a3 : Int} : LoopOK Tryz.prog UU 0 34 (subC (codeOf Tryz.f53) [1, 0, 1, 0, 0]) (ρ := Int ⊕ Unit) (palingref15_At_L1 a1 a2 a3)
  (fun v4 : Int => ([(1, .j a2), (2, .j a3), (3, .o 0), (6, .z), (7, .j v4)] : Fr DD)) (fun v4 : Int => ([.box 31 (c31 a1) false] : Heap DD)) (fun r => match r with | Sum.inl v13 => .ret | Sum.inr _ => .exit 0) (fun r => match r with | Sum.inl v13 => [(6, .j v13)] | Sum.inr _ => [(6, .z)]) (fun r => match r with | Sum.inl v13 => [] | Sum.inr _ => []) := by
 refine loop_sound3 (fun s q h => ?_) (fun r => ?_)
 ·replace h : palingref15_At_L1 a1 a2 a3 s = some q := h; revert h; revert s; intro v4 h
  unfold palingref15_At_L1 at h
  obtain ⟨h5, h⟩|⟨h5, h⟩ := ite_out h
  ·obtain ⟨x6, h7, h⟩ := bo h
   obtain ⟨h8, h⟩|⟨h8, h⟩ := ite_out h
   ·obtain ⟨x9, h10, h⟩ := bo h
    obtain ⟨h11, h⟩|⟨h11, h⟩ := ite_out h
    ·obtain rfl := oi h; exact rl [6] [] [.t, .row (c90 x6), .t, .row (c90 x9), .t] (pc h5<|pc (ob90 h7)<|pc h8<|pc (ob90 h10)<|pc h11<|pn)
    ·obtain rfl := oi h; exact rl [1, 2, 3, 6, 7] [0] [.t, .row (c90 x6), .t, .row (c90 x9), .f] (pc h5<|pc (ob90 h7)<|pc h8<|pc (ob90 h10)<|pc h11<|pn)
   ·obtain rfl := oi h; exact rl [1, 2, 3, 6, 7] [0] [.t, .row (c90 x6), .f] (pc h5<|pc (ob90 h7)<|pc h8<|pn)
  ·obtain rfl := oi h; exact rl [6] [] [.f] (pc h5<|pn)
 ·rcases r with _ | _ <;> exact Ex.noConfusion

theorem k_palingref15_At {a1 : Api_Net} {a2 : Int} {a3 : Int} {r : Int} (h : palingref15_At a1 a2 a3 = some r) :
  CallsOK Tryz.prog UU 53 [.agg (c31 a1), .j a2, .j a3] [] (.j r) [] := by
 unfold palingref15_At at h
 obtain ⟨r15, h14, h⟩ := bo h
 rcases r15 with v13 | _
 ·obtain rfl := oi h; exact rf Tryz.func53 none [.sum [1, 2, 3, 6, 7] [0] .ret [(6, .j v13)] []] (pc (k_palingref15_At_L1 _ _ h14)<|pn)
 ·obtain rfl := oi h; exact rf Tryz.func53 none [.sum [1, 2, 3, 6, 7] [0] (.exit 0) [(6, .z)] []] (pc (k_palingref15_At_L1 _ _ h14)<|pn)

theorem k_palingref15_In_L1 {a1 : List Int} {a2 : Int} : LoopOK Tryz.prog UU 0 18 (subC (codeOf Tryz.f151) [1, 0, 1, 0, 0]) (ρ := Unit ⊕ Unit) (palingref15_In_L1 a1 a2)
  (fun v3 : Int => ([(0, .sl 3 a1), (1, .j a2), (4, .y false), (5, .j v3)] : Fr DD)) (fun v3 : Int => ([] : Heap DD)) (fun r => match r with | Sum.inl _ => .ret | Sum.inr _ => .exit 0) (fun r => match r with | Sum.inl _ => [(4, .y true)] | Sum.inr _ => [(4, .y false)]) (fun r => match r with | Sum.inl _ => [] | Sum.inr _ => []) := by
 refine loop_sound3 (fun s q h => ?_) (fun r => ?_)
 ·replace h : palingref15_In_L1 a1 a2 s = some q := h; revert h; revert s; intro v3 h
  unfold palingref15_In_L1 at h
  obtain ⟨h4, h⟩|⟨h4, h⟩ := ite_out h
  ·obtain ⟨x5, h6, h⟩ := bo h
   obtain ⟨h7, h⟩|⟨h7, h⟩ := ite_out h
   ·obtain rfl := oi h; exact rl [4] [] [.t, .row (c3 x5), .t] (pc h4<|pc (ob3 h6)<|pc h7<|pn)
   ·obtain rfl := oi h; exact rl [0, 1, 4, 5] [] [.t, .row (c3 x5), .f] (pc h4<|pc (ob3 h6)<|pc h7<|pn)
  ·obtain rfl := oi h; exact rl [4] [] [.f] (pc h4<|pn)
 ·rcases r with _ | _ <;> exact Ex.noConfusion

theorem k_palingref15_In {a1 : List Int} {a2 : Int} {r : Bool} (h : palingref15_In a1 a2 = some r) :
  CallsOK Tryz.prog UU 151 [.sl 3 a1, .j a2] [] (.y r) [] := by
 unfold palingref15_In at h
 obtain ⟨r9, h8, h⟩ := bo h
 rcases r9 with _ | _
 ·obtain rfl := oi h; exact rf Tryz.func151 none [.sum [0, 1, 4, 5] [] .ret [(4, .y true)] []] (pc (k_palingref15_In_L1 _ _ h8)<|pn)
 ·obtain rfl := oi h; exact rf Tryz.func151 none [.sum [0, 1, 4, 5] [] (.exit 0) [(4, .y false)] []] (pc (k_palingref15_In_L1 _ _ h8)<|pn)

theorem k_palingref15_peer {a1 : Api_Net} {a2 : Int} {a3 : Int} {r : Bool} (h : palingref15_peer a1 a2 a3 = some r) :
  CallsOK Tryz.prog UU 150 [.agg (c31 a1), .j a2, .j a3] [] (.y r) [] := by
 unfold palingref15_peer at h
 obtain ⟨r4, h5, h⟩ := bo h
 obtain ⟨h6, h⟩|⟨h6, h⟩ := ite_out h
 ·obtain rfl := oi h; exact rf Tryz.func150 none [.b r4, .t] (pc (k_palingref15_Place h5)<|pc h6<|pn)
 ·obtain ⟨h7, h⟩|⟨h7, h⟩ := ite_out h
  ·obtain rfl := oi h; exact rf Tryz.func150 none [.b r4, .f, .t] (pc (k_palingref15_Place h5)<|pc h6<|pc h7<|pn)
  ·obtain ⟨x8, h9, h⟩ := bo h
   obtain ⟨x10, h11, h⟩ := bo h
   obtain ⟨h12, h⟩|⟨h12, h⟩ := ite_out h
   ·obtain ⟨h13, h⟩|⟨h13, h⟩ := ite_out h
    ·obtain ⟨h14, h⟩|⟨h14, h⟩ := ite_out h
     ·obtain ⟨x15, h16, h⟩ := bo h
      obtain ⟨h17, h⟩|⟨h17, h⟩ := ite_out h
      ·obtain ⟨x18, h19, h⟩ := bo h
       obtain ⟨h20, h⟩|⟨h20, h⟩ := ite_out h
       ·obtain ⟨r21, h22, h⟩ := bo h
        obtain rfl := oi h; exact rf Tryz.func150 none [.b r4, .f, .f, .row (c90 x8), .row (c90 x10), .t, .t, .t, .row (c56 x15), .t, .row (c56 x18), .t, .b r21] (pc (k_palingref15_Place h5)<|pc h6<|pc h7<|pc (ob90 h9)<|pc (ob90 h11)<|pc h12<|pc h13<|pc h14<|pc (ob56 h16)<|pc h17<|pc (ob56 h19)<|pc h20<|pc (k_palingref15_In h22)<|pn)
       ·obtain rfl := oi h; exact rf Tryz.func150 none [.b r4, .f, .f, .row (c90 x8), .row (c90 x10), .t, .t, .t, .row (c56 x15), .t, .row (c56 x18), .f] (pc (k_palingref15_Place h5)<|pc h6<|pc h7<|pc (ob90 h9)<|pc (ob90 h11)<|pc h12<|pc h13<|pc h14<|pc (ob56 h16)<|pc h17<|pc (ob56 h19)<|pc h20<|pn)
      ·obtain rfl := oi h; exact rf Tryz.func150 none [.b r4, .f, .f, .row (c90 x8), .row (c90 x10), .t, .t, .t, .row (c56 x15), .f] (pc (k_palingref15_Place h5)<|pc h6<|pc h7<|pc (ob90 h9)<|pc (ob90 h11)<|pc h12<|pc h13<|pc h14<|pc (ob56 h16)<|pc h17<|pn)
     ·obtain rfl := oi h; exact rf Tryz.func150 none [.b r4, .f, .f, .row (c90 x8), .row (c90 x10), .t, .t, .f] (pc (k_palingref15_Place h5)<|pc h6<|pc h7<|pc (ob90 h9)<|pc (ob90 h11)<|pc h12<|pc h13<|pc h14<|pn)
    ·obtain rfl := oi h; exact rf Tryz.func150 none [.b r4, .f, .f, .row (c90 x8), .row (c90 x10), .t, .f] (pc (k_palingref15_Place h5)<|pc h6<|pc h7<|pc (ob90 h9)<|pc (ob90 h11)<|pc h12<|pc h13<|pn)
   ·obtain rfl := oi h; exact rf Tryz.func150 none [.b r4, .f, .f, .row (c90 x8), .row (c90 x10), .f] (pc (k_palingref15_Place h5)<|pc h6<|pc h7<|pc (ob90 h9)<|pc (ob90 h11)<|pc h12<|pn)

theorem k_palingref15_domains_L1 {a1 : Api_Net} : LoopOK Tryz.prog UU 0 120 (subC (codeOf Tryz.f67) [1, 0, 1, 0, 0]) (ρ := Unit ⊕ Unit) (palingref15_domains_L1 a1)
  (fun v2 : Int => ([(1, .o 0), (2, .y false), (3, .j v2)] : Fr DD)) (fun v2 : Int => ([.box 31 (c31 a1) false] : Heap DD)) (fun r => match r with | Sum.inl _ => .ret | Sum.inr _ => .exit 0) (fun r => match r with | Sum.inl _ => [(2, .y false)] | Sum.inr _ => [(1, .o 0), (2, .y false)]) (fun r => match r with | Sum.inl _ => [] | Sum.inr _ => [.box 31 (c31 a1) false]) := by
 refine loop_sound3 (fun s q h => ?_) (fun r => ?_)
 ·replace h : palingref15_domains_L1 a1 s = some q := h; revert h; revert s; intro v2 h
  unfold palingref15_domains_L1 at h
  obtain ⟨h3, h⟩|⟨h3, h⟩ := ite_out h
  ·obtain ⟨x4, h5, h⟩ := bo h
   obtain ⟨r6, h7, h⟩ := bo h
   obtain ⟨h8, h⟩|⟨h8, h⟩ := ite_out h
   ·obtain rfl := oi h; exact rl [2] [] [.t, .row (c90 x4), .b r6, .t] (pc h3<|pc (ob90 h5)<|pc (k_palingref15_Place h7)<|pc h8<|pn)
   ·obtain ⟨h9, h⟩|⟨h9, h⟩ := ite_out h
    ·obtain rfl := oi h; exact rl [2] [] [.t, .row (c90 x4), .b r6, .f, .t] (pc h3<|pc (ob90 h5)<|pc (k_palingref15_Place h7)<|pc h8<|pc h9<|pn)
    ·obtain ⟨h10, h⟩|⟨h10, h⟩ := ite_out h
     ·obtain rfl := oi h; exact rl [2] [] [.t, .row (c90 x4), .b r6, .f, .f, .t] (pc h3<|pc (ob90 h5)<|pc (k_palingref15_Place h7)<|pc h8<|pc h9<|pc h10<|pn)
     ·obtain ⟨h11, h⟩|⟨h11, h⟩ := ite_out h
      ·obtain rfl := oi h; exact rl [2] [] [.t, .row (c90 x4), .b r6, .f, .f, .f, .t] (pc h3<|pc (ob90 h5)<|pc (k_palingref15_Place h7)<|pc h8<|pc h9<|pc h10<|pc h11<|pn)
      ·obtain ⟨h12, h⟩|⟨h12, h⟩ := ite_out h
       ·obtain rfl := oi h; exact rl [2] [] [.t, .row (c90 x4), .b r6, .f, .f, .f, .f, .t] (pc h3<|pc (ob90 h5)<|pc (k_palingref15_Place h7)<|pc h8<|pc h9<|pc h10<|pc h11<|pc h12<|pn)
       ·obtain ⟨r13, h14, h⟩ := bo h
        obtain ⟨h15, h⟩|⟨h15, h⟩ := ite_out h
        ·obtain rfl := oi h; exact rl [2] [] [.t, .row (c90 x4), .b r6, .f, .f, .f, .f, .f, .callv (.j r13), .t] (pc h3<|pc (ob90 h5)<|pc (k_palingref15_Place h7)<|pc h8<|pc h9<|pc h10<|pc h11<|pc h12<|pc (k_palingref15_At h14)<|pc h15<|pn)
        ·obtain ⟨h16, h⟩|⟨h16, h⟩ := ite_out h
         ·obtain ⟨r17, h18, h⟩ := bo h
          obtain ⟨h19, h⟩|⟨h19, h⟩ := ite_out h
          ·obtain rfl := oi h; exact rl [2] [] [.t, .row (c90 x4), .b r6, .f, .f, .f, .f, .f, .callv (.j r13), .f, .t, .b r17, .t] (pc h3<|pc (ob90 h5)<|pc (k_palingref15_Place h7)<|pc h8<|pc h9<|pc h10<|pc h11<|pc h12<|pc (k_palingref15_At h14)<|pc h15<|pc h16<|pc (k_palingref15_Place h18)<|pc h19<|pn)
          ·obtain ⟨x20, h21, h⟩ := bo h
           obtain ⟨h22, h⟩|⟨h22, h⟩ := ite_out h
           ·obtain rfl := oi h; exact rl [2] [] [.t, .row (c90 x4), .b r6, .f, .f, .f, .f, .f, .callv (.j r13), .f, .t, .b r17, .f, .row (c105 x20), .t] (pc h3<|pc (ob90 h5)<|pc (k_palingref15_Place h7)<|pc h8<|pc h9<|pc h10<|pc h11<|pc h12<|pc (k_palingref15_At h14)<|pc h15<|pc h16<|pc (k_palingref15_Place h18)<|pc h19<|pc (ob105 h21)<|pc h22<|pn)
           ·obtain rfl := oi h; exact rl [1, 2, 3] [0] [.t, .row (c90 x4), .b r6, .f, .f, .f, .f, .f, .callv (.j r13), .f, .t, .b r17, .f, .row (c105 x20), .f] (pc h3<|pc (ob90 h5)<|pc (k_palingref15_Place h7)<|pc h8<|pc h9<|pc h10<|pc h11<|pc h12<|pc (k_palingref15_At h14)<|pc h15<|pc h16<|pc (k_palingref15_Place h18)<|pc h19<|pc (ob105 h21)<|pc h22<|pn)
         ·obtain rfl := oi h; exact rl [1, 2, 3] [0] [.t, .row (c90 x4), .b r6, .f, .f, .f, .f, .f, .callv (.j r13), .f, .f] (pc h3<|pc (ob90 h5)<|pc (k_palingref15_Place h7)<|pc h8<|pc h9<|pc h10<|pc h11<|pc h12<|pc (k_palingref15_At h14)<|pc h15<|pc h16<|pn)
  ·obtain rfl := oi h; exact rl [1, 2] [0] [.f] (pc h3<|pn)
 ·rcases r with _ | _ <;> exact Ex.noConfusion

theorem k_palingref15_domains_L3 {a1 : Api_Net} {v25 : Int} {x27 : Api_Domain} : LoopOK Tryz.prog UU 0 120 (subC (codeOf Tryz.f67) [1, 1, 0, 1, 0, 0, 1, 0, 0, 1, 1, 0, 0]) (ρ := Unit ⊕ Unit) (palingref15_domains_L3 a1 v25 x27)
  (fun v29 : Int => ([(1, .o 0), (2, .y false), (5, .j v25), (6, .o 1), (7, .j v29)] : Fr DD)) (fun v29 : Int => ([.box 31 (c31 a1) false, .box 90 (c90 x27) false] : Heap DD)) (fun r => match r with | Sum.inl _ => .ret | Sum.inr _ => .exit 4) (fun r => match r with | Sum.inl _ => [(2, .y false)] | Sum.inr _ => [(1, .o 0), (2, .y false), (5, .j v25)]) (fun r => match r with | Sum.inl _ => [] | Sum.inr _ => [.box 31 (c31 a1) false]) := by
 refine loop_sound3 (fun s q h => ?_) (fun r => ?_)
 ·replace h : palingref15_domains_L3 a1 v25 x27 s = some q := h; revert h; revert s; intro v29 h
  unfold palingref15_domains_L3 at h
  obtain ⟨h30, h⟩|⟨h30, h⟩ := ite_out h
  ·obtain ⟨x31, h32, h⟩ := bo h
   obtain ⟨r33, h34, h⟩ := bo h
   obtain ⟨h35, h⟩|⟨h35, h⟩ := ite_out h
   ·obtain rfl := oi h; exact rl [2] [] [.t, .row (c3 x31), .b r33, .t] (pc h30<|pc (ob3 h32)<|pc (k_palingref15_peer h34)<|pc h35<|pn)
   ·obtain ⟨h36, h⟩|⟨h36, h⟩ := ite_out h
    ·obtain ⟨x37, h38, h⟩ := bo h
     obtain ⟨r39, h40, h⟩ := bo h
     obtain ⟨h41, h⟩|⟨h41, h⟩ := ite_out h
     ·obtain rfl := oi h; exact rl [2] [] [.t, .row (c3 x31), .b r33, .f, .row (c3 x37), .b r39, .t] (pc h30<|pc (ob3 h32)<|pc (k_palingref15_peer h34)<|pc h35<|pc (sl_ob h36)<|pc (ob3 h38)<|pc (k_palingref15_In h40)<|pc h41<|pn)
     ·obtain rfl := oi h; exact rl [1, 2, 5, 6, 7] [0, 1] [.t, .row (c3 x31), .b r33, .f, .row (c3 x37), .b r39, .f] (pc h30<|pc (ob3 h32)<|pc (k_palingref15_peer h34)<|pc h35<|pc (sl_ob h36)<|pc (ob3 h38)<|pc (k_palingref15_In h40)<|pc h41<|pn)
    ·cases h
  ·obtain rfl := oi h; exact rl [1, 2, 5] [0] [.f] (pc h30<|pn)
 ·rcases r with _ | _ <;> exact Ex.noConfusion

theorem k_palingref15_domains_L2 {a1 : Api_Net} : LoopOK Tryz.prog UU 0 120 (subC (codeOf Tryz.f67) [1, 1, 0, 1, 0, 0]) (ρ := Unit ⊕ Unit) (palingref15_domains_L2 a1)
  (fun v25 : Int => ([(1, .o 0), (2, .y false), (5, .j v25)] : Fr DD)) (fun v25 : Int => ([.box 31 (c31 a1) false] : Heap DD)) (fun r => match r with | Sum.inl _ => .ret | Sum.inr _ => .exit 2) (fun r => match r with | Sum.inl _ => [(2, .y false)] | Sum.inr _ => [(2, .y false)]) (fun r => match r with | Sum.inl _ => [] | Sum.inr _ => []) := by
 refine loop_sound3 (fun s q h => ?_) (fun r => ?_)
 ·replace h : palingref15_domains_L2 a1 s = some q := h; revert h; revert s; intro v25 h
  unfold palingref15_domains_L2 at h
  obtain ⟨h26, h⟩|⟨h26, h⟩ := ite_out h
  ·obtain ⟨x27, h28, h⟩ := bo h
   obtain ⟨r43, h42, h⟩ := bo h
   rcases r43 with _ | _
   ·obtain rfl := oi h; exact rl [2] [] [.t, .row (c90 x27), .sum [1, 2, 5, 6, 7] [0, 2] .ret [(2, .y false)] []] (pc h26<|pc (ob90 h28)<|pc (k_palingref15_domains_L3 _ _ h42)<|pn)
   ·obtain rfl := oi h; exact rl [1, 2, 5] [0] [.t, .row (c90 x27), .sum [1, 2, 5, 6, 7] [0, 2] (.exit 4) [(1, .o 0), (2, .y false), (5, .j v25)] [.box 31 (c31 a1) false]] (pc h26<|pc (ob90 h28)<|pc (k_palingref15_domains_L3 _ _ h42)<|pn)
  ·obtain rfl := oi h; exact rl [2] [] [.f] (pc h26<|pn)
 ·rcases r with _ | _ <;> exact Ex.noConfusion

theorem k_palingref15_domains {a1 : Api_Net} {r : Bool} (h : palingref15_domains a1 = some r) :
  CallsOK Tryz.prog UU 67 [.agg (c31 a1)] [] (.y r) [] := by
 unfold palingref15_domains at h
 obtain ⟨r24, h23, h⟩ := bo h
 rcases r24 with _ | _
 ·obtain rfl := oi h; exact rf Tryz.func67 none [.sum [1, 2, 3] [0] .ret [(2, .y false)] []] (pc (k_palingref15_domains_L1 _ _ h23)<|pn)
 ·obtain ⟨r45, h44, h⟩ := bo h
  rcases r45 with _ | _
  ·obtain rfl := oi h; exact rf Tryz.func67 none [.sum [1, 2, 3] [0] (.exit 0) [(1, .o 0), (2, .y false)] [.box 31 (c31 a1) false], .sum [1, 2, 5] [0] .ret [(2, .y false)] []] (pc (k_palingref15_domains_L1 _ _ h23)<|pc (k_palingref15_domains_L2 _ _ h44)<|pn)
  ·obtain rfl := oi h; exact rf Tryz.func67 none [.sum [1, 2, 3] [0] (.exit 0) [(1, .o 0), (2, .y false)] [.box 31 (c31 a1) false], .sum [1, 2, 5] [0] (.exit 2) [(2, .y false)] []] (pc (k_palingref15_domains_L1 _ _ h23)<|pc (k_palingref15_domains_L2 _ _ h44)<|pn)

theorem k_palingref15_rising {a1 : List Int} {a2 : Int} {r : Bool} (h : palingref15_rising a1 a2 = some r) :
  CallsOK Tryz.prog UU 152 [.sl 3 a1, .j a2] [] (.y r) [] := by
 unfold palingref15_rising at h
 obtain ⟨h3, h⟩|⟨h3, h⟩ := ite_out h
 ·obtain rfl := oi h; exact rf Tryz.func152 none [.t] (pc h3<|pn)
 ·obtain ⟨r4, h5, h⟩ := bo h
  obtain rfl := oi h; exact rf Tryz.func152 none [.f, .b r4] (pc h3<|pc (k_palingref03_Rising h5)<|pn)

theorem k_palingref15_ports_J2 {a1 : Api_Net} {v2 : Int} {x4 : Api_Port} {r : Unit ⊕ Unit} (h : palingref15_ports_J2 a1 v2 x4 = some r) :
  ExecOK Tryz.prog UU 0 120 (subC (codeOf Tryz.f68) [1, 0, 1, 0, 0, 1, 0, 0, 1, 1, 0]) [(1, .o 0), (2, .y false), (3, .j v2), (4, .o 1)] [.box 31 (c31 a1) false, .box 110 (c110 x4) false] ((fun r => match r with | Sum.inl _ => .ret | Sum.inr _ => .nor) r) ((fun r => match r with | Sum.inl _ => [(2, .y false)] | Sum.inr _ => [(1, .o 0), (2, .y false), (3, .j v2), (4, .o 1)]) r) ((fun r => match r with | Sum.inl _ => [] | Sum.inr _ => [.box 31 (c31 a1) false, .box 110 (c110 x4) false]) r) := by
 unfold palingref15_ports_J2 at h
 obtain ⟨h17, h⟩|⟨h17, h⟩ := ite_out h
 ·obtain ⟨h18, h⟩|⟨h18, h⟩ := ite_out h
  ·obtain rfl := oi h; exact rl [2] [] [.t, .t] (pc h17<|pc h18<|pn)
  ·obtain ⟨h19, h⟩|⟨h19, h⟩ := ite_out h
   ·obtain ⟨r20, h21, h⟩ := bo h
    obtain ⟨h22, h⟩|⟨h22, h⟩ := ite_out h
    ·obtain rfl := oi h; exact rl [2] [] [.t, .f, .t, .callv (.j r20), .t] (pc h17<|pc h18<|pc h19<|pc (k_palingref15_At h21)<|pc h22<|pn)
    ·obtain rfl := oi h; exact rl [1, 2, 3, 4] [0, 1] [.t, .f, .t, .callv (.j r20), .f] (pc h17<|pc h18<|pc h19<|pc (k_palingref15_At h21)<|pc h22<|pn)
   ·obtain rfl := oi h; exact rl [1, 2, 3, 4] [0, 1] [.t, .f, .f] (pc h17<|pc h18<|pc h19<|pn)
 ·obtain ⟨h23, h⟩|⟨h23, h⟩ := ite_out h
  ·obtain ⟨r24, h25, h⟩ := bo h
   obtain ⟨h26, h⟩|⟨h26, h⟩ := ite_out h
   ·obtain rfl := oi h; exact rl [2] [] [.f, .t, .callv (.j r24), .t] (pc h17<|pc h23<|pc (k_palingref15_At h25)<|pc h26<|pn)
   ·obtain rfl := oi h; exact rl [1, 2, 3, 4] [0, 1] [.f, .t, .callv (.j r24), .f] (pc h17<|pc h23<|pc (k_palingref15_At h25)<|pc h26<|pn)
  ·obtain rfl := oi h; exact rl [1, 2, 3, 4] [0, 1] [.f, .f] (pc h17<|pc h23<|pn)

theorem k_palingref15_ports_L3 {a1 : Api_Net} {v2 : Int} {x4 : Api_Port} : LoopOK Tryz.prog UU 0 120 (subC (codeOf Tryz.f68) [1, 0, 1, 0, 0, 1, 0, 0, 1, 1, 1, 0, 1, 0, 0]) (ρ := Unit ⊕ Unit) (palingref15_ports_L3 a1 v2 x4)
  (fun v29 : Int => ([(1, .o 0), (2, .y false), (3, .j v2), (4, .o 1), (5, .j v29)] : Fr DD)) (fun v29 : Int => ([.box 31 (c31 a1) false, .box 110 (c110 x4) false] : Heap DD)) (fun r => match r with | Sum.inl _ => .ret | Sum.inr _ => .exit 2) (fun r => match r with | Sum.inl _ => [(2, .y false)] | Sum.inr _ => [(1, .o 0), (2, .y false), (3, .j v2), (4, .o 1)]) (fun r => match r with | Sum.inl _ => [] | Sum.inr _ => [.box 31 (c31 a1) false, .box 110 (c110 x4) false]) := by
 refine loop_sound3 (fun s q h => ?_) (fun r => ?_)
 ·replace h : palingref15_ports_L3 a1 v2 x4 s = some q := h; revert h; revert s; intro v29 h
  unfold palingref15_ports_L3 at h
  obtain ⟨h30, h⟩|⟨h30, h⟩ := ite_out h
  ·obtain ⟨x31, h32, h⟩ := bo h
   obtain ⟨r33, h34, h⟩ := bo h
   obtain ⟨h35, h⟩|⟨h35, h⟩ := ite_out h
   ·obtain rfl := oi h; exact rl [2] [] [.t, .row (c3 x31), .callv (.j r33), .t] (pc h30<|pc (ob3 h32)<|pc (k_palingref15_At h34)<|pc h35<|pn)
   ·obtain rfl := oi h; exact rl [1, 2, 3, 4, 5] [0, 1] [.t, .row (c3 x31), .callv (.j r33), .f] (pc h30<|pc (ob3 h32)<|pc (k_palingref15_At h34)<|pc h35<|pn)
  ·obtain rfl := oi h; exact rl [1, 2, 3, 4] [0, 1] [.f] (pc h30<|pn)
 ·rcases r with _ | _ <;> exact Ex.noConfusion

theorem k_palingref15_ports_L1 {a1 : Api_Net} : LoopOK Tryz.prog UU 0 120 (subC (codeOf Tryz.f68) [1, 0, 1, 0, 0]) (ρ := Unit ⊕ Unit) (palingref15_ports_L1 a1)
  (fun v2 : Int => ([(1, .o 0), (2, .y false), (3, .j v2)] : Fr DD)) (fun v2 : Int => ([.box 31 (c31 a1) false] : Heap DD)) (fun r => match r with | Sum.inl _ => .ret | Sum.inr _ => .exit 0) (fun r => match r with | Sum.inl _ => [(2, .y false)] | Sum.inr _ => [(2, .y false)]) (fun r => match r with | Sum.inl _ => [] | Sum.inr _ => []) := by
 refine loop_sound3 (fun s q h => ?_) (fun r => ?_)
 ·replace h : palingref15_ports_L1 a1 s = some q := h; revert h; revert s; intro v2 h
  unfold palingref15_ports_L1 at h
  obtain ⟨h3, h⟩|⟨h3, h⟩ := ite_out h
  ·obtain ⟨x4, h5, h⟩ := bo h
   obtain ⟨r6, h7, h⟩ := bo h
   obtain ⟨h8, h⟩|⟨h8, h⟩ := ite_out h
   ·obtain rfl := oi h; exact rl [2] [] [.t, .row (c110 x4), .b r6, .t] (pc h3<|pc (ob110 h5)<|pc (k_palingref15_Place h7)<|pc h8<|pn)
   ·obtain ⟨h9, h⟩|⟨h9, h⟩ := ite_out h
    ·obtain rfl := oi h; exact rl [2] [] [.t, .row (c110 x4), .b r6, .f, .t] (pc h3<|pc (ob110 h5)<|pc (k_palingref15_Place h7)<|pc h8<|pc h9<|pn)
    ·obtain ⟨h10, h⟩|⟨h10, h⟩ := ite_out h
     ·obtain rfl := oi h; exact rl [2] [] [.t, .row (c110 x4), .b r6, .f, .f, .t] (pc h3<|pc (ob110 h5)<|pc (k_palingref15_Place h7)<|pc h8<|pc h9<|pc h10<|pn)
     ·obtain ⟨r11, h12, h⟩ := bo h
      obtain ⟨h13, h⟩|⟨h13, h⟩ := ite_out h
      ·obtain rfl := oi h; exact rl [2] [] [.t, .row (c110 x4), .b r6, .f, .f, .f, .b r11, .t] (pc h3<|pc (ob110 h5)<|pc (k_palingref15_Place h7)<|pc h8<|pc h9<|pc h10<|pc (k_palingref15_rising h12)<|pc h13<|pn)
      ·obtain ⟨r14, h15, h⟩ := bo h
       obtain ⟨h16, h⟩|⟨h16, h⟩ := ite_out h
       ·obtain rfl := oi h; exact rl [2] [] [.t, .row (c110 x4), .b r6, .f, .f, .f, .b r11, .f, .b r14, .t] (pc h3<|pc (ob110 h5)<|pc (k_palingref15_Place h7)<|pc h8<|pc h9<|pc h10<|pc (k_palingref15_rising h12)<|pc h13<|pc (k_palingref15_In h15)<|pc h16<|pn)
       ·obtain ⟨r28, h27, h⟩ := bo h
        rcases r28 with _ | _
        ·obtain rfl := oi h; exact rl [2] [] [.t, .row (c110 x4), .b r6, .f, .f, .f, .b r11, .f, .b r14, .f, .cut [1, 2, 3, 4] [0, 2] .ret [(2, .y false)] []] (pc h3<|pc (ob110 h5)<|pc (k_palingref15_Place h7)<|pc h8<|pc h9<|pc h10<|pc (k_palingref15_rising h12)<|pc h13<|pc (k_palingref15_In h15)<|pc h16<|pc (k_palingref15_ports_J2 h27)<|pn)
        ·obtain ⟨r37, h36, h⟩ := bo h
         rcases r37 with _ | _
         ·obtain rfl := oi h; exact rl [2] [] [.t, .row (c110 x4), .b r6, .f, .f, .f, .b r11, .f, .b r14, .f, .cut [1, 2, 3, 4] [0, 2] .nor [(1, .o 0), (2, .y false), (3, .j v2), (4, .o 1)] [.box 31 (c31 a1) false, .box 110 (c110 x4) false], .sum [1, 2, 3, 4, 5] [0, 1] .ret [(2, .y false)] []] (pc h3<|pc (ob110 h5)<|pc (k_palingref15_Place h7)<|pc h8<|pc h9<|pc h10<|pc (k_palingref15_rising h12)<|pc h13<|pc (k_palingref15_In h15)<|pc h16<|pc (k_palingref15_ports_J2 h27)<|pc (k_palingref15_ports_L3 _ _ h36)<|pn)
         ·obtain ⟨h38, h⟩|⟨h38, h⟩ := ite_out h
          ·obtain rfl := oi h; exact rl [1, 2, 3] [0] [.t, .row (c110 x4), .b r6, .f, .f, .f, .b r11, .f, .b r14, .f, .cut [1, 2, 3, 4] [0, 2] .nor [(1, .o 0), (2, .y false), (3, .j v2), (4, .o 1)] [.box 31 (c31 a1) false, .box 110 (c110 x4) false], .sum [1, 2, 3, 4, 5] [0, 1] (.exit 2) [(1, .o 0), (2, .y false), (3, .j v2), (4, .o 1)] [.box 31 (c31 a1) false, .box 110 (c110 x4) false], .t] (pc h3<|pc (ob110 h5)<|pc (k_palingref15_Place h7)<|pc h8<|pc h9<|pc h10<|pc (k_palingref15_rising h12)<|pc h13<|pc (k_palingref15_In h15)<|pc h16<|pc (k_palingref15_ports_J2 h27)<|pc (k_palingref15_ports_L3 _ _ h36)<|pc h38<|pn)
          ·obtain ⟨r39, h40, h⟩ := bo h
           obtain ⟨h41, h⟩|⟨h41, h⟩ := ite_out h
           ·obtain rfl := oi h; exact rl [2] [] [.t, .row (c110 x4), .b r6, .f, .f, .f, .b r11, .f, .b r14, .f, .cut [1, 2, 3, 4] [0, 2] .nor [(1, .o 0), (2, .y false), (3, .j v2), (4, .o 1)] [.box 31 (c31 a1) false, .box 110 (c110 x4) false], .sum [1, 2, 3, 4, 5] [0, 1] (.exit 2) [(1, .o 0), (2, .y false), (3, .j v2), (4, .o 1)] [.box 31 (c31 a1) false, .box 110 (c110 x4) false], .f, .b r39, .t] (pc h3<|pc (ob110 h5)<|pc (k_palingref15_Place h7)<|pc h8<|pc h9<|pc h10<|pc (k_palingref15_rising h12)<|pc h13<|pc (k_palingref15_In h15)<|pc h16<|pc (k_palingref15_ports_J2 h27)<|pc (k_palingref15_ports_L3 _ _ h36)<|pc h38<|pc (k_palingref15_Place h40)<|pc h41<|pn)
           ·obtain ⟨x42, h43, h⟩ := bo h
            obtain ⟨h44, h⟩|⟨h44, h⟩ := ite_out h
            ·obtain ⟨x45, h46, h⟩ := bo h
             obtain ⟨h47, h⟩|⟨h47, h⟩ := ite_out h
             ·obtain rfl := oi h; exact rl [2] [] [.t, .row (c110 x4), .b r6, .f, .f, .f, .b r11, .f, .b r14, .f, .cut [1, 2, 3, 4] [0, 2] .nor [(1, .o 0), (2, .y false), (3, .j v2), (4, .o 1)] [.box 31 (c31 a1) false, .box 110 (c110 x4) false], .sum [1, 2, 3, 4, 5] [0, 1] (.exit 2) [(1, .o 0), (2, .y false), (3, .j v2), (4, .o 1)] [.box 31 (c31 a1) false, .box 110 (c110 x4) false], .f, .b r39, .f, .row (c174 x42), .t, .row (c174 x45), .t] (pc h3<|pc (ob110 h5)<|pc (k_palingref15_Place h7)<|pc h8<|pc h9<|pc h10<|pc (k_palingref15_rising h12)<|pc h13<|pc (k_palingref15_In h15)<|pc h16<|pc (k_palingref15_ports_J2 h27)<|pc (k_palingref15_ports_L3 _ _ h36)<|pc h38<|pc (k_palingref15_Place h40)<|pc h41<|pc (ob174 h43)<|pc h44<|pc (ob174 h46)<|pc h47<|pn)
             ·obtain rfl := oi h; exact rl [1, 2, 3] [0] [.t, .row (c110 x4), .b r6, .f, .f, .f, .b r11, .f, .b r14, .f, .cut [1, 2, 3, 4] [0, 2] .nor [(1, .o 0), (2, .y false), (3, .j v2), (4, .o 1)] [.box 31 (c31 a1) false, .box 110 (c110 x4) false], .sum [1, 2, 3, 4, 5] [0, 1] (.exit 2) [(1, .o 0), (2, .y false), (3, .j v2), (4, .o 1)] [.box 31 (c31 a1) false, .box 110 (c110 x4) false], .f, .b r39, .f, .row (c174 x42), .t, .row (c174 x45), .f] (pc h3<|pc (ob110 h5)<|pc (k_palingref15_Place h7)<|pc h8<|pc h9<|pc h10<|pc (k_palingref15_rising h12)<|pc h13<|pc (k_palingref15_In h15)<|pc h16<|pc (k_palingref15_ports_J2 h27)<|pc (k_palingref15_ports_L3 _ _ h36)<|pc h38<|pc (k_palingref15_Place h40)<|pc h41<|pc (ob174 h43)<|pc h44<|pc (ob174 h46)<|pc h47<|pn)
            ·obtain rfl := oi h; exact rl [1, 2, 3] [0] [.t, .row (c110 x4), .b r6, .f, .f, .f, .b r11, .f, .b r14, .f, .cut [1, 2, 3, 4] [0, 2] .nor [(1, .o 0), (2, .y false), (3, .j v2), (4, .o 1)] [.box 31 (c31 a1) false, .box 110 (c110 x4) false], .sum [1, 2, 3, 4, 5] [0, 1] (.exit 2) [(1, .o 0), (2, .y false), (3, .j v2), (4, .o 1)] [.box 31 (c31 a1) false, .box 110 (c110 x4) false], .f, .b r39, .f, .row (c174 x42), .f] (pc h3<|pc (ob110 h5)<|pc (k_palingref15_Place h7)<|pc h8<|pc h9<|pc h10<|pc (k_palingref15_rising h12)<|pc h13<|pc (k_palingref15_In h15)<|pc h16<|pc (k_palingref15_ports_J2 h27)<|pc (k_palingref15_ports_L3 _ _ h36)<|pc h38<|pc (k_palingref15_Place h40)<|pc h41<|pc (ob174 h43)<|pc h44<|pn)
  ·obtain rfl := oi h; exact rl [2] [] [.f] (pc h3<|pn)
 ·rcases r with _ | _ <;> exact Ex.noConfusion

theorem k_palingref15_ports {a1 : Api_Net} {r : Bool} (h : palingref15_ports a1 = some r) :
  CallsOK Tryz.prog UU 68 [.agg (c31 a1)] [] (.y r) [] := by
 unfold palingref15_ports at h
 obtain ⟨r49, h48, h⟩ := bo h
 rcases r49 with _ | _
 ·obtain rfl := oi h; exact rf Tryz.func68 none [.sum [1, 2, 3] [0] .ret [(2, .y false)] []] (pc (k_palingref15_ports_L1 _ _ h48)<|pn)
 ·obtain rfl := oi h; exact rf Tryz.func68 none [.sum [1, 2, 3] [0] (.exit 0) [(2, .y false)] []] (pc (k_palingref15_ports_L1 _ _ h48)<|pn)

theorem k_palingref15_links_L1 {a1 : Api_Net} : LoopOK Tryz.prog UU 0 70 (subC (codeOf Tryz.f69) [1, 0, 1, 0, 0]) (ρ := Unit ⊕ Unit) (palingref15_links_L1 a1)
  (fun v2 : Int => ([(1, .o 0), (2, .y false), (3, .j v2)] : Fr DD)) (fun v2 : Int => ([.box 31 (c31 a1) false] : Heap DD)) (fun r => match r with | Sum.inl _ => .ret | Sum.inr _ => .exit 0) (fun r => match r with | Sum.inl _ => [(2, .y false)] | Sum.inr _ => [(2, .y false)]) (fun r => match r with | Sum.inl _ => [] | Sum.inr _ => []) := by
 refine loop_sound3 (fun s q h => ?_) (fun r => ?_)
 ·replace h : palingref15_links_L1 a1 s = some q := h; revert h; revert s; intro v2 h
  unfold palingref15_links_L1 at h
  obtain ⟨h3, h⟩|⟨h3, h⟩ := ite_out h
  ·obtain ⟨x4, h5, h⟩ := bo h
   obtain ⟨r6, h7, h⟩ := bo h
   obtain ⟨h8, h⟩|⟨h8, h⟩ := ite_out h
   ·obtain rfl := oi h; exact rl [2] [] [.t, .row (c174 x4), .b r6, .t] (pc h3<|pc (ob174 h5)<|pc (k_palingref15_Place h7)<|pc h8<|pn)
   ·obtain ⟨r9, h10, h⟩ := bo h
    obtain ⟨h11, h⟩|⟨h11, h⟩ := ite_out h
    ·obtain rfl := oi h; exact rl [2] [] [.t, .row (c174 x4), .b r6, .f, .b r9, .t] (pc h3<|pc (ob174 h5)<|pc (k_palingref15_Place h7)<|pc h8<|pc (k_palingref15_Place h10)<|pc h11<|pn)
    ·obtain ⟨x12, h13, h⟩ := bo h
     obtain ⟨x14, h15, h⟩ := bo h
     obtain ⟨h16, h⟩|⟨h16, h⟩ := ite_out h
     ·obtain rfl := oi h; exact rl [2] [] [.t, .row (c174 x4), .b r6, .f, .b r9, .f, .row (c110 x12), .row (c110 x14), .t] (pc h3<|pc (ob174 h5)<|pc (k_palingref15_Place h7)<|pc h8<|pc (k_palingref15_Place h10)<|pc h11<|pc (ob110 h13)<|pc (ob110 h15)<|pc h16<|pn)
     ·obtain ⟨x17, h18, h⟩ := bo h
      obtain ⟨h19, h⟩|⟨h19, h⟩ := ite_out h
      ·obtain rfl := oi h; exact rl [2] [] [.t, .row (c174 x4), .b r6, .f, .b r9, .f, .row (c110 x12), .row (c110 x14), .f, .row (c110 x17), .t] (pc h3<|pc (ob174 h5)<|pc (k_palingref15_Place h7)<|pc h8<|pc (k_palingref15_Place h10)<|pc h11<|pc (ob110 h13)<|pc (ob110 h15)<|pc h16<|pc (ob110 h18)<|pc h19<|pn)
      ·obtain ⟨x20, h21, h⟩ := bo h
       obtain ⟨h22, h⟩|⟨h22, h⟩ := ite_out h
       ·obtain rfl := oi h; exact rl [2] [] [.t, .row (c174 x4), .b r6, .f, .b r9, .f, .row (c110 x12), .row (c110 x14), .f, .row (c110 x17), .f, .row (c110 x20), .t] (pc h3<|pc (ob174 h5)<|pc (k_palingref15_Place h7)<|pc h8<|pc (k_palingref15_Place h10)<|pc h11<|pc (ob110 h13)<|pc (ob110 h15)<|pc h16<|pc (ob110 h18)<|pc h19<|pc (ob110 h21)<|pc h22<|pn)
       ·obtain rfl := oi h; exact rl [1, 2, 3] [0] [.t, .row (c174 x4), .b r6, .f, .b r9, .f, .row (c110 x12), .row (c110 x14), .f, .row (c110 x17), .f, .row (c110 x20), .f] (pc h3<|pc (ob174 h5)<|pc (k_palingref15_Place h7)<|pc h8<|pc (k_palingref15_Place h10)<|pc h11<|pc (ob110 h13)<|pc (ob110 h15)<|pc h16<|pc (ob110 h18)<|pc h19<|pc (ob110 h21)<|pc h22<|pn)
  ·obtain rfl := oi h; exact rl [2] [] [.f] (pc h3<|pn)
 ·rcases r with _ | _ <;> exact Ex.noConfusion

theorem k_palingref15_links {a1 : Api_Net} {r : Bool} (h : palingref15_links a1 = some r) :
  CallsOK Tryz.prog UU 69 [.agg (c31 a1)] [] (.y r) [] := by
 unfold palingref15_links at h
 obtain ⟨r24, h23, h⟩ := bo h
 rcases r24 with _ | _
 ·obtain rfl := oi h; exact rf Tryz.func69 none [.sum [1, 2, 3] [0] .ret [(2, .y false)] []] (pc (k_palingref15_links_L1 _ _ h23)<|pn)
 ·obtain rfl := oi h; exact rf Tryz.func69 none [.sum [1, 2, 3] [0] (.exit 0) [(2, .y false)] []] (pc (k_palingref15_links_L1 _ _ h23)<|pn)

theorem k_palingref15_Member {a1 : Api_Port} {a2 : Int} {r : Bool} (h : palingref15_Member a1 a2 = some r) :
  CallsOK Tryz.prog UU 153 [.agg (c110 a1), .j a2] [] (.y r) [] := by
 unfold palingref15_Member at h
 obtain ⟨h3, h⟩|⟨h3, h⟩ := ite_out h
 ·obtain ⟨h4, h⟩|⟨h4, h⟩ := ite_out h
  ·obtain rfl := oi h; exact rf Tryz.func153 none [.t, .t] (pc h3<|pc h4<|pn)
  ·obtain ⟨r5, h6, h⟩ := bo h
   obtain rfl := oi h; exact rf Tryz.func153 none [.t, .f, .b r5] (pc h3<|pc h4<|pc (k_palingref15_In h6)<|pn)
 ·obtain rfl := oi h; exact rf Tryz.func153 none [.f] (pc h3<|pn)

end Go.Eng
