/- Part of the proof of VrfsPuts: printed mirrors of the functions, or their contracts. No conditions. -/
import Derived.Test.YtcclngfmkodgjaaGreatMAK3
set_option linter.unusedVariables false
set_option maxRecDepth 100000
namespace Go.Eng
open Go Go.Proofs
def b0_k_names_Copy_L1 : AObj DD := .box 31 [.os 1 0, .os 2 0, .os 3 0, .os 4 0, .os 5 0, .os 6 0, .os 7 0, .os 8 0] false
theorem k_names_Copy_L1 {l4 : List Api_Device} {l7 : List Api_Port} {l10 : List Api_Link} {l13 : List Api_Domain} {l16 : List Api_Static} {l19 : List Api_Flood} {l22 : List Api_Vrf} {l25 : List Api_Irb} : LoopOK Tryz.prog UU 0 119 (subC (codeOf Tryz.f43) [1, 1, 0, 1, 0, 0]) (fun s : (List Api_Port) × Int => match s with | (l26, v27) => names_Copy_L1 l4 l7 l10 l13 l16 l19 l22 l25 l26 v27)
  (fun s : (List Api_Port) × Int => (match s with | (l26, v27) => [(2, .o 0), (3, .o 9), (36, .j (l7.length : Int)), (37, .j v27)] : Fr DD)) (fun s : (List Api_Port) × Int => (match s with | (l26, v27) => [b0_k_names_Copy_L1, .n 56, .n 110, .n 174, .n 90, .n 178, .n 113, .n 88, .n 105, .box 31 [.os 10 l4.length, .os 11 l7.length, .os 12 l10.length, .os 13 l13.length, .os 14 l16.length, .os 15 l19.length, .os 16 l22.length, .os 17 l25.length] false, .w 56 l4, .arr 110 l26 l7.length false, .w 174 l10, .w 90 l13, .w 178 l16, .w 113 l19, .w 88 l22, .w 105 l25] : Heap DD)) (fun r => match r with | l39 => .exit 0) (fun r => match r with | l39 => [(2, .o 0), (3, .o 9)]) (fun r => match r with | l39 => [b0_k_names_Copy_L1, .n 56, .n 110, .n 174, .n 90, .n 178, .n 113, .n 88, .n 105, .box 31 [.os 10 l4.length, .os 11 l7.length, .os 12 l10.length, .os 13 l13.length, .os 14 l16.length, .os 15 l19.length, .os 16 l22.length, .os 17 l25.length] false, .w 56 l4, .arr 110 l39 l7.length false, .w 174 l10, .w 90 l13, .w 178 l16, .w 113 l19, .w 88 l22, .w 105 l25]) := by
 refine loop_sound3 (fun s q h => ?_) (fun r => ?_)
 ·obtain ⟨l26, v27⟩ := s; replace h : names_Copy_L1 l4 l7 l10 l13 l16 l19 l22 l25 l26 v27 = some q := h
  unfold names_Copy_L1 at h
  obtain ⟨h28, h⟩|⟨h28, h⟩ := ite_out h
  ·obtain ⟨h29, h⟩|⟨h29, h⟩ := ite_out h
   ·obtain ⟨x30, h31, h⟩ := bo h
    obtain ⟨l34, h33, h⟩ := bo h
    obtain ⟨x35, h36, h⟩ := bo h
    obtain rfl := oi h; exact rl [2, 3, 36, 37] [0, 1, 2, 3, 4, 5, 6, 7, 8, 9, 10, 11, 12, 13, 14, 15, 16, 17] [.t, .sum [9] [] .nor [] [b0_k_names_Copy_L1, .n 56, .n 110, .n 174, .n 90, .n 178, .n 113, .n 88, .n 105, .box 31 [.os 10 l4.length, .os 11 l7.length, .os 12 l10.length, .os 13 l13.length, .os 14 l16.length, .os 15 l19.length, .os 16 l22.length, .os 17 l25.length] false, .w 56 l4, .arr 110 l26 l7.length false, .w 174 l10, .w 90 l13, .w 178 l16, .w 113 l19, .w 88 l22, .w 105 l25, .w 3 l34], .row (c110 x30), .callo (.os 0 l34.length) [.w 3 l34], .row (c110 x35), .obj [18] (.arr 110 (List.set l26 v27.toNat (⟨x35.row, x35.dev, x35.native, x35.cost, x35.link, x35.name, l34⟩ : Api_Port)) l7.length false)] (pc h28<|pc (rr (.op 9 1 0 1))<|pc (rr (.os 11 l7.length))<|pc (rr (.j v27))<|pc (an l7.length (lin_ob h29))<|pc (rn l7.length)<|pc (an l7.length (obn110 h31))<|pc (rh [b0_k_names_Copy_L1, .n 56, .n 110, .n 174, .n 90, .n 178, .n 113, .n 88, .n 105, .box 31 [.os 10 l4.length, .os 11 l7.length, .os 12 l10.length, .os 13 l13.length, .os 14 l16.length, .os 15 l19.length, .os 16 l22.length, .os 17 l25.length] false, .w 56 l4, .arr 110 l26 l7.length false, .w 174 l10, .w 90 l13, .w 178 l16, .w 113 l19, .w 88 l22, .w 105 l25, .w 3 l34])<|pc (k_slices_Clone_int h33)<|pc (im3 l34)<|pc (an l7.length (lin_ob h29))<|pc (rn l7.length)<|pc (st_ob (e := 110) (n := l7.length) (l := l26) (i := v27.toNat) (⟨x35.row, x35.dev, x35.native, x35.cost, x35.link, x35.name, l34⟩ : Api_Port) [.j x35.row, .j x35.dev, .j x35.native, .j x35.cost, .j x35.link, .x x35.name, .sl 3 l34] (obn110 h36) rfl)<|pc (rn l34.length)<|pn)
   ·cases h
  ·obtain rfl := oi h; exact rl [2, 3] [0, 1, 2, 3, 4, 5, 6, 7, 8, 9, 10, 11, 12, 13, 14, 15, 16, 17] [.f] (pc h28<|pn)
 ·exact Ex.noConfusion

def b0_k_names_Copy_L2 : AObj DD := .box 31 [.os 1 0, .os 2 0, .os 3 0, .os 4 0, .os 5 0, .os 6 0, .os 7 0, .os 8 0] false
theorem k_names_Copy_L2 {l4 : List Api_Device} {l7 : List Api_Port} {l10 : List Api_Link} {l13 : List Api_Domain} {l16 : List Api_Static} {l19 : List Api_Flood} {l22 : List Api_Vrf} {l25 : List Api_Irb} {l39 : List Api_Port} : LoopOK Tryz.prog UU 0 119 (subC (codeOf Tryz.f43) [1, 1, 1, 0, 1, 0, 0]) (fun s : (List Api_Domain) × Int => match s with | (l42, v43) => names_Copy_L2 l4 l7 l10 l13 l16 l19 l22 l25 l39 l42 v43)
  (fun s : (List Api_Domain) × Int => (match s with | (l42, v43) => [(2, .o 0), (3, .o 9), (55, .j (l13.length : Int)), (56, .j v43)] : Fr DD)) (fun s : (List Api_Domain) × Int => (match s with | (l42, v43) => [b0_k_names_Copy_L2, .n 56, .n 110, .n 174, .n 90, .n 178, .n 113, .n 88, .n 105, .box 31 [.os 10 l4.length, .os 11 l7.length, .os 12 l10.length, .os 13 l13.length, .os 14 l16.length, .os 15 l19.length, .os 16 l22.length, .os 17 l25.length] false, .w 56 l4, .arr 110 l39 l7.length false, .w 174 l10, .arr 90 l42 l13.length false, .w 178 l16, .w 113 l19, .w 88 l22, .w 105 l25] : Heap DD)) (fun r => match r with | l55 => .exit 2) (fun r => match r with | l55 => [(2, .o 0), (3, .o 9)]) (fun r => match r with | l55 => [b0_k_names_Copy_L2, .n 56, .n 110, .n 174, .n 90, .n 178, .n 113, .n 88, .n 105, .box 31 [.os 10 l4.length, .os 11 l7.length, .os 12 l10.length, .os 13 l13.length, .os 14 l16.length, .os 15 l19.length, .os 16 l22.length, .os 17 l25.length] false, .w 56 l4, .arr 110 l39 l7.length false, .w 174 l10, .arr 90 l55 l13.length false, .w 178 l16, .w 113 l19, .w 88 l22, .w 105 l25]) := by
 refine loop_sound3 (fun s q h => ?_) (fun r => ?_)
 ·obtain ⟨l42, v43⟩ := s; replace h : names_Copy_L2 l4 l7 l10 l13 l16 l19 l22 l25 l39 l42 v43 = some q := h
  unfold names_Copy_L2 at h
  obtain ⟨h44, h⟩|⟨h44, h⟩ := ite_out h
  ·obtain ⟨h45, h⟩|⟨h45, h⟩ := ite_out h
   ·obtain ⟨x46, h47, h⟩ := bo h
    obtain ⟨l50, h49, h⟩ := bo h
    obtain ⟨x51, h52, h⟩ := bo h
    obtain rfl := oi h; exact rl [2, 3, 55, 56] [0, 1, 2, 3, 4, 5, 6, 7, 8, 9, 10, 11, 12, 13, 14, 15, 16, 17] [.t, .sum [9] [] .nor [] [b0_k_names_Copy_L2, .n 56, .n 110, .n 174, .n 90, .n 178, .n 113, .n 88, .n 105, .box 31 [.os 10 l4.length, .os 11 l7.length, .os 12 l10.length, .os 13 l13.length, .os 14 l16.length, .os 15 l19.length, .os 16 l22.length, .os 17 l25.length] false, .w 56 l4, .arr 110 l39 l7.length false, .w 174 l10, .arr 90 l42 l13.length false, .w 178 l16, .w 113 l19, .w 88 l22, .w 105 l25, .w 3 l50], .row (c90 x46), .callo (.os 0 l50.length) [.w 3 l50], .row (c90 x51), .obj [18] (.arr 90 (List.set l42 v43.toNat (⟨x51.dev, x51.vlan, x51.vni, x51.irb, x51.row, l50⟩ : Api_Domain)) l13.length false)] (pc h44<|pc (rr (.op 9 1 0 3))<|pc (rr (.os 13 l13.length))<|pc (rr (.j v43))<|pc (an l13.length (lin_ob h45))<|pc (rn l13.length)<|pc (an l13.length (obn90 h47))<|pc (rh [b0_k_names_Copy_L2, .n 56, .n 110, .n 174, .n 90, .n 178, .n 113, .n 88, .n 105, .box 31 [.os 10 l4.length, .os 11 l7.length, .os 12 l10.length, .os 13 l13.length, .os 14 l16.length, .os 15 l19.length, .os 16 l22.length, .os 17 l25.length] false, .w 56 l4, .arr 110 l39 l7.length false, .w 174 l10, .arr 90 l42 l13.length false, .w 178 l16, .w 113 l19, .w 88 l22, .w 105 l25, .w 3 l50])<|pc (k_slices_Clone_int h49)<|pc (im3 l50)<|pc (an l13.length (lin_ob h45))<|pc (rn l13.length)<|pc (st_ob (e := 90) (n := l13.length) (l := l42) (i := v43.toNat) (⟨x51.dev, x51.vlan, x51.vni, x51.irb, x51.row, l50⟩ : Api_Domain) [.j x51.dev, .j x51.vlan, .j x51.vni, .j x51.irb, .j x51.row, .sl 3 l50] (obn90 h52) rfl)<|pc (rn l50.length)<|pn)
   ·cases h
  ·obtain rfl := oi h; exact rl [2, 3] [0, 1, 2, 3, 4, 5, 6, 7, 8, 9, 10, 11, 12, 13, 14, 15, 16, 17] [.f] (pc h44<|pn)
 ·exact Ex.noConfusion

def b0_k_names_Copy_L3 : AObj DD := .box 31 [.os 1 0, .os 2 0, .os 3 0, .os 4 0, .os 5 0, .os 6 0, .os 7 0, .os 8 0] false
theorem k_names_Copy_L3 {l4 : List Api_Device} {l7 : List Api_Port} {l10 : List Api_Link} {l13 : List Api_Domain} {l16 : List Api_Static} {l19 : List Api_Flood} {l22 : List Api_Vrf} {l25 : List Api_Irb} {l39 : List Api_Port} {l55 : List Api_Domain} : LoopOK Tryz.prog UU 0 119 (subC (codeOf Tryz.f43) [1, 1, 1, 1, 0, 1, 0, 0]) (fun s : (List Api_Flood) × Int => match s with | (l58, v59) => names_Copy_L3 l4 l7 l10 l13 l16 l19 l22 l25 l39 l55 l58 v59)
  (fun s : (List Api_Flood) × Int => (match s with | (l58, v59) => [(2, .o 0), (3, .o 9), (74, .j (l19.length : Int)), (75, .j v59)] : Fr DD)) (fun s : (List Api_Flood) × Int => (match s with | (l58, v59) => [b0_k_names_Copy_L3, .n 56, .n 110, .n 174, .n 90, .n 178, .n 113, .n 88, .n 105, .box 31 [.os 10 l4.length, .os 11 l7.length, .os 12 l10.length, .os 13 l13.length, .os 14 l16.length, .os 15 l19.length, .os 16 l22.length, .os 17 l25.length] false, .w 56 l4, .arr 110 l39 l7.length false, .w 174 l10, .arr 90 l55 l13.length false, .w 178 l16, .arr 113 l58 l19.length false, .w 88 l22, .w 105 l25] : Heap DD)) (fun r => match r with | l71 => .exit 4) (fun r => match r with | l71 => [(2, .o 0), (3, .o 9)]) (fun r => match r with | l71 => [b0_k_names_Copy_L3, .n 56, .n 110, .n 174, .n 90, .n 178, .n 113, .n 88, .n 105, .box 31 [.os 10 l4.length, .os 11 l7.length, .os 12 l10.length, .os 13 l13.length, .os 14 l16.length, .os 15 l19.length, .os 16 l22.length, .os 17 l25.length] false, .w 56 l4, .arr 110 l39 l7.length false, .w 174 l10, .arr 90 l55 l13.length false, .w 178 l16, .arr 113 l71 l19.length false, .w 88 l22, .w 105 l25]) := by
 refine loop_sound3 (fun s q h => ?_) (fun r => ?_)
 ·obtain ⟨l58, v59⟩ := s; replace h : names_Copy_L3 l4 l7 l10 l13 l16 l19 l22 l25 l39 l55 l58 v59 = some q := h
  unfold names_Copy_L3 at h
  obtain ⟨h60, h⟩|⟨h60, h⟩ := ite_out h
  ·obtain ⟨h61, h⟩|⟨h61, h⟩ := ite_out h
   ·obtain ⟨x62, h63, h⟩ := bo h
    obtain ⟨l66, h65, h⟩ := bo h
    obtain ⟨x67, h68, h⟩ := bo h
    obtain rfl := oi h; exact rl [2, 3, 74, 75] [0, 1, 2, 3, 4, 5, 6, 7, 8, 9, 10, 11, 12, 13, 14, 15, 16, 17] [.t, .sum [9] [] .nor [] [b0_k_names_Copy_L3, .n 56, .n 110, .n 174, .n 90, .n 178, .n 113, .n 88, .n 105, .box 31 [.os 10 l4.length, .os 11 l7.length, .os 12 l10.length, .os 13 l13.length, .os 14 l16.length, .os 15 l19.length, .os 16 l22.length, .os 17 l25.length] false, .w 56 l4, .arr 110 l39 l7.length false, .w 174 l10, .arr 90 l55 l13.length false, .w 178 l16, .arr 113 l58 l19.length false, .w 88 l22, .w 105 l25, .w 33 l66], .row (c113 x62), .callo (.os 0 l66.length) [.w 33 l66], .row (c113 x67), .obj [18] (.arr 113 (List.set l58 v59.toNat (⟨x67.row, x67.dev, x67.vni, l66⟩ : Api_Flood)) l19.length false)] (pc h60<|pc (rr (.op 9 1 0 5))<|pc (rr (.os 15 l19.length))<|pc (rr (.j v59))<|pc (an l19.length (lin_ob h61))<|pc (rn l19.length)<|pc (an l19.length (obn113 h63))<|pc (rh [b0_k_names_Copy_L3, .n 56, .n 110, .n 174, .n 90, .n 178, .n 113, .n 88, .n 105, .box 31 [.os 10 l4.length, .os 11 l7.length, .os 12 l10.length, .os 13 l13.length, .os 14 l16.length, .os 15 l19.length, .os 16 l22.length, .os 17 l25.length] false, .w 56 l4, .arr 110 l39 l7.length false, .w 174 l10, .arr 90 l55 l13.length false, .w 178 l16, .arr 113 l58 l19.length false, .w 88 l22, .w 105 l25, .w 33 l66])<|pc (k_slices_Clone_uint32 h65)<|pc (im33 l66)<|pc (an l19.length (lin_ob h61))<|pc (rn l19.length)<|pc (st_ob (e := 113) (n := l19.length) (l := l58) (i := v59.toNat) (⟨x67.row, x67.dev, x67.vni, l66⟩ : Api_Flood) [.j x67.row, .j x67.dev, .j x67.vni, .sl 33 l66] (obn113 h68) rfl)<|pc (rn l66.length)<|pn)
   ·cases h
  ·obtain rfl := oi h; exact rl [2, 3] [0, 1, 2, 3, 4, 5, 6, 7, 8, 9, 10, 11, 12, 13, 14, 15, 16, 17] [.f] (pc h60<|pn)
 ·exact Ex.noConfusion

def b0_k_names_Copy_L4 : AObj DD := .box 31 [.os 1 0, .os 2 0, .os 3 0, .os 4 0, .os 5 0, .os 6 0, .os 7 0, .os 8 0] false
theorem k_names_Copy_L4 {l4 : List Api_Device} {l7 : List Api_Port} {l10 : List Api_Link} {l13 : List Api_Domain} {l16 : List Api_Static} {l19 : List Api_Flood} {l22 : List Api_Vrf} {l25 : List Api_Irb} {l39 : List Api_Port} {l55 : List Api_Domain} {l71 : List Api_Flood} : LoopOK Tryz.prog UU 0 119 (subC (codeOf Tryz.f43) [1, 1, 1, 1, 1, 0, 1, 0, 0]) (fun s : (List Api_Vrf) × Int => match s with | (l74, v75) => names_Copy_L4 l4 l7 l10 l13 l16 l19 l22 l25 l39 l55 l71 l74 v75)
  (fun s : (List Api_Vrf) × Int => (match s with | (l74, v75) => [(2, .o 0), (3, .o 9), (93, .j (l22.length : Int)), (94, .j v75)] : Fr DD)) (fun s : (List Api_Vrf) × Int => (match s with | (l74, v75) => [b0_k_names_Copy_L4, .n 56, .n 110, .n 174, .n 90, .n 178, .n 113, .n 88, .n 105, .box 31 [.os 10 l4.length, .os 11 l7.length, .os 12 l10.length, .os 13 l13.length, .os 14 l16.length, .os 15 l19.length, .os 16 l22.length, .os 17 l25.length] false, .w 56 l4, .arr 110 l39 l7.length false, .w 174 l10, .arr 90 l55 l13.length false, .w 178 l16, .arr 113 l71 l19.length false, .arr 88 l74 l22.length false, .w 105 l25] : Heap DD)) (fun r => match r with | l94 => .exit 6) (fun r => match r with | l94 => [(2, .o 0), (3, .o 9)]) (fun r => match r with | l94 => [b0_k_names_Copy_L4, .n 56, .n 110, .n 174, .n 90, .n 178, .n 113, .n 88, .n 105, .box 31 [.os 10 l4.length, .os 11 l7.length, .os 12 l10.length, .os 13 l13.length, .os 14 l16.length, .os 15 l19.length, .os 16 l22.length, .os 17 l25.length] false, .w 56 l4, .arr 110 l39 l7.length false, .w 174 l10, .arr 90 l55 l13.length false, .w 178 l16, .arr 113 l71 l19.length false, .arr 88 l94 l22.length false, .w 105 l25]) := by
 refine loop_sound3 (fun s q h => ?_) (fun r => ?_)
 ·obtain ⟨l74, v75⟩ := s; replace h : names_Copy_L4 l4 l7 l10 l13 l16 l19 l22 l25 l39 l55 l71 l74 v75 = some q := h
  unfold names_Copy_L4 at h
  obtain ⟨h76, h⟩|⟨h76, h⟩ := ite_out h
  ·obtain ⟨h77, h⟩|⟨h77, h⟩ := ite_out h
   ·obtain ⟨x78, h79, h⟩ := bo h
    obtain ⟨l82, h81, h⟩ := bo h
    obtain ⟨x83, h84, h⟩ := bo h
    obtain ⟨l87, h86, h⟩ := bo h
    obtain ⟨x88, h89, h⟩ := bo h
    obtain ⟨x90, h91, h⟩ := bo h
    obtain rfl := oi h; exact rl [2, 3, 93, 94] [0, 1, 2, 3, 4, 5, 6, 7, 8, 9, 10, 11, 12, 13, 14, 15, 16, 17] [.t, .sum [6] [] .nor [] [b0_k_names_Copy_L4, .n 56, .n 110, .n 174, .n 90, .n 178, .n 113, .n 88, .n 105, .box 31 [.os 10 l4.length, .os 11 l7.length, .os 12 l10.length, .os 13 l13.length, .os 14 l16.length, .os 15 l19.length, .os 16 l22.length, .os 17 l25.length] false, .w 56 l4, .arr 110 l39 l7.length false, .w 174 l10, .arr 90 l55 l13.length false, .w 178 l16, .arr 113 l71 l19.length false, .arr 88 l74 l22.length false, .w 105 l25, .w 3 l82], .sum [11] [] .nor [] [b0_k_names_Copy_L4, .n 56, .n 110, .n 174, .n 90, .n 178, .n 113, .n 88, .n 105, .box 31 [.os 10 l4.length, .os 11 l7.length, .os 12 l10.length, .os 13 l13.length, .os 14 l16.length, .os 15 l19.length, .os 16 l22.length, .os 17 l25.length] false, .w 56 l4, .arr 110 l39 l7.length false, .w 174 l10, .arr 90 l55 l13.length false, .w 178 l16, .arr 113 l71 l19.length false, .arr 88 l74 l22.length false, .w 105 l25, .w 3 l82, .w 3 l87], .sum [14] [] .nor [] [b0_k_names_Copy_L4, .n 56, .n 110, .n 174, .n 90, .n 178, .n 113, .n 88, .n 105, .box 31 [.os 10 l4.length, .os 11 l7.length, .os 12 l10.length, .os 13 l13.length, .os 14 l16.length, .os 15 l19.length, .os 16 l22.length, .os 17 l25.length] false, .w 56 l4, .arr 110 l39 l7.length false, .w 174 l10, .arr 90 l55 l13.length false, .w 178 l16, .arr 113 l71 l19.length false, .arr 88 (List.set l74 v75.toNat (⟨x88.row, x88.dev, x88.name, l82, x88.exports⟩ : Api_Vrf)) l22.length false, .w 105 l25, .wt 3 l82, .w 3 l87], .row (c88 x78), .callo (.os 0 l82.length) [.w 3 l82], .row (c88 x83), .callo (.os 0 l87.length) [.w 3 l87], .row (c88 x88), .obj [18] (.arr 88 (List.set l74 v75.toNat (⟨x88.row, x88.dev, x88.name, l82, x88.exports⟩ : Api_Vrf)) l22.length false), .row (c88 x90), .obj [19] (.arr 88 (List.set (List.set l74 v75.toNat (⟨x88.row, x88.dev, x88.name, l82, x88.exports⟩ : Api_Vrf)) v75.toNat (⟨x90.row, x90.dev, x90.name, x90.imports, l87⟩ : Api_Vrf)) l22.length false)] (pc h76<|pc (an l22.length (lin_ob h77))<|pd (rr (.op 16 l22.length v75.toNat 0))<|pd (rr (.op 16 l22.length v75.toNat 0))<|pc (rr (.op 16 l22.length v75.toNat 0))<|pd (rn l22.length)<|pc (an l22.length (obn88 h79))<|pc (rh [b0_k_names_Copy_L4, .n 56, .n 110, .n 174, .n 90, .n 178, .n 113, .n 88, .n 105, .box 31 [.os 10 l4.length, .os 11 l7.length, .os 12 l10.length, .os 13 l13.length, .os 14 l16.length, .os 15 l19.length, .os 16 l22.length, .os 17 l25.length] false, .w 56 l4, .arr 110 l39 l7.length false, .w 174 l10, .arr 90 l55 l13.length false, .w 178 l16, .arr 113 l71 l19.length false, .arr 88 l74 l22.length false, .w 105 l25, .w 3 l82])<|pc (k_slices_Clone_int h81)<|pc (im3 l82)<|pc (rr (.op 16 l22.length v75.toNat 0))<|pd (rn l22.length)<|pc (rr (.op 16 l22.length v75.toNat 0))<|pd (rn l22.length)<|pc (rr (.op 16 l22.length v75.toNat 4))<|pd (an l22.length (obn88 h84))<|pc (rr (.sl 3 x83.exports))<|pc (rh [b0_k_names_Copy_L4, .n 56, .n 110, .n 174, .n 90, .n 178, .n 113, .n 88, .n 105, .box 31 [.os 10 l4.length, .os 11 l7.length, .os 12 l10.length, .os 13 l13.length, .os 14 l16.length, .os 15 l19.length, .os 16 l22.length, .os 17 l25.length] false, .w 56 l4, .arr 110 l39 l7.length false, .w 174 l10, .arr 90 l55 l13.length false, .w 178 l16, .arr 113 l71 l19.length false, .arr 88 l74 l22.length false, .w 105 l25, .w 3 l82, .w 3 l87])<|pc (k_slices_Clone_int h86)<|pc (im3 l87)<|pd (rn l22.length)<|pc (rh [b0_k_names_Copy_L4, .n 56, .n 110, .n 174, .n 90, .n 178, .n 113, .n 88, .n 105, .box 31 [.os 10 l4.length, .os 11 l7.length, .os 12 l10.length, .os 13 l13.length, .os 14 l16.length, .os 15 l19.length, .os 16 l22.length, .os 17 l25.length] false, .w 56 l4, .arr 110 l39 l7.length false, .w 174 l10, .arr 90 l55 l13.length false, .w 178 l16, .arr 113 l71 l19.length false, .arr 88 (List.set l74 v75.toNat (⟨x88.row, x88.dev, x88.name, l82, x88.exports⟩ : Api_Vrf)) l22.length false, .w 105 l25, .wt 3 l82, .w 3 l87])<|pc (st_ob (e := 88) (n := l22.length) (l := l74) (i := v75.toNat) (⟨x88.row, x88.dev, x88.name, l82, x88.exports⟩ : Api_Vrf) [.j x88.row, .j x88.dev, .x x88.name, .sl 3 l82, .sl 3 x88.exports] (obn88 h89) rfl)<|pc (rn l82.length)<|pd (rn l22.length)<|pc (st_ob (e := 88) (n := l22.length) (l := List.set l74 v75.toNat (⟨x88.row, x88.dev, x88.name, l82, x88.exports⟩ : Api_Vrf)) (i := v75.toNat) (⟨x90.row, x90.dev, x90.name, x90.imports, l87⟩ : Api_Vrf) [.j x90.row, .j x90.dev, .x x90.name, .sl 3 x90.imports, .sl 3 l87] (obn88 h91) rfl)<|pc (rn l87.length)<|pn)
   ·cases h
  ·obtain rfl := oi h; exact rl [2, 3] [0, 1, 2, 3, 4, 5, 6, 7, 8, 9, 10, 11, 12, 13, 14, 15, 16, 17] [.f] (pc h76<|pn)
 ·exact Ex.noConfusion

def b0_k_names_Copy : AObj DD := .box 31 [.os 1 0, .os 2 0, .os 3 0, .os 4 0, .os 5 0, .os 6 0, .os 7 0, .os 8 0] false
theorem k_names_Copy {a1 : Api_Net} {r : ((List Api_Device) × (List Api_Port) × (List Api_Link) × (List Api_Domain) × (List Api_Static) × (List Api_Flood) × (List Api_Vrf) × (List Api_Irb) × Nat × Nat × Nat × Nat)} (h : names_Copy a1 = some r) :
  CallsOK Tryz.prog UU 43 [.agg (c31 a1)] [] ((fun r => match r with | (l97, l98, l99, l100, l101, l102, l103, l104, n105, n106, n107, n108) => .agg [.os 0 l97.length, .os 1 n105, .os 2 l99.length, .os 3 n106, .os 4 l101.length, .os 5 n107, .os 6 n108, .os 7 l104.length]) r) ((fun r => match r with | (l97, l98, l99, l100, l101, l102, l103, l104, n105, n106, n107, n108) => [.w 56 l97, .arr 110 l98 n105 false, .w 174 l99, .arr 90 l100 n106 false, .w 178 l101, .arr 113 l102 n107 false, .arr 88 l103 n108 false, .w 105 l104]) r) := by
 unfold names_Copy at h
 obtain ⟨l4, h3, h⟩ := bo h
 obtain ⟨l7, h6, h⟩ := bo h
 obtain ⟨l10, h9, h⟩ := bo h
 obtain ⟨l13, h12, h⟩ := bo h
 obtain ⟨l16, h15, h⟩ := bo h
 obtain ⟨l19, h18, h⟩ := bo h
 obtain ⟨l22, h21, h⟩ := bo h
 obtain ⟨l25, h24, h⟩ := bo h
 obtain ⟨l39, h40, h⟩ := bo h
 obtain ⟨l55, h56, h⟩ := bo h
 obtain ⟨l71, h72, h⟩ := bo h
 obtain ⟨l94, h95, h⟩ := bo h
 obtain rfl := oi h; exact rf Tryz.func43 (some [10, 11, 12, 13, 14, 15, 16, 17]) [.sum [2] [] .nor [] [.box 31 (c31 a1) false, .n 56, .n 110, .n 174, .n 90, .n 178, .n 113, .n 88, .n 105, b0_k_names_Copy, .w 56 l4], .sum [5] [] .nor [] [.box 31 (c31 a1) false, .n 56, .n 110, .n 174, .n 90, .n 178, .n 113, .n 88, .n 105, b0_k_names_Copy, .w 56 l4, .w 110 l7], .sum [8] [] .nor [] [.box 31 (c31 a1) false, .n 56, .n 110, .n 174, .n 90, .n 178, .n 113, .n 88, .n 105, b0_k_names_Copy, .w 56 l4, .w 110 l7, .w 174 l10], .sum [11] [] .nor [] [.box 31 (c31 a1) false, .n 56, .n 110, .n 174, .n 90, .n 178, .n 113, .n 88, .n 105, b0_k_names_Copy, .w 56 l4, .w 110 l7, .w 174 l10, .w 90 l13], .sum [14] [] .nor [] [.box 31 (c31 a1) false, .n 56, .n 110, .n 174, .n 90, .n 178, .n 113, .n 88, .n 105, b0_k_names_Copy, .w 56 l4, .w 110 l7, .w 174 l10, .w 90 l13, .w 178 l16], .sum [17] [] .nor [] [.box 31 (c31 a1) false, .n 56, .n 110, .n 174, .n 90, .n 178, .n 113, .n 88, .n 105, b0_k_names_Copy, .w 56 l4, .w 110 l7, .w 174 l10, .w 90 l13, .w 178 l16, .w 113 l19], .sum [20] [] .nor [] [.box 31 (c31 a1) false, .n 56, .n 110, .n 174, .n 90, .n 178, .n 113, .n 88, .n 105, b0_k_names_Copy, .w 56 l4, .w 110 l7, .w 174 l10, .w 90 l13, .w 178 l16, .w 113 l19, .w 88 l22], .sum [23] [] .nor [] [.box 31 (c31 a1) false, .n 56, .n 110, .n 174, .n 90, .n 178, .n 113, .n 88, .n 105, b0_k_names_Copy, .w 56 l4, .w 110 l7, .w 174 l10, .w 90 l13, .w 178 l16, .w 113 l19, .w 88 l22, .w 105 l25], .callo (.os 0 l4.length) [.w 56 l4], .callm [] (.os 0 l7.length) [.w 110 l7], .callo (.os 0 l10.length) [.w 174 l10], .callm [] (.os 0 l13.length) [.w 90 l13], .callo (.os 0 l16.length) [.w 178 l16], .callm [] (.os 0 l19.length) [.w 113 l19], .callm [] (.os 0 l22.length) [.w 88 l22], .callo (.os 0 l25.length) [.w 105 l25], .sum [2, 3, 36, 37] [9, 1, 2, 3, 4, 5, 6, 7, 8, 26, 10, 11, 12, 13, 14, 15, 16, 17] (.exit 0) [(2, .o 0), (3, .o 9)] [b0_k_names_Copy, .n 56, .n 110, .n 174, .n 90, .n 178, .n 113, .n 88, .n 105, .box 31 [.os 10 l4.length, .os 11 l7.length, .os 12 l10.length, .os 13 l13.length, .os 14 l16.length, .os 15 l19.length, .os 16 l22.length, .os 17 l25.length] false, .w 56 l4, .arr 110 l39 l7.length false, .w 174 l10, .w 90 l13, .w 178 l16, .w 113 l19, .w 88 l22, .w 105 l25], .sum [2, 3, 55, 56] [0, 1, 2, 3, 4, 5, 6, 7, 8, 9, 10, 11, 12, 13, 14, 15, 16, 17] (.exit 2) [(2, .o 0), (3, .o 9)] [b0_k_names_Copy, .n 56, .n 110, .n 174, .n 90, .n 178, .n 113, .n 88, .n 105, .box 31 [.os 10 l4.length, .os 11 l7.length, .os 12 l10.length, .os 13 l13.length, .os 14 l16.length, .os 15 l19.length, .os 16 l22.length, .os 17 l25.length] false, .w 56 l4, .arr 110 l39 l7.length false, .w 174 l10, .arr 90 l55 l13.length false, .w 178 l16, .w 113 l19, .w 88 l22, .w 105 l25], .sum [2, 3, 74, 75] [0, 1, 2, 3, 4, 5, 6, 7, 8, 9, 10, 11, 12, 13, 14, 15, 16, 17] (.exit 4) [(2, .o 0), (3, .o 9)] [b0_k_names_Copy, .n 56, .n 110, .n 174, .n 90, .n 178, .n 113, .n 88, .n 105, .box 31 [.os 10 l4.length, .os 11 l7.length, .os 12 l10.length, .os 13 l13.length, .os 14 l16.length, .os 15 l19.length, .os 16 l22.length, .os 17 l25.length] false, .w 56 l4, .arr 110 l39 l7.length false, .w 174 l10, .arr 90 l55 l13.length false, .w 178 l16, .arr 113 l71 l19.length false, .w 88 l22, .w 105 l25], .sum [2, 3, 93, 94] [0, 1, 2, 3, 4, 5, 6, 7, 8, 9, 10, 11, 12, 13, 14, 15, 16, 17] (.exit 6) [(2, .o 0), (3, .o 9)] [b0_k_names_Copy, .n 56, .n 110, .n 174, .n 90, .n 178, .n 113, .n 88, .n 105, .box 31 [.os 10 l4.length, .os 11 l7.length, .os 12 l10.length, .os 13 l13.length, .os 14 l16.length, .os 15 l19.length, .os 16 l22.length, .os 17 l25.length] false, .w 56 l4, .arr 110 l39 l7.length false, .w 174 l10, .arr 90 l55 l13.length false, .w 178 l16, .arr 113 l71 l19.length false, .arr 88 l94 l22.length false, .w 105 l25]] (pc (rh [.box 31 (c31 a1) false, .n 56, .n 110, .n 174, .n 90, .n 178, .n 113, .n 88, .n 105, b0_k_names_Copy, .w 56 l4])<|pc (k_slices_Clone_Device h3)<|pc (im56 l4)<|pc (rr (.op 0 1 0 1))<|pc (rr (.sl 110 a1.ports))<|pc (rh [.box 31 (c31 a1) false, .n 56, .n 110, .n 174, .n 90, .n 178, .n 113, .n 88, .n 105, b0_k_names_Copy, .w 56 l4, .w 110 l7])<|pc (k_slices_Clone_Port h6)<|pd (rr (.op 0 1 0 2))<|pd (rr (.sl 174 a1.links))<|pc (rh [.box 31 (c31 a1) false, .n 56, .n 110, .n 174, .n 90, .n 178, .n 113, .n 88, .n 105, b0_k_names_Copy, .w 56 l4, .w 110 l7, .w 174 l10])<|pc (k_slices_Clone_Link h9)<|pc (im174 l10)<|pd (rr (.op 0 1 0 3))<|pc (rr (.op 0 1 0 3))<|pd (rr (.sl 90 a1.domains))<|pc (rr (.sl 90 a1.domains))<|pc (rh [.box 31 (c31 a1) false, .n 56, .n 110, .n 174, .n 90, .n 178, .n 113, .n 88, .n 105, b0_k_names_Copy, .w 56 l4, .w 110 l7, .w 174 l10, .w 90 l13])<|pc (k_slices_Clone_Domain h12)<|pd (rr (.op 0 1 0 4))<|pd (rr (.op 0 1 0 4))<|pd (rr (.sl 178 a1.statics))<|pd (rr (.sl 178 a1.statics))<|pc (rh [.box 31 (c31 a1) false, .n 56, .n 110, .n 174, .n 90, .n 178, .n 113, .n 88, .n 105, b0_k_names_Copy, .w 56 l4, .w 110 l7, .w 174 l10, .w 90 l13, .w 178 l16])<|pc (k_slices_Clone_Static h15)<|pc (im178 l16)<|pd (rr (.op 0 1 0 5))<|pd (rr (.op 0 1 0 5))<|pc (rr (.op 0 1 0 5))<|pd (rr (.sl 113 a1.floods))<|pd (rr (.sl 113 a1.floods))<|pc (rr (.sl 113 a1.floods))<|pc (rh [.box 31 (c31 a1) false, .n 56, .n 110, .n 174, .n 90, .n 178, .n 113, .n 88, .n 105, b0_k_names_Copy, .w 56 l4, .w 110 l7, .w 174 l10, .w 90 l13, .w 178 l16, .w 113 l19])<|pc (k_slices_Clone_Flood h18)<|pd (rr (.op 0 1 0 6))<|pd (rr (.op 0 1 0 6))<|pd (rr (.op 0 1 0 6))<|pd (rr (.sl 88 a1.vrfs))<|pd (rr (.sl 88 a1.vrfs))<|pd (rr (.sl 88 a1.vrfs))<|pc (rh [.box 31 (c31 a1) false, .n 56, .n 110, .n 174, .n 90, .n 178, .n 113, .n 88, .n 105, b0_k_names_Copy, .w 56 l4, .w 110 l7, .w 174 l10, .w 90 l13, .w 178 l16, .w 113 l19, .w 88 l22])<|pc (k_slices_Clone_Vrf h21)<|pd (rr (.op 0 1 0 7))<|pd (rr (.op 0 1 0 7))<|pd (rr (.op 0 1 0 7))<|pc (rr (.op 0 1 0 7))<|pd (rr (.sl 105 a1.irbs))<|pd (rr (.sl 105 a1.irbs))<|pd (rr (.sl 105 a1.irbs))<|pc (rr (.sl 105 a1.irbs))<|pc (rh [.box 31 (c31 a1) false, .n 56, .n 110, .n 174, .n 90, .n 178, .n 113, .n 88, .n 105, b0_k_names_Copy, .w 56 l4, .w 110 l7, .w 174 l10, .w 90 l13, .w 178 l16, .w 113 l19, .w 88 l22, .w 105 l25])<|pc (k_slices_Clone_Irb h24)<|pc (im105 l25)<|pc (rn l7.length)<|pc (k_names_Copy_L1 _ _ h40)<|pc (rn l13.length)<|pc (k_names_Copy_L2 _ _ h56)<|pc (rn l19.length)<|pc (k_names_Copy_L3 _ _ h72)<|pc (rn l22.length)<|pc (k_names_Copy_L4 _ _ h95)<|pn)

def b0_k_vrfs_Vrf : AObj DD := .box 31 [.os 2 0, .os 3 0, .os 4 0, .os 5 0, .os 6 0, .os 7 0, .os 8 0, .os 9 0] false
theorem k_vrfs_Vrf {a1 : Api_Net} {a2 : Api_Line} {r : ((List Api_Device) × (List Api_Port) × (List Api_Link) × (List Api_Domain) × (List Api_Static) × (List Api_Flood) × (List Api_Vrf) × (List Api_Irb) × Nat × Nat × Nat × Int)} (h : vrfs_Vrf a1 a2 = some r) :
  CallsOK Tryz.prog UU 10 [.agg (c31 a1), .agg (c37 a2)] [] ((fun r => match r with | (l31, l32, l33, l34, l35, l36, l37, l38, n39, n40, n41, v42) => .tup [.agg [.os 0 l31.length, .os 1 n39, .os 2 l33.length, .os 3 n40, .os 4 l35.length, .os 5 n41, .os 6 l37.length, .os 7 l38.length], .j v42]) r) ((fun r => match r with | (l31, l32, l33, l34, l35, l36, l37, l38, n39, n40, n41, v42) => [.w 56 l31, .arr 110 l32 n39 false, .w 174 l33, .arr 90 l34 n40 false, .w 178 l35, .arr 113 l36 n41 false, .w 88 l37, .w 105 l38]) r) := by
 unfold vrfs_Vrf at h
 obtain ⟨r3, h4, h⟩ := bo h
 obtain ⟨h5, h⟩|⟨h5, h⟩ := ite_out h
 ·obtain rfl := oi h; exact rf Tryz.func10 (some [11, 12, 13, 14, 15, 16, 17, 18]) [.callv (.tup [.j r3.1, .j r3.2]), .t] (pc (k_vrfs_begin h4)<|pc h5<|pn)
 ·obtain ⟨r6, h7, h⟩ := bo h
  obtain ⟨h8, h⟩|⟨h8, h⟩ := ite_out h
  ·obtain rfl := oi h; exact rf Tryz.func10 (some [11, 12, 13, 14, 15, 16, 17, 18]) [.callv (.tup [.j r3.1, .j r3.2]), .f, .callv (.j r6), .t] (pc (k_vrfs_begin h4)<|pc h5<|pc (k_names_Vrf h7)<|pc h8<|pn)
  ·obtain ⟨h9, h⟩|⟨h9, h⟩ := ite_out h
   ·obtain rfl := oi h; exact rf Tryz.func10 (some [11, 12, 13, 14, 15, 16, 17, 18]) [.callv (.tup [.j r3.1, .j r3.2]), .f, .callv (.j r6), .f, .t] (pc (k_vrfs_begin h4)<|pc h5<|pc (k_names_Vrf h7)<|pc h8<|pc h9<|pn)
   ·obtain ⟨r10, h11, h⟩ := bo h
    obtain ⟨l12, l13, l14, l15, l16, l17, l18, l19, n20, n21, n22, n23⟩ := r10
    obtain ⟨l26, h25, h⟩ := bo h
    obtain ⟨l29, h28, h⟩ := bo h
    obtain ⟨h30, h⟩|⟨h30, h⟩ := ite_out h
    ·obtain rfl := oi h; exact rf Tryz.func10 (some [11, 12, 13, 14, 15, 16, 17, 18]) [.callv (.tup [.j r3.1, .j r3.2]), .f, .callv (.j r6), .f, .f, .callm [] (.agg [.os 0 l12.length, .os 1 n20, .os 2 l14.length, .os 3 n21, .os 4 l16.length, .os 5 n22, .os 6 n23, .os 7 l19.length]) [.w 56 l12, .arr 110 l13 n20 false, .w 174 l14, .arr 90 l15 n21 false, .w 178 l16, .arr 113 l17 n22 false, .arr 88 l18 n23 false, .w 105 l19], .sum [9] [] .nor [] [.box 31 (c31 a1) false, .box 37 (c37 a2) false, .n 56, .n 110, .n 174, .n 90, .n 178, .n 113, .n 88, .n 105, b0_k_vrfs_Vrf, .w 56 l12, .arr 110 l13 n20 false, .w 174 l14, .arr 90 l15 n21 false, .w 178 l16, .arr 113 l17 n22 false, .arr 88 l18 n23 false, .w 105 l19, .n 56, .n 110, .n 174, .n 90, .n 178, .n 113, .n 88, .n 105, .box 31 [.os 11 l12.length, .os 12 n20, .os 13 l14.length, .os 14 n21, .os 15 l16.length, .os 16 n22, .os 17 n23, .os 18 l19.length] false, .w 3 l26], .sum [12] [] .nor [] [.box 31 (c31 a1) false, .box 37 (c37 a2) false, .n 56, .n 110, .n 174, .n 90, .n 178, .n 113, .n 88, .n 105, b0_k_vrfs_Vrf, .w 56 l12, .arr 110 l13 n20 false, .w 174 l14, .arr 90 l15 n21 false, .w 178 l16, .arr 113 l17 n22 false, .arr 88 l18 n23 false, .w 105 l19, .n 56, .n 110, .n 174, .n 90, .n 178, .n 113, .n 88, .n 105, .box 31 [.os 11 l12.length, .os 12 n20, .os 13 l14.length, .os 14 n21, .os 15 l16.length, .os 16 n22, .os 17 n23, .os 18 l19.length] false, .w 3 l26, .w 3 l29], .sum [14] [] .nor [] [.box 31 (c31 a1) false, .box 37 (c37 a2) false, .n 56, .n 110, .n 174, .n 90, .n 178, .n 113, .n 88, .n 105, b0_k_vrfs_Vrf, .w 56 l12, .arr 110 l13 n20 false, .w 174 l14, .arr 90 l15 n21 false, .w 178 l16, .arr 113 l17 n22 false, .arr 88 l18 n23 false, .w 105 l19, .n 56, .n 110, .n 174, .n 90, .n 178, .n 113, .n 88, .n 105, .box 31 [.os 11 l12.length, .os 12 n20, .os 13 l14.length, .os 14 n21, .os 15 l16.length, .os 16 n22, .os 17 n23, .os 18 l19.length] false, .wt 3 l26, .wt 3 l29, .w 88 [(⟨a2.row, r3.1, a2.name, l26, l29⟩ : Api_Vrf)]], .callo (.os 0 l26.length) [.w 3 l26], .callo (.os 0 l29.length) [.w 3 l29], .obj [28, 29] (.w 88 [(⟨a2.row, r3.1, a2.name, l26, l29⟩ : Api_Vrf)]), .obj [] (.w 88 (l18 ++ [(⟨a2.row, r3.1, a2.name, l26, l29⟩ : Api_Vrf)]))] (pc (k_vrfs_begin h4)<|pc h5<|pc (k_names_Vrf h7)<|pc h8<|pc h9<|pc (k_names_Copy h11)<|pd (rr (.op 27 1 0 6))<|pc (rr (.op 27 1 0 6))<|pd (rr (.os 17 n23))<|pc (rr (.os 17 n23))<|pd (rr (.o 1))<|pd (rr (.j a2.row))<|pd (rr (.j r3.1))<|pd (rr (.op 1 1 0 6))<|pd (rr (.x a2.name))<|pc (rh [.box 31 (c31 a1) false, .box 37 (c37 a2) false, .n 56, .n 110, .n 174, .n 90, .n 178, .n 113, .n 88, .n 105, b0_k_vrfs_Vrf, .w 56 l12, .arr 110 l13 n20 false, .w 174 l14, .arr 90 l15 n21 false, .w 178 l16, .arr 113 l17 n22 false, .arr 88 l18 n23 false, .w 105 l19, .n 56, .n 110, .n 174, .n 90, .n 178, .n 113, .n 88, .n 105, .box 31 [.os 11 l12.length, .os 12 n20, .os 13 l14.length, .os 14 n21, .os 15 l16.length, .os 16 n22, .os 17 n23, .os 18 l19.length] false, .w 3 l26])<|pc (k_slices_Clone_int h25)<|pc (im3 l26)<|pc (rr (.op 1 1 0 15))<|pc (rr (.sl 3 a2.exports))<|pc (rh [.box 31 (c31 a1) false, .box 37 (c37 a2) false, .n 56, .n 110, .n 174, .n 90, .n 178, .n 113, .n 88, .n 105, b0_k_vrfs_Vrf, .w 56 l12, .arr 110 l13 n20 false, .w 174 l14, .arr 90 l15 n21 false, .w 178 l16, .arr 113 l17 n22 false, .arr 88 l18 n23 false, .w 105 l19, .n 56, .n 110, .n 174, .n 90, .n 178, .n 113, .n 88, .n 105, .box 31 [.os 11 l12.length, .os 12 n20, .os 13 l14.length, .os 14 n21, .os 15 l16.length, .os 16 n22, .os 17 n23, .os 18 l19.length] false, .w 3 l26, .w 3 l29])<|pc (k_slices_Clone_int h28)<|pc (im3 l29)<|pc (rh [.box 31 (c31 a1) false, .box 37 (c37 a2) false, .n 56, .n 110, .n 174, .n 90, .n 178, .n 113, .n 88, .n 105, b0_k_vrfs_Vrf, .w 56 l12, .arr 110 l13 n20 false, .w 174 l14, .arr 90 l15 n21 false, .w 178 l16, .arr 113 l17 n22 false, .arr 88 l18 n23 false, .w 105 l19, .n 56, .n 110, .n 174, .n 90, .n 178, .n 113, .n 88, .n 105, .box 31 [.os 11 l12.length, .os 12 n20, .os 13 l14.length, .os 14 n21, .os 15 l16.length, .os 16 n22, .os 17 n23, .os 18 l19.length] false, .wt 3 l26, .wt 3 l29, .w 88 [(⟨a2.row, r3.1, a2.name, l26, l29⟩ : Api_Vrf)]])<|pc (bs_ob 88 [(⟨a2.row, r3.1, a2.name, l26, l29⟩ : Api_Vrf)])<|pc (rn l26.length)<|pc (rn l29.length)<|pc (app_ob 88 (n := n23) (l := l18) (xs := [(⟨a2.row, r3.1, a2.name, l26, l29⟩ : Api_Vrf)]) h30)<|pc (rn (List.length [(⟨a2.row, r3.1, a2.name, l26, l29⟩ : Api_Vrf)]))<|pn)
    ·cases h

theorem k_names_Domain_1 {a1 : Api_Domain} {a2 : Int} {a3 : Int} {r : Bool} (h : names_Domain_1 a1 a2 a3 = some r) :
  CallsOK Tryz.prog UU 118 [.agg (c90 a1), .rp (c3 a2) 0, .rp (c3 a3) 0] [] (.y r) [] := by
 unfold names_Domain_1 at h
 obtain ⟨h4, h⟩|⟨h4, h⟩ := ite_out h
 ·obtain rfl := oi h; exact rf Tryz.func118 none [.t] (pc h4<|pn)
 ·obtain rfl := oi h; exact rf Tryz.func118 none [.f] (pc h4<|pn)

theorem k_slices_IndexFunc_Domain_Domain_1_L1 {a1 : List Api_Domain} {a2 : Int} {a3 : Int} : LoopOK Tryz.prog UU 0 19 (subC (codeOf Tryz.f144) [1, 0, 1, 0, 0]) (ρ := Int ⊕ Unit) (slices_IndexFunc_Domain_Domain_1_L1 a1 a2 a3)
  (fun v4 : Int => ([(0, .sl 90 a1), (1, .fn (.func 118) [] [.rp (c3 a2) 0, .rp (c3 a3) 0]), (4, .z), (7, .j (a1.length : Int)), (8, .j v4)] : Fr DD)) (fun v4 : Int => ([] : Heap DD)) (fun r => match r with | Sum.inl v12 => .ret | Sum.inr _ => .exit 0) (fun r => match r with | Sum.inl v12 => [(4, .j v12)] | Sum.inr _ => [(4, .z)]) (fun r => match r with | Sum.inl v12 => [] | Sum.inr _ => []) := by
 refine loop_sound3 (fun s q h => ?_) (fun r => ?_)
 ·replace h : slices_IndexFunc_Domain_Domain_1_L1 a1 a2 a3 s = some q := h; revert h; revert s; intro v4 h
  unfold slices_IndexFunc_Domain_Domain_1_L1 at h
  obtain ⟨h5, h⟩|⟨h5, h⟩ := ite_out h
  ·obtain ⟨x6, h7, h⟩ := bo h
   obtain ⟨r8, h9, h⟩ := bo h
   obtain ⟨h10, h⟩|⟨h10, h⟩ := ite_out h
   ·obtain rfl := oi h; exact rl [4] [] [.t, .row (c90 x6), .b r8, .t] (pc h5<|pc (ob90 h7)<|pc (k_names_Domain_1 h9)<|pc h10<|pn)
   ·obtain rfl := oi h; exact rl [0, 1, 4, 7, 8] [] [.t, .row (c90 x6), .b r8, .f] (pc h5<|pc (ob90 h7)<|pc (k_names_Domain_1 h9)<|pc h10<|pn)
  ·obtain rfl := oi h; exact rl [4] [] [.f] (pc h5<|pn)
 ·rcases r with _ | _ <;> exact Ex.noConfusion

theorem k_slices_IndexFunc_Domain_Domain_1 {a1 : List Api_Domain} {a2 : Int} {a3 : Int} {r : Int} (h : slices_IndexFunc_Domain_Domain_1 a1 a2 a3 = some r) :
  CallsOK Tryz.prog UU 144 [.sl 90 a1, .fn (.func 118) [] [.rp (c3 a2) 0, .rp (c3 a3) 0]] [] (.j r) [] := by
 unfold slices_IndexFunc_Domain_Domain_1 at h
 obtain ⟨r14, h13, h⟩ := bo h
 rcases r14 with v12 | _
 ·obtain rfl := oi h; exact rf Tryz.func144 none [.sum [0, 1, 4, 7, 8] [] .ret [(4, .j v12)] []] (pc (k_slices_IndexFunc_Domain_Domain_1_L1 _ _ h13)<|pn)
 ·obtain rfl := oi h; exact rf Tryz.func144 none [.sum [0, 1, 4, 7, 8] [] (.exit 0) [(4, .z)] []] (pc (k_slices_IndexFunc_Domain_Domain_1_L1 _ _ h13)<|pn)

theorem k_names_find_Domain_Domain_1 {a1 : Api_Net} {a2 : List Api_Domain} {a3 : Int} {a4 : Int} {r : Int} (h : names_find_Domain_Domain_1 a1 a2 a3 a4 = some r) :
  CallsOK Tryz.prog UU 117 [.agg (c31 a1), .sl 90 a2, .fn (.func 118) [] [.rp (c3 a3) 0, .rp (c3 a4) 0]] [] (.j r) [] := by
 unfold names_find_Domain_Domain_1 at h
 obtain ⟨r5, h6, h⟩ := bo h
 obtain ⟨h7, h⟩|⟨h7, h⟩ := ite_out h
 ·obtain rfl := oi h; exact rf Tryz.func117 none [.b r5, .t] (pc (k_names_Right h6)<|pc h7<|pn)
 ·obtain ⟨r8, h9, h⟩ := bo h
  obtain rfl := oi h; exact rf Tryz.func117 none [.b r5, .f, .callv (.j r8)] (pc (k_names_Right h6)<|pc h7<|pc (k_slices_IndexFunc_Domain_Domain_1 h9)<|pn)

theorem k_names_Domain {a1 : Api_Net} {a2 : Int} {a3 : Int} {r : Int} (h : names_Domain a1 a2 a3 = some r) :
  CallsOK Tryz.prog UU 49 [.agg (c31 a1), .j a2, .j a3] [] (.j r) [] := by
 unfold names_Domain at h
 obtain ⟨r4, h5, h⟩ := bo h
 obtain rfl := oi h; exact rf Tryz.func49 none [.callv (.j r4)] (pc (k_names_find_Domain_Domain_1 h5)<|pn)

theorem k_addr_Has {a1 : Api_Prefix} {a2 : Int} {r : Bool} (h : addr_Has a1 a2 = some r) :
  CallsOK Tryz.prog UU 120 [.agg (c103 a1), .v (.int .u32 a2)] [] (.y r) [] := by
 unfold addr_Has at h
 obtain ⟨r3, h4, h⟩ := bo h
 obtain ⟨h5, h⟩|⟨h5, h⟩ := ite_out h
 ·obtain ⟨r6, h7, h⟩ := bo h
  obtain rfl := oi h; exact rf Tryz.func120 none [.b r3, .t, .callv (.v (.int .u32 r6))] (pc (k_addr_Right h4)<|pc h5<|pc (k_addr_rest h7)<|pn)
 ·obtain rfl := oi h; exact rf Tryz.func120 none [.b r3, .f] (pc (k_addr_Right h4)<|pc h5<|pn)

theorem k_vrfs_clash {a1 : Api_Net} {a2 : Api_Irb} {a3 : Int} {a4 : Api_Prefix} {r : Bool} (h : vrfs_clash a1 a2 a3 a4 = some r) :
  CallsOK Tryz.prog UU 52 [.agg (c31 a1), .agg (c105 a2), .j a3, .agg (c103 a4)] [] (.y r) [] := by
 unfold vrfs_clash at h
 obtain ⟨x5, h6, h⟩ := bo h
 obtain ⟨h7, h⟩|⟨h7, h⟩ := ite_out h
 ·obtain rfl := oi h; exact rf Tryz.func52 none [.row (c88 x5), .t] (pc (ob88 h6)<|pc h7<|pn)
 ·obtain ⟨h8, h⟩|⟨h8, h⟩ := ite_out h
  ·obtain ⟨r9, h10, h⟩ := bo h
   obtain ⟨h11, h⟩|⟨h11, h⟩ := ite_out h
   ·obtain rfl := oi h; exact rf Tryz.func52 none [.row (c88 x5), .f, .t, .b r9, .t] (pc (ob88 h6)<|pc h7<|pc h8<|pc (k_addr_Has h10)<|pc h11<|pn)
   ·obtain ⟨r12, h13, h⟩ := bo h
    obtain rfl := oi h; exact rf Tryz.func52 none [.row (c88 x5), .f, .t, .b r9, .f, .b r12] (pc (ob88 h6)<|pc h7<|pc h8<|pc (k_addr_Has h10)<|pc h11<|pc (k_addr_Has h13)<|pn)
  ·obtain rfl := oi h; exact rf Tryz.func52 none [.row (c88 x5), .f, .f] (pc (ob88 h6)<|pc h7<|pc h8<|pn)

theorem k_vrfs_Irb_1 {a1 : Api_Irb} {a2 : Api_Net} {a3 : Int} {a4 : Api_Line} {r : Bool} (h : vrfs_Irb_1 a1 a2 a3 a4 = some r) :
  CallsOK Tryz.prog UU 51 [.agg (c105 a1), .rp (c31 a2) 0, .rp (c3 a3) 0, .rp (c37 a4) 0] [] (.y r) [] := by
 unfold vrfs_Irb_1 at h
 obtain ⟨r5, h6, h⟩ := bo h
 obtain rfl := oi h; exact rf Tryz.func51 none [.b r5] (pc (k_vrfs_clash h6)<|pn)

theorem k_slices_IndexFunc_Irb_Irb_1_L1 {a1 : List Api_Irb} {a2 : Api_Net} {a3 : Int} {a4 : Api_Line} : LoopOK Tryz.prog UU 0 19 (subC (codeOf Tryz.f119) [1, 0, 1, 0, 0]) (ρ := Int ⊕ Unit) (slices_IndexFunc_Irb_Irb_1_L1 a1 a2 a3 a4)
  (fun v5 : Int => ([(0, .sl 105 a1), (1, .fn (.func 51) [] [.rp (c31 a2) 0, .rp (c3 a3) 0, .rp (c37 a4) 0]), (4, .z), (7, .j (a1.length : Int)), (8, .j v5)] : Fr DD)) (fun v5 : Int => ([] : Heap DD)) (fun r => match r with | Sum.inl v13 => .ret | Sum.inr _ => .exit 0) (fun r => match r with | Sum.inl v13 => [(4, .j v13)] | Sum.inr _ => [(4, .z)]) (fun r => match r with | Sum.inl v13 => [] | Sum.inr _ => []) := by
 refine loop_sound3 (fun s q h => ?_) (fun r => ?_)
 ·replace h : slices_IndexFunc_Irb_Irb_1_L1 a1 a2 a3 a4 s = some q := h; revert h; revert s; intro v5 h
  unfold slices_IndexFunc_Irb_Irb_1_L1 at h
  obtain ⟨h6, h⟩|⟨h6, h⟩ := ite_out h
  ·obtain ⟨x7, h8, h⟩ := bo h
   obtain ⟨r9, h10, h⟩ := bo h
   obtain ⟨h11, h⟩|⟨h11, h⟩ := ite_out h
   ·obtain rfl := oi h; exact rl [4] [] [.t, .row (c105 x7), .b r9, .t] (pc h6<|pc (ob105 h8)<|pc (k_vrfs_Irb_1 h10)<|pc h11<|pn)
   ·obtain rfl := oi h; exact rl [0, 1, 4, 7, 8] [] [.t, .row (c105 x7), .b r9, .f] (pc h6<|pc (ob105 h8)<|pc (k_vrfs_Irb_1 h10)<|pc h11<|pn)
  ·obtain rfl := oi h; exact rl [4] [] [.f] (pc h6<|pn)
 ·rcases r with _ | _ <;> exact Ex.noConfusion

theorem k_slices_IndexFunc_Irb_Irb_1 {a1 : List Api_Irb} {a2 : Api_Net} {a3 : Int} {a4 : Api_Line} {r : Int} (h : slices_IndexFunc_Irb_Irb_1 a1 a2 a3 a4 = some r) :
  CallsOK Tryz.prog UU 119 [.sl 105 a1, .fn (.func 51) [] [.rp (c31 a2) 0, .rp (c3 a3) 0, .rp (c37 a4) 0]] [] (.j r) [] := by
 unfold slices_IndexFunc_Irb_Irb_1 at h
 obtain ⟨r15, h14, h⟩ := bo h
 rcases r15 with v13 | _
 ·obtain rfl := oi h; exact rf Tryz.func119 none [.sum [0, 1, 4, 7, 8] [] .ret [(4, .j v13)] []] (pc (k_slices_IndexFunc_Irb_Irb_1_L1 _ _ h14)<|pn)
 ·obtain rfl := oi h; exact rf Tryz.func119 none [.sum [0, 1, 4, 7, 8] [] (.exit 0) [(4, .z)] []] (pc (k_slices_IndexFunc_Irb_Irb_1_L1 _ _ h14)<|pn)

theorem k_slices_ContainsFunc_Irb_Irb_1 {a1 : List Api_Irb} {a2 : Api_Net} {a3 : Int} {a4 : Api_Line} {r : Bool} (h : slices_ContainsFunc_Irb_Irb_1 a1 a2 a3 a4 = some r) :
  CallsOK Tryz.prog UU 50 [.sl 105 a1, .fn (.func 51) [] [.rp (c31 a2) 0, .rp (c3 a3) 0, .rp (c37 a4) 0]] [] (.y r) [] := by
 unfold slices_ContainsFunc_Irb_Irb_1 at h
 obtain ⟨r5, h6, h⟩ := bo h
 obtain rfl := oi h; exact rf Tryz.func50 none [.callv (.j r5)] (pc (k_slices_IndexFunc_Irb_Irb_1 h6)<|pn)

theorem k_vrfs_Irb {a1 : Api_Net} {a2 : Api_Line} {r : ((List Api_Device) × (List Api_Port) × (List Api_Link) × (List Api_Domain) × (List Api_Static) × (List Api_Flood) × (List Api_Vrf) × (List Api_Irb) × Nat × Nat × Nat × Nat × Int)} (h : vrfs_Irb a1 a2 = some r) :
  CallsOK Tryz.prog UU 12 [.agg (c31 a1), .agg (c37 a2)] [] ((fun r => match r with | (l36, l37, l38, l39, l40, l41, l42, l43, n44, n45, n46, n47, v48) => .tup [.agg [.os 0 l36.length, .os 1 n44, .os 2 l38.length, .os 3 n45, .os 4 l40.length, .os 5 n46, .os 6 n47, .os 7 l43.length], .j v48]) r) ((fun r => match r with | (l36, l37, l38, l39, l40, l41, l42, l43, n44, n45, n46, n47, v48) => [.w 56 l36, .arr 110 l37 n44 false, .w 174 l38, .arr 90 l39 n45 false, .w 178 l40, .arr 113 l41 n46 false, .arr 88 l42 n47 false, .w 105 l43]) r) := by
 unfold vrfs_Irb at h
 obtain ⟨r3, h4, h⟩ := bo h
 obtain ⟨h5, h⟩|⟨h5, h⟩ := ite_out h
 ·obtain rfl := oi h; exact rf Tryz.func12 (some [12, 13, 14, 15, 16, 17, 18, 19]) [.callv (.tup [.j r3.1, .j r3.2]), .t] (pc (k_vrfs_begin h4)<|pc h5<|pn)
 ·obtain ⟨r6, h7, h⟩ := bo h
  obtain ⟨r8, h9, h⟩ := bo h
  obtain ⟨h10, h⟩|⟨h10, h⟩ := ite_out h
  ·obtain rfl := oi h; exact rf Tryz.func12 (some [12, 13, 14, 15, 16, 17, 18, 19]) [.callv (.tup [.j r3.1, .j r3.2]), .f, .callv (.j r6), .callv (.j r8), .t] (pc (k_vrfs_begin h4)<|pc h5<|pc (k_names_Vrf h7)<|pc (k_names_Domain h9)<|pc h10<|pn)
  ·obtain ⟨h11, h⟩|⟨h11, h⟩ := ite_out h
   ·obtain rfl := oi h; exact rf Tryz.func12 (some [12, 13, 14, 15, 16, 17, 18, 19]) [.callv (.tup [.j r3.1, .j r3.2]), .f, .callv (.j r6), .callv (.j r8), .f, .t] (pc (k_vrfs_begin h4)<|pc h5<|pc (k_names_Vrf h7)<|pc (k_names_Domain h9)<|pc h10<|pc h11<|pn)
   ·obtain ⟨x12, h13, h⟩ := bo h
    obtain ⟨h14, h⟩|⟨h14, h⟩ := ite_out h
    ·obtain rfl := oi h; exact rf Tryz.func12 (some [12, 13, 14, 15, 16, 17, 18, 19]) [.callv (.tup [.j r3.1, .j r3.2]), .f, .callv (.j r6), .callv (.j r8), .f, .f, .row (c90 x12), .t] (pc (k_vrfs_begin h4)<|pc h5<|pc (k_names_Vrf h7)<|pc (k_names_Domain h9)<|pc h10<|pc h11<|pc (ob90 h13)<|pc h14<|pn)
    ·obtain ⟨r15, h16, h⟩ := bo h
     obtain ⟨h17, h⟩|⟨h17, h⟩ := ite_out h
     ·obtain rfl := oi h; exact rf Tryz.func12 (some [12, 13, 14, 15, 16, 17, 18, 19]) [.callv (.tup [.j r3.1, .j r3.2]), .f, .callv (.j r6), .callv (.j r8), .f, .f, .row (c90 x12), .f, .b r15, .t] (pc (k_vrfs_begin h4)<|pc h5<|pc (k_names_Vrf h7)<|pc (k_names_Domain h9)<|pc h10<|pc h11<|pc (ob90 h13)<|pc h14<|pc (k_slices_ContainsFunc_Irb_Irb_1 h16)<|pc h17<|pn)
     ·obtain ⟨r18, h19, h⟩ := bo h
      obtain ⟨l20, l21, l22, l23, l24, l25, l26, l27, n28, n29, n30, n31⟩ := r18
      obtain ⟨h32, h⟩|⟨h32, h⟩ := ite_out h
      ·obtain ⟨x33, h34, h⟩ := bo h
       obtain ⟨h35, h⟩|⟨h35, h⟩ := ite_out h
       ·obtain rfl := oi h; exact rf Tryz.func12 (some [12, 13, 14, 15, 16, 17, 18, 19]) [.callv (.tup [.j r3.1, .j r3.2]), .f, .callv (.j r6), .callv (.j r8), .f, .f, .row (c90 x12), .f, .b r15, .f, .callm [] (.agg [.os 0 l20.length, .os 1 n28, .os 2 l22.length, .os 3 n29, .os 4 l24.length, .os 5 n30, .os 6 n31, .os 7 l27.length]) [.w 56 l20, .arr 110 l21 n28 false, .w 174 l22, .arr 90 l23 n29 false, .w 178 l24, .arr 113 l25 n30 false, .arr 88 l26 n31 false, .w 105 l27], .row (c90 x33), .obj [] (.arr 90 (List.set l23 r8.toNat (⟨x33.dev, x33.vlan, x33.vni, (l27.length : Int), x33.row, x33.peers⟩ : Api_Domain)) n29 false), .obj [] (.w 105 [(⟨a2.row, r8, r6, (⟨a2.addr, a2.bits⟩ : Api_Prefix)⟩ : Api_Irb)]), .obj [] (.w 105 (l27 ++ [(⟨a2.row, r8, r6, (⟨a2.addr, a2.bits⟩ : Api_Prefix)⟩ : Api_Irb)]))] (pc (k_vrfs_begin h4)<|pc h5<|pc (k_names_Vrf h7)<|pc (k_names_Domain h9)<|pc h10<|pc h11<|pc (ob90 h13)<|pc h14<|pc (k_slices_ContainsFunc_Irb_Irb_1 h16)<|pc h17<|pc (k_names_Copy h19)<|pc (rn l27.length)<|pc (an n29 (lin_ob h32))<|pc (rn n29)<|pc (st_ob (e := 90) (n := n29) (l := l23) (i := r8.toNat) (⟨x33.dev, x33.vlan, x33.vni, (l27.length : Int), x33.row, x33.peers⟩ : Api_Domain) [.j x33.dev, .j x33.vlan, .j x33.vni, .j (l27.length : Int), .j x33.row, .sl 3 x33.peers] (obn90 h34) rfl)<|pc (bs_ob 105 [(⟨a2.row, r8, r6, (⟨a2.addr, a2.bits⟩ : Api_Prefix)⟩ : Api_Irb)])<|pc (app_ob 105 (n := l27.length) (l := l27) (xs := [(⟨a2.row, r8, r6, (⟨a2.addr, a2.bits⟩ : Api_Prefix)⟩ : Api_Irb)]) h35)<|pc (rn (List.length [(⟨a2.row, r8, r6, (⟨a2.addr, a2.bits⟩ : Api_Prefix)⟩ : Api_Irb)]))<|pn)
       ·cases h
      ·cases h

theorem k_mac_Host {a1 : Int} {r : Int} (h : mac_Host a1 = some r) :
  CallsOK Tryz.prog UU 39 [.v (.int .u32 a1)] [] (.v (.int .u64 r)) [] := by
 unfold mac_Host at h
 obtain rfl := oi h; exact rf Tryz.func39 none [] (pn)

theorem k_vrfs_Router {a1 : Api_Net} {a2 : Int} {a3 : Int} {r : Int × Bool} (h : vrfs_Router a1 a2 a3 = some r) :
  CallsOK Tryz.prog UU 38 [.agg (c31 a1), .j a2, .v (.int .u64 a3)] [] (.tup [.j r.1, .y r.2]) [] := by
 unfold vrfs_Router at h
 obtain ⟨h4, h⟩|⟨h4, h⟩ := ite_out h
 ·obtain rfl := oi h; exact rf Tryz.func38 none [.t] (pc h4<|pn)
 ·obtain ⟨h5, h⟩|⟨h5, h⟩ := ite_out h
  ·obtain rfl := oi h; exact rf Tryz.func38 none [.f, .t] (pc h4<|pc h5<|pn)
  ·obtain ⟨r6, h7, h⟩ := bo h
   obtain ⟨h8, h⟩|⟨h8, h⟩ := ite_out h
   ·obtain rfl := oi h; exact rf Tryz.func38 none [.f, .f, .b r6, .t] (pc h4<|pc h5<|pc (k_names_Right h7)<|pc h8<|pn)
   ·obtain ⟨x9, h10, h⟩ := bo h
    obtain ⟨h11, h⟩|⟨h11, h⟩ := ite_out h
    ·obtain rfl := oi h; exact rf Tryz.func38 none [.f, .f, .b r6, .f, .row (c90 x9), .t] (pc h4<|pc h5<|pc (k_names_Right h7)<|pc h8<|pc (ob90 h10)<|pc h11<|pn)
    ·obtain ⟨x12, h13, h⟩ := bo h
     obtain ⟨r14, h15, h⟩ := bo h
     obtain ⟨h16, h⟩|⟨h16, h⟩ := ite_out h
     ·obtain rfl := oi h; exact rf Tryz.func38 none [.f, .f, .b r6, .f, .row (c90 x9), .f, .row (c105 x12), .callv (.v (.int .u64 r14)), .t] (pc h4<|pc h5<|pc (k_names_Right h7)<|pc h8<|pc (ob90 h10)<|pc h11<|pc (ob105 h13)<|pc (k_mac_Host h15)<|pc h16<|pn)
     ·obtain rfl := oi h; exact rf Tryz.func38 none [.f, .f, .b r6, .f, .row (c90 x9), .f, .row (c105 x12), .callv (.v (.int .u64 r14)), .f] (pc h4<|pc h5<|pc (k_names_Right h7)<|pc h8<|pc (ob90 h10)<|pc h11<|pc (ob105 h13)<|pc (k_mac_Host h15)<|pc h16<|pn)

theorem k_vrfs_Leaks_1 {a1 : Int} {a2 : Api_Vrf} {r : Bool} (h : vrfs_Leaks_1 a1 a2 = some r) :
  CallsOK Tryz.prog UU 101 [.j a1, .rp (c88 a2) 0] [] (.y r) [] := by
 unfold vrfs_Leaks_1 at h
 obtain ⟨r3, h4, h⟩ := bo h
 obtain rfl := oi h; exact rf Tryz.func101 none [.b r3] (pc (k_slices_Contains_int h4)<|pn)

theorem k_slices_IndexFunc_int_Leaks_1_L1 {a1 : List Int} {a2 : Api_Vrf} : LoopOK Tryz.prog UU 0 19 (subC (codeOf Tryz.f178) [1, 0, 1, 0, 0]) (ρ := Int ⊕ Unit) (slices_IndexFunc_int_Leaks_1_L1 a1 a2)
  (fun v3 : Int => ([(0, .sl 3 a1), (1, .fn (.func 101) [] [.rp (c88 a2) 0]), (4, .z), (7, .j (a1.length : Int)), (8, .j v3)] : Fr DD)) (fun v3 : Int => ([] : Heap DD)) (fun r => match r with | Sum.inl v11 => .ret | Sum.inr _ => .exit 0) (fun r => match r with | Sum.inl v11 => [(4, .j v11)] | Sum.inr _ => [(4, .z)]) (fun r => match r with | Sum.inl v11 => [] | Sum.inr _ => []) := by
 refine loop_sound3 (fun s q h => ?_) (fun r => ?_)
 ·replace h : slices_IndexFunc_int_Leaks_1_L1 a1 a2 s = some q := h; revert h; revert s; intro v3 h
  unfold slices_IndexFunc_int_Leaks_1_L1 at h
  obtain ⟨h4, h⟩|⟨h4, h⟩ := ite_out h
  ·obtain ⟨x5, h6, h⟩ := bo h
   obtain ⟨r7, h8, h⟩ := bo h
   obtain ⟨h9, h⟩|⟨h9, h⟩ := ite_out h
   ·obtain rfl := oi h; exact rl [4] [] [.t, .row (c3 x5), .b r7, .t] (pc h4<|pc (ob3 h6)<|pc (k_vrfs_Leaks_1 h8)<|pc h9<|pn)
   ·obtain rfl := oi h; exact rl [0, 1, 4, 7, 8] [] [.t, .row (c3 x5), .b r7, .f] (pc h4<|pc (ob3 h6)<|pc (k_vrfs_Leaks_1 h8)<|pc h9<|pn)
  ·obtain rfl := oi h; exact rl [4] [] [.f] (pc h4<|pn)
 ·rcases r with _ | _ <;> exact Ex.noConfusion

theorem k_slices_IndexFunc_int_Leaks_1 {a1 : List Int} {a2 : Api_Vrf} {r : Int} (h : slices_IndexFunc_int_Leaks_1 a1 a2 = some r) :
  CallsOK Tryz.prog UU 178 [.sl 3 a1, .fn (.func 101) [] [.rp (c88 a2) 0]] [] (.j r) [] := by
 unfold slices_IndexFunc_int_Leaks_1 at h
 obtain ⟨r13, h12, h⟩ := bo h
 rcases r13 with v11 | _
 ·obtain rfl := oi h; exact rf Tryz.func178 none [.sum [0, 1, 4, 7, 8] [] .ret [(4, .j v11)] []] (pc (k_slices_IndexFunc_int_Leaks_1_L1 _ _ h12)<|pn)
 ·obtain rfl := oi h; exact rf Tryz.func178 none [.sum [0, 1, 4, 7, 8] [] (.exit 0) [(4, .z)] []] (pc (k_slices_IndexFunc_int_Leaks_1_L1 _ _ h12)<|pn)

theorem k_slices_ContainsFunc_int_Leaks_1 {a1 : List Int} {a2 : Api_Vrf} {r : Bool} (h : slices_ContainsFunc_int_Leaks_1 a1 a2 = some r) :
  CallsOK Tryz.prog UU 102 [.sl 3 a1, .fn (.func 101) [] [.rp (c88 a2) 0]] [] (.y r) [] := by
 unfold slices_ContainsFunc_int_Leaks_1 at h
 obtain ⟨r3, h4, h⟩ := bo h
 obtain rfl := oi h; exact rf Tryz.func102 none [.callv (.j r3)] (pc (k_slices_IndexFunc_int_Leaks_1 h4)<|pn)

theorem k_vrfs_Leaks {a1 : Api_Net} {a2 : Int} {a3 : Int} {r : Bool} (h : vrfs_Leaks a1 a2 a3 = some r) :
  CallsOK Tryz.prog UU 40 [.agg (c31 a1), .j a2, .j a3] [] (.y r) [] := by
 unfold vrfs_Leaks at h
 obtain ⟨h4, h⟩|⟨h4, h⟩ := ite_out h
 ·obtain rfl := oi h; exact rf Tryz.func40 none [.t] (pc h4<|pn)
 ·obtain ⟨h5, h⟩|⟨h5, h⟩ := ite_out h
  ·obtain rfl := oi h; exact rf Tryz.func40 none [.f, .t] (pc h4<|pc h5<|pn)
  ·obtain ⟨h6, h⟩|⟨h6, h⟩ := ite_out h
   ·obtain rfl := oi h; exact rf Tryz.func40 none [.f, .f, .t] (pc h4<|pc h5<|pc h6<|pn)
   ·obtain ⟨h7, h⟩|⟨h7, h⟩ := ite_out h
    ·obtain rfl := oi h; exact rf Tryz.func40 none [.f, .f, .f, .t] (pc h4<|pc h5<|pc h6<|pc h7<|pn)
    ·obtain ⟨r8, h9, h⟩ := bo h
     obtain ⟨h10, h⟩|⟨h10, h⟩ := ite_out h
     ·obtain rfl := oi h; exact rf Tryz.func40 none [.f, .f, .f, .f, .b r8, .t] (pc h4<|pc h5<|pc h6<|pc h7<|pc (k_names_Right h9)<|pc h10<|pn)
     ·obtain ⟨x11, h12, h⟩ := bo h
      obtain ⟨x13, h14, h⟩ := bo h
      obtain ⟨h15, h⟩|⟨h15, h⟩ := ite_out h
      ·obtain rfl := oi h; exact rf Tryz.func40 none [.f, .f, .f, .f, .b r8, .f, .row (c88 x11), .row (c88 x13), .t] (pc h4<|pc h5<|pc h6<|pc h7<|pc (k_names_Right h9)<|pc h10<|pc (ob88 h12)<|pc (ob88 h14)<|pc h15<|pn)
      ·obtain ⟨h16, h⟩|⟨h16, h⟩ := ite_out h
       ·obtain ⟨r17, h18, h⟩ := bo h
        obtain rfl := oi h; exact rf Tryz.func40 none [.f, .f, .f, .f, .b r8, .f, .row (c88 x11), .row (c88 x13), .f, .t, .b r17] (pc h4<|pc h5<|pc h6<|pc h7<|pc (k_names_Right h9)<|pc h10<|pc (ob88 h12)<|pc (ob88 h14)<|pc h15<|pc h16<|pc (k_slices_ContainsFunc_int_Leaks_1 h18)<|pn)
       ·obtain rfl := oi h; exact rf Tryz.func40 none [.f, .f, .f, .f, .b r8, .f, .row (c88 x11), .row (c88 x13), .f, .f] (pc h4<|pc h5<|pc h6<|pc h7<|pc (k_names_Right h9)<|pc h10<|pc (ob88 h12)<|pc (ob88 h14)<|pc h15<|pc h16<|pn)

end Go.Eng
