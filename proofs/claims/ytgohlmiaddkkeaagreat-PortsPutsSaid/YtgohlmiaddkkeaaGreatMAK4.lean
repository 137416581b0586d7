/- Part of the proof of PortsPuts: printed mirrors of the functions, or their contracts. No conditions. -/
import Derived.Test.YtgohlmiaddkkeaaGreatMAK3
set_option linter.unusedVariables false
set_option maxRecDepth 100000
namespace Go.Eng
open Go Go.Proofs
def b0_k_names_Copy_L1 : AObj DD := .box 31 [.os 1 0, .os 2 0, .os 3 0, .os 4 0, .os 5 0, .os 6 0, .os 7 0, .os 8 0] false
theorem k_names_Copy_L1 {l4 : List Api_Device} {l7 : List Api_Port} {l10 : List Api_Link} {l13 : List Api_Domain} {l16 : List Api_Static} {l19 : List Api_Flood} {l22 : List Api_Vrf} {l25 : List Api_Irb} : LoopOK Tryz.prog UU 0 119 (subC (codeOf Tryz.f39) [1, 1, 0, 1, 0, 0]) (fun s : (List Api_Port) × Int => match s with | (l26, v27) => names_Copy_L1 l4 l7 l10 l13 l16 l19 l22 l25 l26 v27)
    (fun s : (List Api_Port) × Int => (match s with | (l26, v27) => [(2, .op 0 1 0 0), (3, .op 9 1 0 0), (36, .j (l7.length : Int)), (37, .j v27)] : Fr DD)) (fun s : (List Api_Port) × Int => (match s with | (l26, v27) => [b0_k_names_Copy_L1, .n 56, .n 66, .n 93, .n 50, .n 95, .n 72, .n 75, .n 99, .box 31 [.os 10 l4.length, .os 11 l7.length, .os 12 l10.length, .os 13 l13.length, .os 14 l16.length, .os 15 l19.length, .os 16 l22.length, .os 17 l25.length] false, .w 56 l4, .arr 66 l26 l7.length false, .w 93 l10, .w 50 l13, .w 95 l16, .w 72 l19, .w 75 l22, .w 99 l25] : Heap DD)) (fun r => match r with | l39 => .exit 0) (fun r => match r with | l39 => [(2, .op 0 1 0 0), (3, .op 9 1 0 0)]) (fun r => match r with | l39 => [b0_k_names_Copy_L1, .n 56, .n 66, .n 93, .n 50, .n 95, .n 72, .n 75, .n 99, .box 31 [.os 10 l4.length, .os 11 l7.length, .os 12 l10.length, .os 13 l13.length, .os 14 l16.length, .os 15 l19.length, .os 16 l22.length, .os 17 l25.length] false, .w 56 l4, .arr 66 l39 l7.length false, .w 93 l10, .w 50 l13, .w 95 l16, .w 72 l19, .w 75 l22, .w 99 l25]) := by
  refine loop_sound3 (fun s q h => ?_) (fun r => ?_)
  · obtain ⟨l26, v27⟩ := s; replace h : names_Copy_L1 l4 l7 l10 l13 l16 l19 l22 l25 l26 v27 = some q := h
    unfold names_Copy_L1 at h
    obtain ⟨h28, h⟩|⟨h28, h⟩ := ite_out h
    · obtain ⟨h29, h⟩|⟨h29, h⟩ := ite_out h
      · obtain ⟨x30, h31, h⟩ := bo h
        obtain ⟨l34, h33, h⟩ := bo h
        obtain ⟨x35, h36, h⟩ := bo h
        injection h with h; subst h; exact rl [2, 3, 36, 37] [0, 1, 2, 3, 4, 5, 6, 7, 8, 9, 10, 11, 12, 13, 14, 15, 16, 17] [.t, .sum [9] [] .nor [] [b0_k_names_Copy_L1, .n 56, .n 66, .n 93, .n 50, .n 95, .n 72, .n 75, .n 99, .box 31 [.os 10 l4.length, .os 11 l7.length, .os 12 l10.length, .os 13 l13.length, .os 14 l16.length, .os 15 l19.length, .os 16 l22.length, .os 17 l25.length] false, .w 56 l4, .arr 66 l26 l7.length false, .w 93 l10, .w 50 l13, .w 95 l16, .w 72 l19, .w 75 l22, .w 99 l25, .w 3 l34], .row (c66 x30), .callo (.os 0 l34.length) [.w 3 l34], .row (c66 x35), .obj [18] (.arr 66 (List.set l26 v27.toNat (⟨x35.row, x35.dev, x35.native, x35.cost, x35.link, x35.name, l34⟩ : Api_Port)) l7.length false)] (pc h28<|pc (rr (.op 9 1 0 1))<|pc (rr (.os 11 l7.length))<|pc (rr (.j v27))<|pc (an l7.length (lin_ob h29))<|pc (rn l7.length)<|pc (an l7.length (obn66 h31))<|pc (rh [b0_k_names_Copy_L1, .n 56, .n 66, .n 93, .n 50, .n 95, .n 72, .n 75, .n 99, .box 31 [.os 10 l4.length, .os 11 l7.length, .os 12 l10.length, .os 13 l13.length, .os 14 l16.length, .os 15 l19.length, .os 16 l22.length, .os 17 l25.length] false, .w 56 l4, .arr 66 l26 l7.length false, .w 93 l10, .w 50 l13, .w 95 l16, .w 72 l19, .w 75 l22, .w 99 l25, .w 3 l34])<|pc (k_slices_Clone_int h33)<|pc (im3 l34)<|pc (an l7.length (lin_ob h29))<|pc (rn l7.length)<|pc (st_ob (e := 66) (n := l7.length) (l := l26) (i := v27.toNat) (⟨x35.row, x35.dev, x35.native, x35.cost, x35.link, x35.name, l34⟩ : Api_Port) [.v (.int .i64 x35.row), .v (.int .i64 x35.dev), .v (.int .i64 x35.native), .v (.int .i64 x35.cost), .v (.int .i64 x35.link), .v (.string x35.name), .sl 3 l34] (obn66 h36) rfl)<|pc (rn l34.length)<|pn)
      · cases h
    · injection h with h; subst h; exact rl [2, 3] [0, 1, 2, 3, 4, 5, 6, 7, 8, 9, 10, 11, 12, 13, 14, 15, 16, 17] [.f] (pc h28<|pn)
  · exact Ex.noConfusion

def b0_k_names_Copy_L2 : AObj DD := .box 31 [.os 1 0, .os 2 0, .os 3 0, .os 4 0, .os 5 0, .os 6 0, .os 7 0, .os 8 0] false
theorem k_names_Copy_L2 {l4 : List Api_Device} {l7 : List Api_Port} {l10 : List Api_Link} {l13 : List Api_Domain} {l16 : List Api_Static} {l19 : List Api_Flood} {l22 : List Api_Vrf} {l25 : List Api_Irb} {l39 : List Api_Port} : LoopOK Tryz.prog UU 0 119 (subC (codeOf Tryz.f39) [1, 1, 1, 0, 1, 0, 0]) (fun s : (List Api_Domain) × Int => match s with | (l42, v43) => names_Copy_L2 l4 l7 l10 l13 l16 l19 l22 l25 l39 l42 v43)
    (fun s : (List Api_Domain) × Int => (match s with | (l42, v43) => [(2, .op 0 1 0 0), (3, .op 9 1 0 0), (55, .j (l13.length : Int)), (56, .j v43)] : Fr DD)) (fun s : (List Api_Domain) × Int => (match s with | (l42, v43) => [b0_k_names_Copy_L2, .n 56, .n 66, .n 93, .n 50, .n 95, .n 72, .n 75, .n 99, .box 31 [.os 10 l4.length, .os 11 l7.length, .os 12 l10.length, .os 13 l13.length, .os 14 l16.length, .os 15 l19.length, .os 16 l22.length, .os 17 l25.length] false, .w 56 l4, .arr 66 l39 l7.length false, .w 93 l10, .arr 50 l42 l13.length false, .w 95 l16, .w 72 l19, .w 75 l22, .w 99 l25] : Heap DD)) (fun r => match r with | l55 => .exit 2) (fun r => match r with | l55 => [(2, .op 0 1 0 0), (3, .op 9 1 0 0)]) (fun r => match r with | l55 => [b0_k_names_Copy_L2, .n 56, .n 66, .n 93, .n 50, .n 95, .n 72, .n 75, .n 99, .box 31 [.os 10 l4.length, .os 11 l7.length, .os 12 l10.length, .os 13 l13.length, .os 14 l16.length, .os 15 l19.length, .os 16 l22.length, .os 17 l25.length] false, .w 56 l4, .arr 66 l39 l7.length false, .w 93 l10, .arr 50 l55 l13.length false, .w 95 l16, .w 72 l19, .w 75 l22, .w 99 l25]) := by
  refine loop_sound3 (fun s q h => ?_) (fun r => ?_)
  · obtain ⟨l42, v43⟩ := s; replace h : names_Copy_L2 l4 l7 l10 l13 l16 l19 l22 l25 l39 l42 v43 = some q := h
    unfold names_Copy_L2 at h
    obtain ⟨h44, h⟩|⟨h44, h⟩ := ite_out h
    · obtain ⟨h45, h⟩|⟨h45, h⟩ := ite_out h
      · obtain ⟨x46, h47, h⟩ := bo h
        obtain ⟨l50, h49, h⟩ := bo h
        obtain ⟨x51, h52, h⟩ := bo h
        injection h with h; subst h; exact rl [2, 3, 55, 56] [0, 1, 2, 3, 4, 5, 6, 7, 8, 9, 10, 11, 12, 13, 14, 15, 16, 17] [.t, .sum [9] [] .nor [] [b0_k_names_Copy_L2, .n 56, .n 66, .n 93, .n 50, .n 95, .n 72, .n 75, .n 99, .box 31 [.os 10 l4.length, .os 11 l7.length, .os 12 l10.length, .os 13 l13.length, .os 14 l16.length, .os 15 l19.length, .os 16 l22.length, .os 17 l25.length] false, .w 56 l4, .arr 66 l39 l7.length false, .w 93 l10, .arr 50 l42 l13.length false, .w 95 l16, .w 72 l19, .w 75 l22, .w 99 l25, .w 3 l50], .row (c50 x46), .callo (.os 0 l50.length) [.w 3 l50], .row (c50 x51), .obj [18] (.arr 50 (List.set l42 v43.toNat (⟨x51.dev, x51.vlan, x51.vni, x51.irb, x51.row, l50⟩ : Api_Domain)) l13.length false)] (pc h44<|pc (rr (.op 9 1 0 3))<|pc (rr (.os 13 l13.length))<|pc (rr (.j v43))<|pc (an l13.length (lin_ob h45))<|pc (rn l13.length)<|pc (an l13.length (obn50 h47))<|pc (rh [b0_k_names_Copy_L2, .n 56, .n 66, .n 93, .n 50, .n 95, .n 72, .n 75, .n 99, .box 31 [.os 10 l4.length, .os 11 l7.length, .os 12 l10.length, .os 13 l13.length, .os 14 l16.length, .os 15 l19.length, .os 16 l22.length, .os 17 l25.length] false, .w 56 l4, .arr 66 l39 l7.length false, .w 93 l10, .arr 50 l42 l13.length false, .w 95 l16, .w 72 l19, .w 75 l22, .w 99 l25, .w 3 l50])<|pc (k_slices_Clone_int h49)<|pc (im3 l50)<|pc (an l13.length (lin_ob h45))<|pc (rn l13.length)<|pc (st_ob (e := 50) (n := l13.length) (l := l42) (i := v43.toNat) (⟨x51.dev, x51.vlan, x51.vni, x51.irb, x51.row, l50⟩ : Api_Domain) [.v (.int .i64 x51.dev), .v (.int .i64 x51.vlan), .v (.int .i64 x51.vni), .v (.int .i64 x51.irb), .v (.int .i64 x51.row), .sl 3 l50] (obn50 h52) rfl)<|pc (rn l50.length)<|pn)
      · cases h
    · injection h with h; subst h; exact rl [2, 3] [0, 1, 2, 3, 4, 5, 6, 7, 8, 9, 10, 11, 12, 13, 14, 15, 16, 17] [.f] (pc h44<|pn)
  · exact Ex.noConfusion

def b0_k_names_Copy_L3 : AObj DD := .box 31 [.os 1 0, .os 2 0, .os 3 0, .os 4 0, .os 5 0, .os 6 0, .os 7 0, .os 8 0] false
theorem k_names_Copy_L3 {l4 : List Api_Device} {l7 : List Api_Port} {l10 : List Api_Link} {l13 : List Api_Domain} {l16 : List Api_Static} {l19 : List Api_Flood} {l22 : List Api_Vrf} {l25 : List Api_Irb} {l39 : List Api_Port} {l55 : List Api_Domain} : LoopOK Tryz.prog UU 0 119 (subC (codeOf Tryz.f39) [1, 1, 1, 1, 0, 1, 0, 0]) (fun s : (List Api_Flood) × Int => match s with | (l58, v59) => names_Copy_L3 l4 l7 l10 l13 l16 l19 l22 l25 l39 l55 l58 v59)
    (fun s : (List Api_Flood) × Int => (match s with | (l58, v59) => [(2, .op 0 1 0 0), (3, .op 9 1 0 0), (74, .j (l19.length : Int)), (75, .j v59)] : Fr DD)) (fun s : (List Api_Flood) × Int => (match s with | (l58, v59) => [b0_k_names_Copy_L3, .n 56, .n 66, .n 93, .n 50, .n 95, .n 72, .n 75, .n 99, .box 31 [.os 10 l4.length, .os 11 l7.length, .os 12 l10.length, .os 13 l13.length, .os 14 l16.length, .os 15 l19.length, .os 16 l22.length, .os 17 l25.length] false, .w 56 l4, .arr 66 l39 l7.length false, .w 93 l10, .arr 50 l55 l13.length false, .w 95 l16, .arr 72 l58 l19.length false, .w 75 l22, .w 99 l25] : Heap DD)) (fun r => match r with | l71 => .exit 4) (fun r => match r with | l71 => [(2, .op 0 1 0 0), (3, .op 9 1 0 0)]) (fun r => match r with | l71 => [b0_k_names_Copy_L3, .n 56, .n 66, .n 93, .n 50, .n 95, .n 72, .n 75, .n 99, .box 31 [.os 10 l4.length, .os 11 l7.length, .os 12 l10.length, .os 13 l13.length, .os 14 l16.length, .os 15 l19.length, .os 16 l22.length, .os 17 l25.length] false, .w 56 l4, .arr 66 l39 l7.length false, .w 93 l10, .arr 50 l55 l13.length false, .w 95 l16, .arr 72 l71 l19.length false, .w 75 l22, .w 99 l25]) := by
  refine loop_sound3 (fun s q h => ?_) (fun r => ?_)
  · obtain ⟨l58, v59⟩ := s; replace h : names_Copy_L3 l4 l7 l10 l13 l16 l19 l22 l25 l39 l55 l58 v59 = some q := h
    unfold names_Copy_L3 at h
    obtain ⟨h60, h⟩|⟨h60, h⟩ := ite_out h
    · obtain ⟨h61, h⟩|⟨h61, h⟩ := ite_out h
      · obtain ⟨x62, h63, h⟩ := bo h
        obtain ⟨l66, h65, h⟩ := bo h
        obtain ⟨x67, h68, h⟩ := bo h
        injection h with h; subst h; exact rl [2, 3, 74, 75] [0, 1, 2, 3, 4, 5, 6, 7, 8, 9, 10, 11, 12, 13, 14, 15, 16, 17] [.t, .sum [9] [] .nor [] [b0_k_names_Copy_L3, .n 56, .n 66, .n 93, .n 50, .n 95, .n 72, .n 75, .n 99, .box 31 [.os 10 l4.length, .os 11 l7.length, .os 12 l10.length, .os 13 l13.length, .os 14 l16.length, .os 15 l19.length, .os 16 l22.length, .os 17 l25.length] false, .w 56 l4, .arr 66 l39 l7.length false, .w 93 l10, .arr 50 l55 l13.length false, .w 95 l16, .arr 72 l58 l19.length false, .w 75 l22, .w 99 l25, .w 33 l66], .row (c72 x62), .callo (.os 0 l66.length) [.w 33 l66], .row (c72 x67), .obj [18] (.arr 72 (List.set l58 v59.toNat (⟨x67.row, x67.dev, x67.vni, l66⟩ : Api_Flood)) l19.length false)] (pc h60<|pc (rr (.op 9 1 0 5))<|pc (rr (.os 15 l19.length))<|pc (rr (.j v59))<|pc (an l19.length (lin_ob h61))<|pc (rn l19.length)<|pc (an l19.length (obn72 h63))<|pc (rh [b0_k_names_Copy_L3, .n 56, .n 66, .n 93, .n 50, .n 95, .n 72, .n 75, .n 99, .box 31 [.os 10 l4.length, .os 11 l7.length, .os 12 l10.length, .os 13 l13.length, .os 14 l16.length, .os 15 l19.length, .os 16 l22.length, .os 17 l25.length] false, .w 56 l4, .arr 66 l39 l7.length false, .w 93 l10, .arr 50 l55 l13.length false, .w 95 l16, .arr 72 l58 l19.length false, .w 75 l22, .w 99 l25, .w 33 l66])<|pc (k_slices_Clone_uint32 h65)<|pc (im33 l66)<|pc (an l19.length (lin_ob h61))<|pc (rn l19.length)<|pc (st_ob (e := 72) (n := l19.length) (l := l58) (i := v59.toNat) (⟨x67.row, x67.dev, x67.vni, l66⟩ : Api_Flood) [.v (.int .i64 x67.row), .v (.int .i64 x67.dev), .v (.int .i64 x67.vni), .sl 33 l66] (obn72 h68) rfl)<|pc (rn l66.length)<|pn)
      · cases h
    · injection h with h; subst h; exact rl [2, 3] [0, 1, 2, 3, 4, 5, 6, 7, 8, 9, 10, 11, 12, 13, 14, 15, 16, 17] [.f] (pc h60<|pn)
  · exact Ex.noConfusion

def b0_k_names_Copy_L4 : AObj DD := .box 31 [.os 1 0, .os 2 0, .os 3 0, .os 4 0, .os 5 0, .os 6 0, .os 7 0, .os 8 0] false
theorem k_names_Copy_L4 {l4 : List Api_Device} {l7 : List Api_Port} {l10 : List Api_Link} {l13 : List Api_Domain} {l16 : List Api_Static} {l19 : List Api_Flood} {l22 : List Api_Vrf} {l25 : List Api_Irb} {l39 : List Api_Port} {l55 : List Api_Domain} {l71 : List Api_Flood} : LoopOK Tryz.prog UU 0 119 (subC (codeOf Tryz.f39) [1, 1, 1, 1, 1, 0, 1, 0, 0]) (fun s : (List Api_Vrf) × Int => match s with | (l74, v75) => names_Copy_L4 l4 l7 l10 l13 l16 l19 l22 l25 l39 l55 l71 l74 v75)
    (fun s : (List Api_Vrf) × Int => (match s with | (l74, v75) => [(2, .op 0 1 0 0), (3, .op 9 1 0 0), (93, .j (l22.length : Int)), (94, .j v75)] : Fr DD)) (fun s : (List Api_Vrf) × Int => (match s with | (l74, v75) => [b0_k_names_Copy_L4, .n 56, .n 66, .n 93, .n 50, .n 95, .n 72, .n 75, .n 99, .box 31 [.os 10 l4.length, .os 11 l7.length, .os 12 l10.length, .os 13 l13.length, .os 14 l16.length, .os 15 l19.length, .os 16 l22.length, .os 17 l25.length] false, .w 56 l4, .arr 66 l39 l7.length false, .w 93 l10, .arr 50 l55 l13.length false, .w 95 l16, .arr 72 l71 l19.length false, .arr 75 l74 l22.length false, .w 99 l25] : Heap DD)) (fun r => match r with | l94 => .exit 6) (fun r => match r with | l94 => [(2, .op 0 1 0 0), (3, .op 9 1 0 0)]) (fun r => match r with | l94 => [b0_k_names_Copy_L4, .n 56, .n 66, .n 93, .n 50, .n 95, .n 72, .n 75, .n 99, .box 31 [.os 10 l4.length, .os 11 l7.length, .os 12 l10.length, .os 13 l13.length, .os 14 l16.length, .os 15 l19.length, .os 16 l22.length, .os 17 l25.length] false, .w 56 l4, .arr 66 l39 l7.length false, .w 93 l10, .arr 50 l55 l13.length false, .w 95 l16, .arr 72 l71 l19.length false, .arr 75 l94 l22.length false, .w 99 l25]) := by
  refine loop_sound3 (fun s q h => ?_) (fun r => ?_)
  · obtain ⟨l74, v75⟩ := s; replace h : names_Copy_L4 l4 l7 l10 l13 l16 l19 l22 l25 l39 l55 l71 l74 v75 = some q := h
    unfold names_Copy_L4 at h
    obtain ⟨h76, h⟩|⟨h76, h⟩ := ite_out h
    · obtain ⟨h77, h⟩|⟨h77, h⟩ := ite_out h
      · obtain ⟨x78, h79, h⟩ := bo h
        obtain ⟨l82, h81, h⟩ := bo h
        obtain ⟨x83, h84, h⟩ := bo h
        obtain ⟨l87, h86, h⟩ := bo h
        obtain ⟨x88, h89, h⟩ := bo h
        obtain ⟨x90, h91, h⟩ := bo h
        injection h with h; subst h; exact rl [2, 3, 93, 94] [0, 1, 2, 3, 4, 5, 6, 7, 8, 9, 10, 11, 12, 13, 14, 15, 16, 17] [.t, .sum [6] [] .nor [] [b0_k_names_Copy_L4, .n 56, .n 66, .n 93, .n 50, .n 95, .n 72, .n 75, .n 99, .box 31 [.os 10 l4.length, .os 11 l7.length, .os 12 l10.length, .os 13 l13.length, .os 14 l16.length, .os 15 l19.length, .os 16 l22.length, .os 17 l25.length] false, .w 56 l4, .arr 66 l39 l7.length false, .w 93 l10, .arr 50 l55 l13.length false, .w 95 l16, .arr 72 l71 l19.length false, .arr 75 l74 l22.length false, .w 99 l25, .w 3 l82], .sum [11] [] .nor [] [b0_k_names_Copy_L4, .n 56, .n 66, .n 93, .n 50, .n 95, .n 72, .n 75, .n 99, .box 31 [.os 10 l4.length, .os 11 l7.length, .os 12 l10.length, .os 13 l13.length, .os 14 l16.length, .os 15 l19.length, .os 16 l22.length, .os 17 l25.length] false, .w 56 l4, .arr 66 l39 l7.length false, .w 93 l10, .arr 50 l55 l13.length false, .w 95 l16, .arr 72 l71 l19.length false, .arr 75 l74 l22.length false, .w 99 l25, .w 3 l82, .w 3 l87], .sum [14] [] .nor [] [b0_k_names_Copy_L4, .n 56, .n 66, .n 93, .n 50, .n 95, .n 72, .n 75, .n 99, .box 31 [.os 10 l4.length, .os 11 l7.length, .os 12 l10.length, .os 13 l13.length, .os 14 l16.length, .os 15 l19.length, .os 16 l22.length, .os 17 l25.length] false, .w 56 l4, .arr 66 l39 l7.length false, .w 93 l10, .arr 50 l55 l13.length false, .w 95 l16, .arr 72 l71 l19.length false, .arr 75 (List.set l74 v75.toNat (⟨x88.row, x88.dev, x88.name, l82, x88.exports⟩ : Api_Vrf)) l22.length false, .w 99 l25, .wt 3 l82, .w 3 l87], .row (c75 x78), .callo (.os 0 l82.length) [.w 3 l82], .row (c75 x83), .callo (.os 0 l87.length) [.w 3 l87], .row (c75 x88), .obj [18] (.arr 75 (List.set l74 v75.toNat (⟨x88.row, x88.dev, x88.name, l82, x88.exports⟩ : Api_Vrf)) l22.length false), .row (c75 x90), .obj [19] (.arr 75 (List.set (List.set l74 v75.toNat (⟨x88.row, x88.dev, x88.name, l82, x88.exports⟩ : Api_Vrf)) v75.toNat (⟨x90.row, x90.dev, x90.name, x90.imports, l87⟩ : Api_Vrf)) l22.length false)] (pc h76<|pc (an l22.length (lin_ob h77))<|pd (rr (.op 16 l22.length v75.toNat 0))<|pd (rr (.op 16 l22.length v75.toNat 0))<|pc (rr (.op 16 l22.length v75.toNat 0))<|pd (rn l22.length)<|pc (an l22.length (obn75 h79))<|pc (rh [b0_k_names_Copy_L4, .n 56, .n 66, .n 93, .n 50, .n 95, .n 72, .n 75, .n 99, .box 31 [.os 10 l4.length, .os 11 l7.length, .os 12 l10.length, .os 13 l13.length, .os 14 l16.length, .os 15 l19.length, .os 16 l22.length, .os 17 l25.length] false, .w 56 l4, .arr 66 l39 l7.length false, .w 93 l10, .arr 50 l55 l13.length false, .w 95 l16, .arr 72 l71 l19.length false, .arr 75 l74 l22.length false, .w 99 l25, .w 3 l82])<|pc (k_slices_Clone_int h81)<|pc (im3 l82)<|pc (rr (.op 16 l22.length v75.toNat 0))<|pd (rn l22.length)<|pc (rr (.op 16 l22.length v75.toNat 0))<|pd (rn l22.length)<|pc (rr (.op 16 l22.length v75.toNat 4))<|pd (an l22.length (obn75 h84))<|pc (rr (.sl 3 x83.exports))<|pc (rh [b0_k_names_Copy_L4, .n 56, .n 66, .n 93, .n 50, .n 95, .n 72, .n 75, .n 99, .box 31 [.os 10 l4.length, .os 11 l7.length, .os 12 l10.length, .os 13 l13.length, .os 14 l16.length, .os 15 l19.length, .os 16 l22.length, .os 17 l25.length] false, .w 56 l4, .arr 66 l39 l7.length false, .w 93 l10, .arr 50 l55 l13.length false, .w 95 l16, .arr 72 l71 l19.length false, .arr 75 l74 l22.length false, .w 99 l25, .w 3 l82, .w 3 l87])<|pc (k_slices_Clone_int h86)<|pc (im3 l87)<|pd (rn l22.length)<|pc (rh [b0_k_names_Copy_L4, .n 56, .n 66, .n 93, .n 50, .n 95, .n 72, .n 75, .n 99, .box 31 [.os 10 l4.length, .os 11 l7.length, .os 12 l10.length, .os 13 l13.length, .os 14 l16.length, .os 15 l19.length, .os 16 l22.length, .os 17 l25.length] false, .w 56 l4, .arr 66 l39 l7.length false, .w 93 l10, .arr 50 l55 l13.length false, .w 95 l16, .arr 72 l71 l19.length false, .arr 75 (List.set l74 v75.toNat (⟨x88.row, x88.dev, x88.name, l82, x88.exports⟩ : Api_Vrf)) l22.length false, .w 99 l25, .wt 3 l82, .w 3 l87])<|pc (st_ob (e := 75) (n := l22.length) (l := l74) (i := v75.toNat) (⟨x88.row, x88.dev, x88.name, l82, x88.exports⟩ : Api_Vrf) [.v (.int .i64 x88.row), .v (.int .i64 x88.dev), .v (.string x88.name), .sl 3 l82, .sl 3 x88.exports] (obn75 h89) rfl)<|pc (rn l82.length)<|pd (rn l22.length)<|pc (st_ob (e := 75) (n := l22.length) (l := List.set l74 v75.toNat (⟨x88.row, x88.dev, x88.name, l82, x88.exports⟩ : Api_Vrf)) (i := v75.toNat) (⟨x90.row, x90.dev, x90.name, x90.imports, l87⟩ : Api_Vrf) [.v (.int .i64 x90.row), .v (.int .i64 x90.dev), .v (.string x90.name), .sl 3 x90.imports, .sl 3 l87] (obn75 h91) rfl)<|pc (rn l87.length)<|pn)
      · cases h
    · injection h with h; subst h; exact rl [2, 3] [0, 1, 2, 3, 4, 5, 6, 7, 8, 9, 10, 11, 12, 13, 14, 15, 16, 17] [.f] (pc h76<|pn)
  · exact Ex.noConfusion

def b0_k_names_Copy : AObj DD := .box 31 [.os 1 0, .os 2 0, .os 3 0, .os 4 0, .os 5 0, .os 6 0, .os 7 0, .os 8 0] false
theorem k_names_Copy {a1 : Api_Net} {r : ((List Api_Device) × (List Api_Port) × (List Api_Link) × (List Api_Domain) × (List Api_Static) × (List Api_Flood) × (List Api_Vrf) × (List Api_Irb) × Nat × Nat × Nat × Nat)} (h : names_Copy a1 = some r) :
    CallsOK Tryz.prog UU 39 [.agg (c31 a1)] [] ((fun r => match r with | (l97, l98, l99, l100, l101, l102, l103, l104, n105, n106, n107, n108) => .agg [.os 0 l97.length, .os 1 n105, .os 2 l99.length, .os 3 n106, .os 4 l101.length, .os 5 n107, .os 6 n108, .os 7 l104.length]) r) ((fun r => match r with | (l97, l98, l99, l100, l101, l102, l103, l104, n105, n106, n107, n108) => [.w 56 l97, .arr 66 l98 n105 false, .w 93 l99, .arr 50 l100 n106 false, .w 95 l101, .arr 72 l102 n107 false, .arr 75 l103 n108 false, .w 99 l104]) r) := by
  unfold names_Copy at h
  obtain ⟨l4, h3, h⟩ := bo h
  obtain ⟨l7, h6, h⟩ := bo h
  obtain ⟨l10, h9, h⟩ := bo h
  obtain ⟨l13, h12, h⟩ := bo h
  obtain ⟨l16, h15, h⟩ := bo h
  obtain ⟨l19, h18, h⟩ := bo h
  obtain ⟨l22, h21, h⟩ := bo h
  obtain ⟨l25, h24, h⟩ := bo h
  obtain ⟨l39, h40, h⟩ := bo h
  obtain ⟨l55, h56, h⟩ := bo h
  obtain ⟨l71, h72, h⟩ := bo h
  obtain ⟨l94, h95, h⟩ := bo h
  injection h with h; subst h; exact rf Tryz.func39 (some [10, 11, 12, 13, 14, 15, 16, 17]) [.sum [2] [] .nor [] [.box 31 (c31 a1) false, .n 56, .n 66, .n 93, .n 50, .n 95, .n 72, .n 75, .n 99, b0_k_names_Copy, .w 56 l4], .sum [5] [] .nor [] [.box 31 (c31 a1) false, .n 56, .n 66, .n 93, .n 50, .n 95, .n 72, .n 75, .n 99, b0_k_names_Copy, .w 56 l4, .w 66 l7], .sum [8] [] .nor [] [.box 31 (c31 a1) false, .n 56, .n 66, .n 93, .n 50, .n 95, .n 72, .n 75, .n 99, b0_k_names_Copy, .w 56 l4, .w 66 l7, .w 93 l10], .sum [11] [] .nor [] [.box 31 (c31 a1) false, .n 56, .n 66, .n 93, .n 50, .n 95, .n 72, .n 75, .n 99, b0_k_names_Copy, .w 56 l4, .w 66 l7, .w 93 l10, .w 50 l13], .sum [14] [] .nor [] [.box 31 (c31 a1) false, .n 56, .n 66, .n 93, .n 50, .n 95, .n 72, .n 75, .n 99, b0_k_names_Copy, .w 56 l4, .w 66 l7, .w 93 l10, .w 50 l13, .w 95 l16], .sum [17] [] .nor [] [.box 31 (c31 a1) false, .n 56, .n 66, .n 93, .n 50, .n 95, .n 72, .n 75, .n 99, b0_k_names_Copy, .w 56 l4, .w 66 l7, .w 93 l10, .w 50 l13, .w 95 l16, .w 72 l19], .sum [20] [] .nor [] [.box 31 (c31 a1) false, .n 56, .n 66, .n 93, .n 50, .n 95, .n 72, .n 75, .n 99, b0_k_names_Copy, .w 56 l4, .w 66 l7, .w 93 l10, .w 50 l13, .w 95 l16, .w 72 l19, .w 75 l22], .sum [23] [] .nor [] [.box 31 (c31 a1) false, .n 56, .n 66, .n 93, .n 50, .n 95, .n 72, .n 75, .n 99, b0_k_names_Copy, .w 56 l4, .w 66 l7, .w 93 l10, .w 50 l13, .w 95 l16, .w 72 l19, .w 75 l22, .w 99 l25], .callo (.os 0 l4.length) [.w 56 l4], .callm [] (.os 0 l7.length) [.w 66 l7], .callo (.os 0 l10.length) [.w 93 l10], .callm [] (.os 0 l13.length) [.w 50 l13], .callo (.os 0 l16.length) [.w 95 l16], .callm [] (.os 0 l19.length) [.w 72 l19], .callm [] (.os 0 l22.length) [.w 75 l22], .callo (.os 0 l25.length) [.w 99 l25], .sum [2, 3, 36, 37] [9, 1, 2, 3, 4, 5, 6, 7, 8, 26, 10, 11, 12, 13, 14, 15, 16, 17] (.exit 0) [(2, .op 0 1 0 0), (3, .op 9 1 0 0)] [b0_k_names_Copy, .n 56, .n 66, .n 93, .n 50, .n 95, .n 72, .n 75, .n 99, .box 31 [.os 10 l4.length, .os 11 l7.length, .os 12 l10.length, .os 13 l13.length, .os 14 l16.length, .os 15 l19.length, .os 16 l22.length, .os 17 l25.length] false, .w 56 l4, .arr 66 l39 l7.length false, .w 93 l10, .w 50 l13, .w 95 l16, .w 72 l19, .w 75 l22, .w 99 l25], .sum [2, 3, 55, 56] [0, 1, 2, 3, 4, 5, 6, 7, 8, 9, 10, 11, 12, 13, 14, 15, 16, 17] (.exit 2) [(2, .op 0 1 0 0), (3, .op 9 1 0 0)] [b0_k_names_Copy, .n 56, .n 66, .n 93, .n 50, .n 95, .n 72, .n 75, .n 99, .box 31 [.os 10 l4.length, .os 11 l7.length, .os 12 l10.length, .os 13 l13.length, .os 14 l16.length, .os 15 l19.length, .os 16 l22.length, .os 17 l25.length] false, .w 56 l4, .arr 66 l39 l7.length false, .w 93 l10, .arr 50 l55 l13.length false, .w 95 l16, .w 72 l19, .w 75 l22, .w 99 l25], .sum [2, 3, 74, 75] [0, 1, 2, 3, 4, 5, 6, 7, 8, 9, 10, 11, 12, 13, 14, 15, 16, 17] (.exit 4) [(2, .op 0 1 0 0), (3, .op 9 1 0 0)] [b0_k_names_Copy, .n 56, .n 66, .n 93, .n 50, .n 95, .n 72, .n 75, .n 99, .box 31 [.os 10 l4.length, .os 11 l7.length, .os 12 l10.length, .os 13 l13.length, .os 14 l16.length, .os 15 l19.length, .os 16 l22.length, .os 17 l25.length] false, .w 56 l4, .arr 66 l39 l7.length false, .w 93 l10, .arr 50 l55 l13.length false, .w 95 l16, .arr 72 l71 l19.length false, .w 75 l22, .w 99 l25], .sum [2, 3, 93, 94] [0, 1, 2, 3, 4, 5, 6, 7, 8, 9, 10, 11, 12, 13, 14, 15, 16, 17] (.exit 6) [(2, .op 0 1 0 0), (3, .op 9 1 0 0)] [b0_k_names_Copy, .n 56, .n 66, .n 93, .n 50, .n 95, .n 72, .n 75, .n 99, .box 31 [.os 10 l4.length, .os 11 l7.length, .os 12 l10.length, .os 13 l13.length, .os 14 l16.length, .os 15 l19.length, .os 16 l22.length, .os 17 l25.length] false, .w 56 l4, .arr 66 l39 l7.length false, .w 93 l10, .arr 50 l55 l13.length false, .w 95 l16, .arr 72 l71 l19.length false, .arr 75 l94 l22.length false, .w 99 l25]] (pc (rh [.box 31 (c31 a1) false, .n 56, .n 66, .n 93, .n 50, .n 95, .n 72, .n 75, .n 99, b0_k_names_Copy, .w 56 l4])<|pc (k_slices_Clone_Device h3)<|pc (im56 l4)<|pc (rr (.op 0 1 0 1))<|pc (rr (.sl 66 a1.ports))<|pc (rh [.box 31 (c31 a1) false, .n 56, .n 66, .n 93, .n 50, .n 95, .n 72, .n 75, .n 99, b0_k_names_Copy, .w 56 l4, .w 66 l7])<|pc (k_slices_Clone_Port h6)<|pd (rr (.op 0 1 0 2))<|pd (rr (.sl 93 a1.links))<|pc (rh [.box 31 (c31 a1) false, .n 56, .n 66, .n 93, .n 50, .n 95, .n 72, .n 75, .n 99, b0_k_names_Copy, .w 56 l4, .w 66 l7, .w 93 l10])<|pc (k_slices_Clone_Link h9)<|pc (im93 l10)<|pd (rr (.op 0 1 0 3))<|pc (rr (.op 0 1 0 3))<|pd (rr (.sl 50 a1.domains))<|pc (rr (.sl 50 a1.domains))<|pc (rh [.box 31 (c31 a1) false, .n 56, .n 66, .n 93, .n 50, .n 95, .n 72, .n 75, .n 99, b0_k_names_Copy, .w 56 l4, .w 66 l7, .w 93 l10, .w 50 l13])<|pc (k_slices_Clone_Domain h12)<|pd (rr (.op 0 1 0 4))<|pd (rr (.op 0 1 0 4))<|pd (rr (.sl 95 a1.statics))<|pd (rr (.sl 95 a1.statics))<|pc (rh [.box 31 (c31 a1) false, .n 56, .n 66, .n 93, .n 50, .n 95, .n 72, .n 75, .n 99, b0_k_names_Copy, .w 56 l4, .w 66 l7, .w 93 l10, .w 50 l13, .w 95 l16])<|pc (k_slices_Clone_Static h15)<|pc (im95 l16)<|pd (rr (.op 0 1 0 5))<|pd (rr (.op 0 1 0 5))<|pc (rr (.op 0 1 0 5))<|pd (rr (.sl 72 a1.floods))<|pd (rr (.sl 72 a1.floods))<|pc (rr (.sl 72 a1.floods))<|pc (rh [.box 31 (c31 a1) false, .n 56, .n 66, .n 93, .n 50, .n 95, .n 72, .n 75, .n 99, b0_k_names_Copy, .w 56 l4, .w 66 l7, .w 93 l10, .w 50 l13, .w 95 l16, .w 72 l19])<|pc (k_slices_Clone_Flood h18)<|pd (rr (.op 0 1 0 6))<|pd (rr (.op 0 1 0 6))<|pd (rr (.op 0 1 0 6))<|pd (rr (.sl 75 a1.vrfs))<|pd (rr (.sl 75 a1.vrfs))<|pd (rr (.sl 75 a1.vrfs))<|pc (rh [.box 31 (c31 a1) false, .n 56, .n 66, .n 93, .n 50, .n 95, .n 72, .n 75, .n 99, b0_k_names_Copy, .w 56 l4, .w 66 l7, .w 93 l10, .w 50 l13, .w 95 l16, .w 72 l19, .w 75 l22])<|pc (k_slices_Clone_Vrf h21)<|pd (rr (.op 0 1 0 7))<|pd (rr (.op 0 1 0 7))<|pd (rr (.op 0 1 0 7))<|pc (rr (.op 0 1 0 7))<|pd (rr (.sl 99 a1.irbs))<|pd (rr (.sl 99 a1.irbs))<|pd (rr (.sl 99 a1.irbs))<|pc (rr (.sl 99 a1.irbs))<|pc (rh [.box 31 (c31 a1) false, .n 56, .n 66, .n 93, .n 50, .n 95, .n 72, .n 75, .n 99, b0_k_names_Copy, .w 56 l4, .w 66 l7, .w 93 l10, .w 50 l13, .w 95 l16, .w 72 l19, .w 75 l22, .w 99 l25])<|pc (k_slices_Clone_Irb h24)<|pc (im99 l25)<|pc (rn l7.length)<|pc (k_names_Copy_L1 _ _ h40)<|pc (rn l13.length)<|pc (k_names_Copy_L2 _ _ h56)<|pc (rn l19.length)<|pc (k_names_Copy_L3 _ _ h72)<|pc (rn l22.length)<|pc (k_names_Copy_L4 _ _ h95)<|pn)

theorem k_ports_begin {a1 : Api_Net} {a2 : Api_Line} {a3 : Int} {r : (Unit) ⊕ ((List Api_Device) × (List Api_Port) × (List Api_Link) × (List Api_Domain) × (List Api_Static) × (List Api_Flood) × (List Api_Vrf) × (List Api_Irb) × Nat × Nat × Nat × Nat)} (h : ports_begin a1 a2 a3 = some r) :
    CallsOK Tryz.prog UU 21 [.agg (c31 a1), .agg (c37 a2), .j a3] [] ((fun r => match r with | Sum.inl () => .tup [.v (.pointer none), .v (.bool false)] | Sum.inr (l25, l26, l27, l28, l29, l30, l31, l32, n33, n34, n35, n36) => .tup [.op 0 1 0 0, .v (.bool true)]) r) ((fun r => match r with | Sum.inl () => [] | Sum.inr (l25, l26, l27, l28, l29, l30, l31, l32, n33, n34, n35, n36) => [.box 58 [.os 1 l25.length, .os 2 n33, .os 3 l27.length, .os 4 n34, .os 5 l29.length, .os 6 n35, .os 7 n36, .os 8 l32.length] false, .w 56 l25, .arr 66 l26 n33 false, .w 93 l27, .arr 50 l28 n34 false, .w 95 l29, .arr 72 l30 n35 false, .arr 75 l31 n36 false, .w 99 l32]) r) := by
  unfold ports_begin at h
  obtain ⟨h4, h⟩|⟨h4, h⟩ := ite_out h
  · injection h with h; subst h; exact rf Tryz.func21 (some []) [.t] (pc h4<|pn)
  · obtain ⟨r5, h6, h⟩ := bo h
    obtain ⟨h7, h⟩|⟨h7, h⟩ := ite_out h
    · injection h with h; subst h; exact rf Tryz.func21 (some []) [.f, .b r5, .t] (pc h4<|pc (k_stmt_Right h6)<|pc h7<|pn)
    · obtain ⟨r8, h9, h⟩ := bo h
      obtain ⟨h10, h⟩|⟨h10, h⟩ := ite_out h
      · injection h with h; subst h; exact rf Tryz.func21 (some []) [.f, .b r5, .f, .b r8, .t] (pc h4<|pc (k_stmt_Right h6)<|pc h7<|pc (k_names_Right h9)<|pc h10<|pn)
      · obtain ⟨r11, h12, h⟩ := bo h
        obtain ⟨l13, l14, l15, l16, l17, l18, l19, l20, n21, n22, n23, n24⟩ := r11
        injection h with h; subst h; exact rf Tryz.func21 (some [10, 2, 3, 4, 5, 6, 7, 8, 9]) [.f, .b r5, .f, .b r8, .f, .callm [] (.agg [.os 0 l13.length, .os 1 n21, .os 2 l15.length, .os 3 n22, .os 4 l17.length, .os 5 n23, .os 6 n24, .os 7 l20.length]) [.w 56 l13, .arr 66 l14 n21 false, .w 93 l15, .arr 50 l16 n22 false, .w 95 l17, .arr 72 l18 n23 false, .arr 75 l19 n24 false, .w 99 l20]] (pc h4<|pc (k_stmt_Right h6)<|pc h7<|pc (k_names_Right h9)<|pc h10<|pc (k_names_Copy h12)<|pn)

theorem k_ports_Device_1 {a1 : Api_Device} {a2 : Api_Line} {r : Bool} (h : ports_Device_1 a1 a2 = some r) :
    CallsOK Tryz.prog UU 23 [.agg (c56 a1), .rp (c37 a2) 0] [] (.v (.bool r)) [] := by
  unfold ports_Device_1 at h
  obtain ⟨h3, h⟩|⟨h3, h⟩ := ite_out h
  · injection h with h; subst h; exact rf Tryz.func23 none [.t] (pc h3<|pn)
  · injection h with h; subst h; exact rf Tryz.func23 none [.f] (pc h3<|pn)

theorem k_slices_IndexFunc_Device_Device_1_L1 {a1 : List Api_Device} {a2 : Api_Line} : LoopOK Tryz.prog UU 0 19 (subC (codeOf Tryz.f52) [1, 0, 1, 0, 0]) (ρ := Int ⊕ Unit) (slices_IndexFunc_Device_Device_1_L1 a1 a2)
    (fun v3 : Int => ([(0, .sl 56 a1), (1, .fn (.func 23) [] [.rp (c37 a2) 0]), (4, .z), (7, .j (a1.length : Int)), (8, .j v3)] : Fr DD)) (fun v3 : Int => ([] : Heap DD)) (fun r => match r with | Sum.inl v11 => .ret | Sum.inr _ => .exit 0) (fun r => match r with | Sum.inl v11 => [(4, .j v11)] | Sum.inr _ => [(4, .z)]) (fun r => match r with | Sum.inl v11 => [] | Sum.inr _ => []) := by
  refine loop_sound3 (fun s q h => ?_) (fun r => ?_)
  · replace h : slices_IndexFunc_Device_Device_1_L1 a1 a2 s = some q := h; revert h; revert s; intro v3 h
    unfold slices_IndexFunc_Device_Device_1_L1 at h
    obtain ⟨h4, h⟩|⟨h4, h⟩ := ite_out h
    · obtain ⟨x5, h6, h⟩ := bo h
      obtain ⟨r7, h8, h⟩ := bo h
      obtain ⟨h9, h⟩|⟨h9, h⟩ := ite_out h
      · injection h with h; subst h; exact rl [4] [] [.t, .row (c56 x5), .b r7, .t] (pc h4<|pc (ob56 h6)<|pc (k_ports_Device_1 h8)<|pc h9<|pn)
      · injection h with h; subst h; exact rl [0, 1, 4, 7, 8] [] [.t, .row (c56 x5), .b r7, .f] (pc h4<|pc (ob56 h6)<|pc (k_ports_Device_1 h8)<|pc h9<|pn)
    · injection h with h; subst h; exact rl [4] [] [.f] (pc h4<|pn)
  · rcases r with _ | _ <;> exact Ex.noConfusion

theorem k_slices_IndexFunc_Device_Device_1 {a1 : List Api_Device} {a2 : Api_Line} {r : Int} (h : slices_IndexFunc_Device_Device_1 a1 a2 = some r) :
    CallsOK Tryz.prog UU 52 [.sl 56 a1, .fn (.func 23) [] [.rp (c37 a2) 0]] [] (.j r) [] := by
  unfold slices_IndexFunc_Device_Device_1 at h
  obtain ⟨r13, h12, h⟩ := bo h
  rcases r13 with v11 | _
  · injection h with h; subst h; exact rf Tryz.func52 none [.sum [0, 1, 4, 7, 8] [] .ret [(4, .j v11)] []] (pc (k_slices_IndexFunc_Device_Device_1_L1 _ _ h12)<|pn)
  · injection h with h; subst h; exact rf Tryz.func52 none [.sum [0, 1, 4, 7, 8] [] (.exit 0) [(4, .z)] []] (pc (k_slices_IndexFunc_Device_Device_1_L1 _ _ h12)<|pn)

theorem k_slices_ContainsFunc_Device_Device_1 {a1 : List Api_Device} {a2 : Api_Line} {r : Bool} (h : slices_ContainsFunc_Device_Device_1 a1 a2 = some r) :
    CallsOK Tryz.prog UU 22 [.sl 56 a1, .fn (.func 23) [] [.rp (c37 a2) 0]] [] (.v (.bool r)) [] := by
  unfold slices_ContainsFunc_Device_Device_1 at h
  obtain ⟨r3, h4, h⟩ := bo h
  injection h with h; subst h; exact rf Tryz.func22 none [.callv (.j r3)] (pc (k_slices_IndexFunc_Device_Device_1 h4)<|pn)

def b0_k_ports_Device : AObj DD := .box 31 [.os 2 0, .os 3 0, .os 4 0, .os 5 0, .os 6 0, .os 7 0, .os 8 0, .os 9 0] false
theorem k_ports_Device {a1 : Api_Net} {a2 : Api_Line} {r : ((List Api_Device) × (List Api_Port) × (List Api_Link) × (List Api_Domain) × (List Api_Static) × (List Api_Flood) × (List Api_Vrf) × (List Api_Irb) × Nat × Nat × Nat × Nat × Int)} (h : ports_Device a1 a2 = some r) :
    CallsOK Tryz.prog UU 7 [.agg (c31 a1), .agg (c37 a2)] [] ((fun r => match r with | (l36, l37, l38, l39, l40, l41, l42, l43, n44, n45, n46, n47, v48) => .tup [.agg [.os 0 l36.length, .os 1 n44, .os 2 l38.length, .os 3 n45, .os 4 l40.length, .os 5 n46, .os 6 n47, .os 7 l43.length], .j v48]) r) ((fun r => match r with | (l36, l37, l38, l39, l40, l41, l42, l43, n44, n45, n46, n47, v48) => [.w 56 l36, .arr 66 l37 n44 false, .w 93 l38, .arr 50 l39 n45 false, .w 95 l40, .arr 72 l41 n46 false, .arr 75 l42 n47 false, .w 99 l43]) r) := by
  unfold ports_Device at h
  obtain ⟨r17, h18, h⟩ := bo h
  rcases r17 with _ | ⟨l19, l20, l21, l22, l23, l24, l25, l26, n27, n28, n29, n30⟩
  · injection h with h; subst h; exact rf Tryz.func7 (some [11, 12, 13, 14, 15, 16, 17, 18]) [.callm [] (.tup [.v (.pointer none), .v (.bool false)]) [], .t] (pc (k_ports_begin h18)<|pc (rfl : (!false) = true)<|pn)
  · obtain ⟨r31, h32, h⟩ := bo h
    obtain ⟨h33, h⟩|⟨h33, h⟩ := ite_out h
    · injection h with h; subst h; exact rf Tryz.func7 (some [20, 21, 22, 23, 24, 25, 26, 27]) [.callm [] (.tup [.op 0 1 0 0, .v (.bool true)]) [.box 58 [.os 1 l19.length, .os 2 n27, .os 3 l21.length, .os 4 n28, .os 5 l23.length, .os 6 n29, .os 7 n30, .os 8 l26.length] false, .w 56 l19, .arr 66 l20 n27 false, .w 93 l21, .arr 50 l22 n28 false, .w 95 l23, .arr 72 l24 n29 false, .arr 75 l25 n30 false, .w 99 l26], .f, .b r31, .t] (pc (k_ports_begin h18)<|pc (rfl : (!true) = false)<|pc (k_slices_ContainsFunc_Device_Device_1 h32)<|pc (rn l19.length)<|pc h33<|pn)
    · obtain ⟨h34, h⟩|⟨h34, h⟩ := ite_out h
      · injection h with h; subst h; exact rf Tryz.func7 (some [20, 21, 22, 23, 24, 25, 26, 27]) [.callm [] (.tup [.op 0 1 0 0, .v (.bool true)]) [.box 58 [.os 1 l19.length, .os 2 n27, .os 3 l21.length, .os 4 n28, .os 5 l23.length, .os 6 n29, .os 7 n30, .os 8 l26.length] false, .w 56 l19, .arr 66 l20 n27 false, .w 93 l21, .arr 50 l22 n28 false, .w 95 l23, .arr 72 l24 n29 false, .arr 75 l25 n30 false, .w 99 l26], .f, .b r31, .f, .t] (pc (k_ports_begin h18)<|pc (rfl : (!true) = false)<|pc (k_slices_ContainsFunc_Device_Device_1 h32)<|pc (rn l19.length)<|pc h33<|pc (rn l19.length)<|pc h34<|pn)
      · obtain ⟨h35, h⟩|⟨h35, h⟩ := ite_out h
        · injection h with h; subst h; exact rf Tryz.func7 (some [12, 13, 14, 15, 16, 17, 18, 19]) [.callm [] (.tup [.op 0 1 0 0, .v (.bool true)]) [.box 58 [.os 1 l19.length, .os 2 n27, .os 3 l21.length, .os 4 n28, .os 5 l23.length, .os 6 n29, .os 7 n30, .os 8 l26.length] false, .w 56 l19, .arr 66 l20 n27 false, .w 93 l21, .arr 50 l22 n28 false, .w 95 l23, .arr 72 l24 n29 false, .arr 75 l25 n30 false, .w 99 l26], .f, .b r31, .f, .f, .sum [16] [] .nor [] [.box 31 (c31 a1) false, .box 37 (c37 a2) false, .n 56, .n 66, .n 93, .n 50, .n 95, .n 72, .n 75, .n 99, b0_k_ports_Device, .box 58 [.os 12 l19.length, .os 13 n27, .os 14 l21.length, .os 15 n28, .os 16 l23.length, .os 17 n29, .os 18 n30, .os 19 l26.length] false, .w 56 (l19 ++ [(⟨a2.row, a2.num, a2.dev, a2.mac, 0⟩ : Api_Device)]), .arr 66 l20 n27 false, .w 93 l21, .arr 50 l22 n28 false, .w 95 l23, .arr 72 l24 n29 false, .arr 75 l25 n30 false, .w 99 l26], .obj [] (.w 56 [(⟨a2.row, a2.num, a2.dev, a2.mac, 0⟩ : Api_Device)]), .obj [] (.w 56 (l19 ++ [(⟨a2.row, a2.num, a2.dev, a2.mac, 0⟩ : Api_Device)]))] (pc (k_ports_begin h18)<|pc (rfl : (!true) = false)<|pc (k_slices_ContainsFunc_Device_Device_1 h32)<|pc (rn l19.length)<|pc h33<|pc (rn l19.length)<|pc h34<|pc (rr (.op 11 1 0 0))<|pc (bs_ob 56 [(⟨a2.row, a2.num, a2.dev, a2.mac, 0⟩ : Api_Device)])<|pc (rh [.box 31 (c31 a1) false, .box 37 (c37 a2) false, .n 56, .n 66, .n 93, .n 50, .n 95, .n 72, .n 75, .n 99, b0_k_ports_Device, .box 58 [.os 12 l19.length, .os 13 n27, .os 14 l21.length, .os 15 n28, .os 16 l23.length, .os 17 n29, .os 18 n30, .os 19 l26.length] false, .w 56 (l19 ++ [(⟨a2.row, a2.num, a2.dev, a2.mac, 0⟩ : Api_Device)]), .arr 66 l20 n27 false, .w 93 l21, .arr 50 l22 n28 false, .w 95 l23, .arr 72 l24 n29 false, .arr 75 l25 n30 false, .w 99 l26])<|pc (app_ob 56 (n := l19.length) (l := l19) (xs := [(⟨a2.row, a2.num, a2.dev, a2.mac, 0⟩ : Api_Device)]) h35)<|pn)
        · cases h

theorem k_names_Device_1 {a1 : Api_Device} {a2 : ByteArray} {r : Bool} (h : names_Device_1 a1 a2 = some r) :
    CallsOK Tryz.prog UU 56 [.agg (c56 a1), .rp (c9 a2) 0] [] (.v (.bool r)) [] := by
  unfold names_Device_1 at h
  injection h with h; subst h; exact rf Tryz.func56 none [] (pn)

theorem k_slices_IndexFunc_Device_Device_1x_L1 {a1 : List Api_Device} {a2 : ByteArray} : LoopOK Tryz.prog UU 0 19 (subC (codeOf Tryz.f52) [1, 0, 1, 0, 0]) (ρ := Int ⊕ Unit) (slices_IndexFunc_Device_Device_1x_L1 a1 a2)
    (fun v3 : Int => ([(0, .sl 56 a1), (1, .fn (.func 56) [] [.rp (c9 a2) 0]), (4, .z), (7, .j (a1.length : Int)), (8, .j v3)] : Fr DD)) (fun v3 : Int => ([] : Heap DD)) (fun r => match r with | Sum.inl v11 => .ret | Sum.inr _ => .exit 0) (fun r => match r with | Sum.inl v11 => [(4, .j v11)] | Sum.inr _ => [(4, .z)]) (fun r => match r with | Sum.inl v11 => [] | Sum.inr _ => []) := by
  refine loop_sound3 (fun s q h => ?_) (fun r => ?_)
  · replace h : slices_IndexFunc_Device_Device_1x_L1 a1 a2 s = some q := h; revert h; revert s; intro v3 h
    unfold slices_IndexFunc_Device_Device_1x_L1 at h
    obtain ⟨h4, h⟩|⟨h4, h⟩ := ite_out h
    · obtain ⟨x5, h6, h⟩ := bo h
      obtain ⟨r7, h8, h⟩ := bo h
      obtain ⟨h9, h⟩|⟨h9, h⟩ := ite_out h
      · injection h with h; subst h; exact rl [4] [] [.t, .row (c56 x5), .b r7, .t] (pc h4<|pc (ob56 h6)<|pc (k_names_Device_1 h8)<|pc h9<|pn)
      · injection h with h; subst h; exact rl [0, 1, 4, 7, 8] [] [.t, .row (c56 x5), .b r7, .f] (pc h4<|pc (ob56 h6)<|pc (k_names_Device_1 h8)<|pc h9<|pn)
    · injection h with h; subst h; exact rl [4] [] [.f] (pc h4<|pn)
  · rcases r with _ | _ <;> exact Ex.noConfusion

theorem k_slices_IndexFunc_Device_Device_1x {a1 : List Api_Device} {a2 : ByteArray} {r : Int} (h : slices_IndexFunc_Device_Device_1x a1 a2 = some r) :
    CallsOK Tryz.prog UU 52 [.sl 56 a1, .fn (.func 56) [] [.rp (c9 a2) 0]] [] (.j r) [] := by
  unfold slices_IndexFunc_Device_Device_1x at h
  obtain ⟨r13, h12, h⟩ := bo h
  rcases r13 with v11 | _
  · injection h with h; subst h; exact rf Tryz.func52 none [.sum [0, 1, 4, 7, 8] [] .ret [(4, .j v11)] []] (pc (k_slices_IndexFunc_Device_Device_1x_L1 _ _ h12)<|pn)
  · injection h with h; subst h; exact rf Tryz.func52 none [.sum [0, 1, 4, 7, 8] [] (.exit 0) [(4, .z)] []] (pc (k_slices_IndexFunc_Device_Device_1x_L1 _ _ h12)<|pn)

theorem k_names_find_Device_Device_1 {a1 : Api_Net} {a2 : List Api_Device} {a3 : ByteArray} {r : Int} (h : names_find_Device_Device_1 a1 a2 a3 = some r) :
    CallsOK Tryz.prog UU 55 [.agg (c31 a1), .sl 56 a2, .fn (.func 56) [] [.rp (c9 a3) 0]] [] (.j r) [] := by
  unfold names_find_Device_Device_1 at h
  obtain ⟨r4, h5, h⟩ := bo h
  obtain ⟨h6, h⟩|⟨h6, h⟩ := ite_out h
  · injection h with h; subst h; exact rf Tryz.func55 none [.b r4, .t] (pc (k_names_Right h5)<|pc h6<|pn)
  · obtain ⟨r7, h8, h⟩ := bo h
    injection h with h; subst h; exact rf Tryz.func55 none [.b r4, .f, .callv (.j r7)] (pc (k_names_Right h5)<|pc h6<|pc (k_slices_IndexFunc_Device_Device_1x h8)<|pn)

theorem k_names_Device {a1 : Api_Net} {a2 : ByteArray} {r : Int} (h : names_Device a1 a2 = some r) :
    CallsOK Tryz.prog UU 26 [.agg (c31 a1), .v (.string a2)] [] (.j r) [] := by
  unfold names_Device at h
  obtain ⟨r3, h4, h⟩ := bo h
  injection h with h; subst h; exact rf Tryz.func26 none [.callv (.j r3)] (pc (k_names_find_Device_Device_1 h4)<|pn)

theorem k_names_Port_1 {a1 : Api_Port} {a2 : Int} {a3 : ByteArray} {r : Bool} (h : names_Port_1 a1 a2 a3 = some r) :
    CallsOK Tryz.prog UU 58 [.agg (c66 a1), .rp (c3 a2) 0, .rp (c9 a3) 0] [] (.v (.bool r)) [] := by
  unfold names_Port_1 at h
  obtain ⟨h4, h⟩|⟨h4, h⟩ := ite_out h
  · injection h with h; subst h; exact rf Tryz.func58 none [.t] (pc h4<|pn)
  · injection h with h; subst h; exact rf Tryz.func58 none [.f] (pc h4<|pn)

theorem k_slices_IndexFunc_Port_Port_1_L1 {a1 : List Api_Port} {a2 : Int} {a3 : ByteArray} : LoopOK Tryz.prog UU 0 19 (subC (codeOf Tryz.f106) [1, 0, 1, 0, 0]) (ρ := Int ⊕ Unit) (slices_IndexFunc_Port_Port_1_L1 a1 a2 a3)
    (fun v4 : Int => ([(0, .sl 66 a1), (1, .fn (.func 58) [] [.rp (c3 a2) 0, .rp (c9 a3) 0]), (4, .z), (7, .j (a1.length : Int)), (8, .j v4)] : Fr DD)) (fun v4 : Int => ([] : Heap DD)) (fun r => match r with | Sum.inl v12 => .ret | Sum.inr _ => .exit 0) (fun r => match r with | Sum.inl v12 => [(4, .j v12)] | Sum.inr _ => [(4, .z)]) (fun r => match r with | Sum.inl v12 => [] | Sum.inr _ => []) := by
  refine loop_sound3 (fun s q h => ?_) (fun r => ?_)
  · replace h : slices_IndexFunc_Port_Port_1_L1 a1 a2 a3 s = some q := h; revert h; revert s; intro v4 h
    unfold slices_IndexFunc_Port_Port_1_L1 at h
    obtain ⟨h5, h⟩|⟨h5, h⟩ := ite_out h
    · obtain ⟨x6, h7, h⟩ := bo h
      obtain ⟨r8, h9, h⟩ := bo h
      obtain ⟨h10, h⟩|⟨h10, h⟩ := ite_out h
      · injection h with h; subst h; exact rl [4] [] [.t, .row (c66 x6), .b r8, .t] (pc h5<|pc (ob66 h7)<|pc (k_names_Port_1 h9)<|pc h10<|pn)
      · injection h with h; subst h; exact rl [0, 1, 4, 7, 8] [] [.t, .row (c66 x6), .b r8, .f] (pc h5<|pc (ob66 h7)<|pc (k_names_Port_1 h9)<|pc h10<|pn)
    · injection h with h; subst h; exact rl [4] [] [.f] (pc h5<|pn)
  · rcases r with _ | _ <;> exact Ex.noConfusion

theorem k_slices_IndexFunc_Port_Port_1 {a1 : List Api_Port} {a2 : Int} {a3 : ByteArray} {r : Int} (h : slices_IndexFunc_Port_Port_1 a1 a2 a3 = some r) :
    CallsOK Tryz.prog UU 106 [.sl 66 a1, .fn (.func 58) [] [.rp (c3 a2) 0, .rp (c9 a3) 0]] [] (.j r) [] := by
  unfold slices_IndexFunc_Port_Port_1 at h
  obtain ⟨r14, h13, h⟩ := bo h
  rcases r14 with v12 | _
  · injection h with h; subst h; exact rf Tryz.func106 none [.sum [0, 1, 4, 7, 8] [] .ret [(4, .j v12)] []] (pc (k_slices_IndexFunc_Port_Port_1_L1 _ _ h13)<|pn)
  · injection h with h; subst h; exact rf Tryz.func106 none [.sum [0, 1, 4, 7, 8] [] (.exit 0) [(4, .z)] []] (pc (k_slices_IndexFunc_Port_Port_1_L1 _ _ h13)<|pn)

theorem k_names_find_Port_Port_1 {a1 : Api_Net} {a2 : List Api_Port} {a3 : Int} {a4 : ByteArray} {r : Int} (h : names_find_Port_Port_1 a1 a2 a3 a4 = some r) :
    CallsOK Tryz.prog UU 57 [.agg (c31 a1), .sl 66 a2, .fn (.func 58) [] [.rp (c3 a3) 0, .rp (c9 a4) 0]] [] (.j r) [] := by
  unfold names_find_Port_Port_1 at h
  obtain ⟨r5, h6, h⟩ := bo h
  obtain ⟨h7, h⟩|⟨h7, h⟩ := ite_out h
  · injection h with h; subst h; exact rf Tryz.func57 none [.b r5, .t] (pc (k_names_Right h6)<|pc h7<|pn)
  · obtain ⟨r8, h9, h⟩ := bo h
    injection h with h; subst h; exact rf Tryz.func57 none [.b r5, .f, .callv (.j r8)] (pc (k_names_Right h6)<|pc h7<|pc (k_slices_IndexFunc_Port_Port_1 h9)<|pn)

theorem k_names_Port {a1 : Api_Net} {a2 : Int} {a3 : ByteArray} {r : Int} (h : names_Port a1 a2 a3 = some r) :
    CallsOK Tryz.prog UU 27 [.agg (c31 a1), .j a2, .v (.string a3)] [] (.j r) [] := by
  unfold names_Port at h
  obtain ⟨r4, h5, h⟩ := bo h
  injection h with h; subst h; exact rf Tryz.func27 none [.callv (.j r4)] (pc (k_names_find_Port_Port_1 h5)<|pn)

theorem k_ports_draft_domain_1 {a1 : Api_Domain} {a2 : Int} {a3 : Int} {r : Bool} (h : ports_draft_domain_1 a1 a2 a3 = some r) :
    CallsOK Tryz.prog UU 60 [.agg (c50 a1), .rp (c3 a2) 0, .rp (c3 a3) 0] [] (.v (.bool r)) [] := by
  unfold ports_draft_domain_1 at h
  obtain ⟨h4, h⟩|⟨h4, h⟩ := ite_out h
  · injection h with h; subst h; exact rf Tryz.func60 none [.t] (pc h4<|pn)
  · injection h with h; subst h; exact rf Tryz.func60 none [.f] (pc h4<|pn)

theorem k_slices_IndexFunc_Domain_draft_domain_1_L1 {a1 : List Api_Domain} {a2 : Int} {a3 : Int} : LoopOK Tryz.prog UU 0 19 (subC (codeOf Tryz.f73) [1, 0, 1, 0, 0]) (ρ := Int ⊕ Unit) (slices_IndexFunc_Domain_draft_domain_1_L1 a1 a2 a3)
    (fun v4 : Int => ([(0, .sl 50 a1), (1, .fn (.func 60) [] [.rp (c3 a2) 0, .rp (c3 a3) 0]), (4, .z), (7, .j (a1.length : Int)), (8, .j v4)] : Fr DD)) (fun v4 : Int => ([] : Heap DD)) (fun r => match r with | Sum.inl v12 => .ret | Sum.inr _ => .exit 0) (fun r => match r with | Sum.inl v12 => [(4, .j v12)] | Sum.inr _ => [(4, .z)]) (fun r => match r with | Sum.inl v12 => [] | Sum.inr _ => []) := by
  refine loop_sound3 (fun s q h => ?_) (fun r => ?_)
  · replace h : slices_IndexFunc_Domain_draft_domain_1_L1 a1 a2 a3 s = some q := h; revert h; revert s; intro v4 h
    unfold slices_IndexFunc_Domain_draft_domain_1_L1 at h
    obtain ⟨h5, h⟩|⟨h5, h⟩ := ite_out h
    · obtain ⟨x6, h7, h⟩ := bo h
      obtain ⟨r8, h9, h⟩ := bo h
      obtain ⟨h10, h⟩|⟨h10, h⟩ := ite_out h
      · injection h with h; subst h; exact rl [4] [] [.t, .row (c50 x6), .b r8, .t] (pc h5<|pc (ob50 h7)<|pc (k_ports_draft_domain_1 h9)<|pc h10<|pn)
      · injection h with h; subst h; exact rl [0, 1, 4, 7, 8] [] [.t, .row (c50 x6), .b r8, .f] (pc h5<|pc (ob50 h7)<|pc (k_ports_draft_domain_1 h9)<|pc h10<|pn)
    · injection h with h; subst h; exact rl [4] [] [.f] (pc h5<|pn)
  · rcases r with _ | _ <;> exact Ex.noConfusion

theorem k_slices_IndexFunc_Domain_draft_domain_1 {a1 : List Api_Domain} {a2 : Int} {a3 : Int} {r : Int} (h : slices_IndexFunc_Domain_draft_domain_1 a1 a2 a3 = some r) :
    CallsOK Tryz.prog UU 73 [.sl 50 a1, .fn (.func 60) [] [.rp (c3 a2) 0, .rp (c3 a3) 0]] [] (.j r) [] := by
  unfold slices_IndexFunc_Domain_draft_domain_1 at h
  obtain ⟨r14, h13, h⟩ := bo h
  rcases r14 with v12 | _
  · injection h with h; subst h; exact rf Tryz.func73 none [.sum [0, 1, 4, 7, 8] [] .ret [(4, .j v12)] []] (pc (k_slices_IndexFunc_Domain_draft_domain_1_L1 _ _ h13)<|pn)
  · injection h with h; subst h; exact rf Tryz.func73 none [.sum [0, 1, 4, 7, 8] [] (.exit 0) [(4, .z)] []] (pc (k_slices_IndexFunc_Domain_draft_domain_1_L1 _ _ h13)<|pn)

theorem k_slices_ContainsFunc_Domain_draft_domain_1 {a1 : List Api_Domain} {a2 : Int} {a3 : Int} {r : Bool} (h : slices_ContainsFunc_Domain_draft_domain_1 a1 a2 a3 = some r) :
    CallsOK Tryz.prog UU 59 [.sl 50 a1, .fn (.func 60) [] [.rp (c3 a2) 0, .rp (c3 a3) 0]] [] (.v (.bool r)) [] := by
  unfold slices_ContainsFunc_Domain_draft_domain_1 at h
  obtain ⟨r4, h5, h⟩ := bo h
  injection h with h; subst h; exact rf Tryz.func59 none [.callv (.j r4)] (pc (k_slices_IndexFunc_Domain_draft_domain_1 h5)<|pn)

theorem k_ports_draft_domain_own_J1 {a1 : List Api_Device} {a2 : List Api_Port} {a3 : List Api_Link} {a4 : List Api_Domain} {n5 : Nat} {a6 : List Api_Static} {a7 : List Api_Flood} {n8 : Nat} {a9 : List Api_Vrf} {n10 : Nat} {a11 : List Api_Irb} {a12 : Int} {a13 : Int} {r : Bool} (h : ports_draft_domain_own_J1 a1 a2 a3 a4 n5 a6 a7 n8 a9 n10 a11 a12 a13 = some r) :
    ExecOK Tryz.prog UU 9 32 (subC (codeOf Tryz.f29) [1, 0]) [(0, .op 0 1 0 0), (4, .op 9 1 0 0), (5, .op 10 1 0 0)] [.box 58 [.os 1 a1.length, .os 2 a2.length, .os 3 a3.length, .os 4 n5, .os 5 a6.length, .os 6 n8, .os 7 n10, .os 8 a11.length] false, .w 56 a1, .w 66 a2, .w 93 a3, .arr 50 a4 n5 false, .w 95 a6, .arr 72 a7 n8 false, .arr 75 a9 n10 false, .w 99 a11, .box 3 [.j a12] false, .box 3 [.j a13] false] ((fun r => match r with | v18 => .nor) r) ((fun r => match r with | v18 => [(0, .op 0 1 0 0), (4, .op 9 1 0 0), (5, .op 10 1 0 0), (17, .v (.bool v18))]) r) ((fun r => match r with | v18 => [.box 58 [.os 1 a1.length, .os 2 a2.length, .os 3 a3.length, .os 4 n5, .os 5 a6.length, .os 6 n8, .os 7 n10, .os 8 a11.length] false, .w 56 a1, .w 66 a2, .w 93 a3, .arr 50 a4 n5 false, .w 95 a6, .arr 72 a7 n8 false, .arr 75 a9 n10 false, .w 99 a11, .box 3 [.j a12] false, .box 3 [.j a13] false]) r) := by
  unfold ports_draft_domain_own_J1 at h
  obtain ⟨h14, h⟩|⟨h14, h⟩ := ite_out h
  · obtain ⟨r15, h16, h⟩ := bo h
    injection h with h; subst h; exact rl [0, 4, 5, 17] [0, 1, 2, 3, 4, 5, 6, 7, 8, 9, 10] [.t, .b r15] (pc h14<|pc (k_slices_ContainsFunc_Domain_draft_domain_1 h16)<|pc (rn n5)<|pn)
  · injection h with h; subst h; exact rl [0, 4, 5, 17] [0, 1, 2, 3, 4, 5, 6, 7, 8, 9, 10] [.f] (pc h14<|pn)

theorem k_ports_draft_domain_own {a1 : List Api_Device} {a2 : List Api_Port} {a3 : List Api_Link} {a4 : List Api_Domain} {n5 : Nat} {a6 : List Api_Static} {a7 : List Api_Flood} {n8 : Nat} {a9 : List Api_Vrf} {n10 : Nat} {a11 : List Api_Irb} {a12 : Int} {a13 : Int} {r : ((List Api_Domain) × Nat)} (h : ports_draft_domain_own a1 a2 a3 a4 n5 a6 a7 n8 a9 n10 a11 a12 a13 = some r) :
    CallsOK Tryz.prog UU 29 [.op 0 1 0 0, .j a12, .j a13] [.box 58 [.os 1 a1.length, .os 2 a2.length, .os 3 a3.length, .os 4 n5, .os 5 a6.length, .os 6 n8, .os 7 n10, .os 8 a11.length] false, .w 56 a1, .w 66 a2, .w 93 a3, .arr 50 a4 n5 false, .w 95 a6, .arr 72 a7 n8 false, .arr 75 a9 n10 false, .w 99 a11] ((fun r => match r with | (l23, n24) => .tup []) r) ((fun r => match r with | (l23, n24) => [.box 58 [.os 1 a1.length, .os 2 a2.length, .os 3 a3.length, .os 4 n24, .os 5 a6.length, .os 6 n8, .os 7 n10, .os 8 a11.length] false, .w 56 a1, .w 66 a2, .w 93 a3, .arr 50 l23 n24 false, .w 95 a6, .arr 72 a7 n8 false, .arr 75 a9 n10 false, .w 99 a11]) r) := by
  unfold ports_draft_domain_own at h
  obtain ⟨v18, h19, h⟩ := bo h
  obtain ⟨h21, h⟩|⟨h21, h⟩ := ite_out h
  · obtain ⟨h22, h⟩|⟨h22, h⟩ := ite_out h
    · injection h with h; subst h; exact rf Tryz.func29 (some [0, 1, 2, 3, 4, 5, 6, 7, 8]) [.skp, .cut [0, 4, 5] [0, 1, 2, 3, 4, 5, 6, 7, 8, 9, 10] .nor [(0, .op 0 1 0 0), (4, .op 9 1 0 0), (5, .op 10 1 0 0), (17, .v (.bool v18))] [.box 58 [.os 1 a1.length, .os 2 a2.length, .os 3 a3.length, .os 4 n5, .os 5 a6.length, .os 6 n8, .os 7 n10, .os 8 a11.length] false, .w 56 a1, .w 66 a2, .w 93 a3, .arr 50 a4 n5 false, .w 95 a6, .arr 72 a7 n8 false, .arr 75 a9 n10 false, .w 99 a11, .box 3 [.j a12] false, .box 3 [.j a13] false], .t, .sum [10] [] .nor [] [.box 58 [.os 1 a1.length, .os 2 a2.length, .os 3 a3.length, .os 4 n5, .os 5 a6.length, .os 6 n8, .os 7 n10, .os 8 a11.length] false, .w 56 a1, .w 66 a2, .w 93 a3, .w 50 (a4 ++ [(⟨a12, a13, 0, (-1), 0, []⟩ : Api_Domain)]), .w 95 a6, .arr 72 a7 n8 false, .arr 75 a9 n10 false, .w 99 a11, .box 3 [.j a12] false, .box 3 [.j a13] false], .obj [] (.w 50 [(⟨a12, a13, 0, (-1), 0, []⟩ : Api_Domain)]), .obj [] (.w 50 (a4 ++ [(⟨a12, a13, 0, (-1), 0, []⟩ : Api_Domain)]))] (pc (k_ports_draft_domain_own_J1 h19)<|pc h21<|pc (rr (.op 0 1 0 0))<|pc (bs_ob 50 [(⟨a12, a13, 0, (-1), 0, []⟩ : Api_Domain)])<|pc (rh [.box 58 [.os 1 a1.length, .os 2 a2.length, .os 3 a3.length, .os 4 n5, .os 5 a6.length, .os 6 n8, .os 7 n10, .os 8 a11.length] false, .w 56 a1, .w 66 a2, .w 93 a3, .w 50 (a4 ++ [(⟨a12, a13, 0, (-1), 0, []⟩ : Api_Domain)]), .w 95 a6, .arr 72 a7 n8 false, .arr 75 a9 n10 false, .w 99 a11, .box 3 [.j a12] false, .box 3 [.j a13] false])<|pc (app_ob 50 (n := n5) (l := a4) (xs := [(⟨a12, a13, 0, (-1), 0, []⟩ : Api_Domain)]) h22)<|pn)
    · cases h
  · injection h with h; subst h; exact rf Tryz.func29 (some [0, 1, 2, 3, 4, 5, 6, 7, 8]) [.skp, .cut [0, 4, 5] [0, 1, 2, 3, 4, 5, 6, 7, 8, 9, 10] .nor [(0, .op 0 1 0 0), (4, .op 9 1 0 0), (5, .op 10 1 0 0), (17, .v (.bool v18))] [.box 58 [.os 1 a1.length, .os 2 a2.length, .os 3 a3.length, .os 4 n5, .os 5 a6.length, .os 6 n8, .os 7 n10, .os 8 a11.length] false, .w 56 a1, .w 66 a2, .w 93 a3, .arr 50 a4 n5 false, .w 95 a6, .arr 72 a7 n8 false, .arr 75 a9 n10 false, .w 99 a11, .box 3 [.j a12] false, .box 3 [.j a13] false], .f] (pc (k_ports_draft_domain_own_J1 h19)<|pc h21<|pn)

end Go.Eng
