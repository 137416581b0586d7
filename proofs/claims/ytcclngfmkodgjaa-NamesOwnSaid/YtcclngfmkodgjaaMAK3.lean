/- Part of the proof of NamesOwn: printed mirrors of the functions, or their contracts. No conditions. -/
import Derived.Test.YtcclngfmkodgjaaMAK2
set_option linter.unusedVariables false
set_option maxRecDepth 100000
namespace Go.Eng
open Go Go.Proofs
def b0_k_names_Copy_dp_L1 : AObj DD := .box 31 [.os 1 0, .os 2 0, .os 3 0, .os 4 0, .os 5 0, .os 6 0, .os 7 0, .os 8 0] false
theorem k_names_Copy_dp_L1 {l4 : List Api_Device} {l7 : List Api_Port} {l10 : List Api_Link} {l13 : List Api_Domain} {l16 : List Api_Static} {l19 : List Api_Flood} {l22 : List Api_Vrf} {l25 : List Api_Irb} : LoopOK Try.prog UU 0 119 (subC (codeOf Try.f11) [1, 1, 0, 1, 0, 0]) (fun s : (List Api_Port) × (List Bool) × Int => match s with | (l26, p27, v28) => names_Copy_dp_L1 l4 l7 l10 l13 l16 l19 l22 l25 l26 p27 v28)
  (fun s : (List Api_Port) × (List Bool) × Int => (match s with | (l26, p27, v28) => [(2, .o 0), (3, .o 9), (36, .j (l7.length : Int)), (37, .j v28)] : Fr DD)) (fun s : (List Api_Port) × (List Bool) × Int => (match s with | (l26, p27, v28) => [b0_k_names_Copy_dp_L1, .n 47, .n 49, .n 88, .n 51, .n 92, .n 58, .n 53, .n 99, .box 31 [.os 10 l4.length, .os 11 l7.length, .os 12 l10.length, .os 13 l13.length, .os 14 l16.length, .os 15 l19.length, .os 16 l22.length, .os 17 l25.length] false, .w 47 l4, .dp 49 l26 p27 none l7.length, .w 88 l10, .dp 51 l13 (List.replicate l13.length false) none l13.length, .w 92 l16, .dp 58 l19 (List.replicate l19.length false) none l19.length, .dp 53 l22 (List.replicate l22.length false) none l22.length, .w 99 l25] : Heap DD)) (fun r => match r with | (l41, p42) => .exit 0) (fun r => match r with | (l41, p42) => [(2, .o 0), (3, .o 9)]) (fun r => match r with | (l41, p42) => [b0_k_names_Copy_dp_L1, .n 47, .n 49, .n 88, .n 51, .n 92, .n 58, .n 53, .n 99, .box 31 [.os 10 l4.length, .os 11 l7.length, .os 12 l10.length, .os 13 l13.length, .os 14 l16.length, .os 15 l19.length, .os 16 l22.length, .os 17 l25.length] false, .w 47 l4, .dp 49 l41 p42 none l7.length, .w 88 l10, .dp 51 l13 (List.replicate l13.length false) none l13.length, .w 92 l16, .dp 58 l19 (List.replicate l19.length false) none l19.length, .dp 53 l22 (List.replicate l22.length false) none l22.length, .w 99 l25]) := by
 refine loop_sound3 (fun s q h => ?_) (fun r => ?_)
 ·obtain ⟨l26, p27, v28⟩ := s; replace h : names_Copy_dp_L1 l4 l7 l10 l13 l16 l19 l22 l25 l26 p27 v28 = some q := h
  unfold names_Copy_dp_L1 at h
  obtain ⟨h29, h⟩|⟨h29, h⟩ := ite_out h
  ·obtain ⟨x30, h31, h⟩ := bo h
   obtain ⟨h32, h⟩|⟨h32, h⟩ := ite_out h
   ·obtain ⟨h33, h⟩|⟨h33, h⟩ := ite_out h
    ·obtain ⟨l36, h35, h⟩ := bo h
     obtain rfl := oi h; exact rl [2, 3, 36, 37] [0, 1, 2, 3, 4, 5, 6, 7, 8, 9, 10, 11, 12, 13, 14, 15, 16, 17] [.t, .gop 11 v28.toNat false (c49 x30), .sum [9] [] .nor [] [b0_k_names_Copy_dp_L1, .n 47, .n 49, .n 88, .n 51, .n 92, .n 58, .n 53, .n 99, .box 31 [.os 10 l4.length, .os 11 l7.length, .os 12 l10.length, .os 13 l13.length, .os 14 l16.length, .os 15 l19.length, .os 16 l22.length, .os 17 l25.length] false, .w 47 l4, .dp 49 l26 p27 (some (v28.toNat, [.j x30.row, .j x30.dev, .j x30.native, .j x30.cost, .j x30.link, .x x30.name, .sl 3 x30.tagged])) l7.length, .w 88 l10, .dp 51 l13 (List.replicate l13.length false) none l13.length, .w 92 l16, .dp 58 l19 (List.replicate l19.length false) none l19.length, .dp 53 l22 (List.replicate l22.length false) none l22.length, .w 99 l25, .w 3 l36], .callo (.os 0 l36.length) [.w 3 l36], .gcl 11 true (.dp 49 (List.set l26 v28.toNat (⟨x30.row, x30.dev, x30.native, x30.cost, x30.link, x30.name, l36⟩ : Api_Port)) (List.set p27 v28.toNat true) none l7.length)] (pc h29<|pc (And.intro (obn49 h31) (pmis_ob h32))<|pc (rr (.op 9 1 0 1))<|pc (rr (.os 11 l7.length))<|pc (rr (.j v28))<|pc (an l7.length (lin_ob h33))<|pc (rn l7.length)<|pc (an l7.length (rn v28.toNat))<|pc (rh [b0_k_names_Copy_dp_L1, .n 47, .n 49, .n 88, .n 51, .n 92, .n 58, .n 53, .n 99, .box 31 [.os 10 l4.length, .os 11 l7.length, .os 12 l10.length, .os 13 l13.length, .os 14 l16.length, .os 15 l19.length, .os 16 l22.length, .os 17 l25.length] false, .w 47 l4, .dp 49 l26 p27 (some (v28.toNat, [.j x30.row, .j x30.dev, .j x30.native, .j x30.cost, .j x30.link, .x x30.name, .sl 3 x30.tagged])) l7.length, .w 88 l10, .dp 51 l13 (List.replicate l13.length false) none l13.length, .w 92 l16, .dp 58 l19 (List.replicate l19.length false) none l19.length, .dp 53 l22 (List.replicate l22.length false) none l22.length, .w 99 l25, .w 3 l36])<|pc (k_slices_Clone_int h35)<|pc (im3 l36)<|pc (an l7.length (lin_ob h33))<|pc (rn l7.length)<|pc (an l7.length (rn v28.toNat))<|pc (gclt_ob (e := 49) (n := l7.length) (l := l26) (pm := p27) (i := v28.toNat) (⟨x30.row, x30.dev, x30.native, x30.cost, x30.link, x30.name, l36⟩ : Api_Port) [.j x30.row, .j x30.dev, .j x30.native, .j x30.cost, .j x30.link, .x x30.name, .sl 3 l36] rfl)<|pc (rn l36.length)<|pn)
    ·cases h
   ·cases h
  ·obtain rfl := oi h; exact rl [2, 3] [0, 1, 2, 3, 4, 5, 6, 7, 8, 9, 10, 11, 12, 13, 14, 15, 16, 17] [.f] (pc h29<|pn)
 ·exact Ex.noConfusion

def b0_k_names_Copy_dp_L2 : AObj DD := .box 31 [.os 1 0, .os 2 0, .os 3 0, .os 4 0, .os 5 0, .os 6 0, .os 7 0, .os 8 0] false
theorem k_names_Copy_dp_L2 {l4 : List Api_Device} {l7 : List Api_Port} {l10 : List Api_Link} {l13 : List Api_Domain} {l16 : List Api_Static} {l19 : List Api_Flood} {l22 : List Api_Vrf} {l25 : List Api_Irb} {l41 : List Api_Port} {p42 : List Bool} : LoopOK Try.prog UU 0 119 (subC (codeOf Try.f11) [1, 1, 1, 0, 1, 0, 0]) (fun s : (List Api_Domain) × (List Bool) × Int => match s with | (l45, p46, v47) => names_Copy_dp_L2 l4 l7 l10 l13 l16 l19 l22 l25 l41 p42 l45 p46 v47)
  (fun s : (List Api_Domain) × (List Bool) × Int => (match s with | (l45, p46, v47) => [(2, .o 0), (3, .o 9), (55, .j (l13.length : Int)), (56, .j v47)] : Fr DD)) (fun s : (List Api_Domain) × (List Bool) × Int => (match s with | (l45, p46, v47) => [b0_k_names_Copy_dp_L2, .n 47, .n 49, .n 88, .n 51, .n 92, .n 58, .n 53, .n 99, .box 31 [.os 10 l4.length, .os 11 l7.length, .os 12 l10.length, .os 13 l13.length, .os 14 l16.length, .os 15 l19.length, .os 16 l22.length, .os 17 l25.length] false, .w 47 l4, .dp 49 l41 p42 none l7.length, .w 88 l10, .dp 51 l45 p46 none l13.length, .w 92 l16, .dp 58 l19 (List.replicate l19.length false) none l19.length, .dp 53 l22 (List.replicate l22.length false) none l22.length, .w 99 l25] : Heap DD)) (fun r => match r with | (l60, p61) => .exit 2) (fun r => match r with | (l60, p61) => [(2, .o 0), (3, .o 9)]) (fun r => match r with | (l60, p61) => [b0_k_names_Copy_dp_L2, .n 47, .n 49, .n 88, .n 51, .n 92, .n 58, .n 53, .n 99, .box 31 [.os 10 l4.length, .os 11 l7.length, .os 12 l10.length, .os 13 l13.length, .os 14 l16.length, .os 15 l19.length, .os 16 l22.length, .os 17 l25.length] false, .w 47 l4, .dp 49 l41 p42 none l7.length, .w 88 l10, .dp 51 l60 p61 none l13.length, .w 92 l16, .dp 58 l19 (List.replicate l19.length false) none l19.length, .dp 53 l22 (List.replicate l22.length false) none l22.length, .w 99 l25]) := by
 refine loop_sound3 (fun s q h => ?_) (fun r => ?_)
 ·obtain ⟨l45, p46, v47⟩ := s; replace h : names_Copy_dp_L2 l4 l7 l10 l13 l16 l19 l22 l25 l41 p42 l45 p46 v47 = some q := h
  unfold names_Copy_dp_L2 at h
  obtain ⟨h48, h⟩|⟨h48, h⟩ := ite_out h
  ·obtain ⟨x49, h50, h⟩ := bo h
   obtain ⟨h51, h⟩|⟨h51, h⟩ := ite_out h
   ·obtain ⟨h52, h⟩|⟨h52, h⟩ := ite_out h
    ·obtain ⟨l55, h54, h⟩ := bo h
     obtain rfl := oi h; exact rl [2, 3, 55, 56] [0, 1, 2, 3, 4, 5, 6, 7, 8, 9, 10, 11, 12, 13, 14, 15, 16, 17] [.t, .gop 13 v47.toNat false (c51 x49), .sum [9] [] .nor [] [b0_k_names_Copy_dp_L2, .n 47, .n 49, .n 88, .n 51, .n 92, .n 58, .n 53, .n 99, .box 31 [.os 10 l4.length, .os 11 l7.length, .os 12 l10.length, .os 13 l13.length, .os 14 l16.length, .os 15 l19.length, .os 16 l22.length, .os 17 l25.length] false, .w 47 l4, .dp 49 l41 p42 none l7.length, .w 88 l10, .dp 51 l45 p46 (some (v47.toNat, [.j x49.dev, .j x49.vlan, .j x49.vni, .j x49.irb, .j x49.row, .sl 3 x49.peers])) l13.length, .w 92 l16, .dp 58 l19 (List.replicate l19.length false) none l19.length, .dp 53 l22 (List.replicate l22.length false) none l22.length, .w 99 l25, .w 3 l55], .callo (.os 0 l55.length) [.w 3 l55], .gcl 13 true (.dp 51 (List.set l45 v47.toNat (⟨x49.dev, x49.vlan, x49.vni, x49.irb, x49.row, l55⟩ : Api_Domain)) (List.set p46 v47.toNat true) none l13.length)] (pc h48<|pc (And.intro (obn51 h50) (pmis_ob h51))<|pc (rr (.op 9 1 0 3))<|pc (rr (.os 13 l13.length))<|pc (rr (.j v47))<|pc (an l13.length (lin_ob h52))<|pc (rn l13.length)<|pc (an l13.length (rn v47.toNat))<|pc (rh [b0_k_names_Copy_dp_L2, .n 47, .n 49, .n 88, .n 51, .n 92, .n 58, .n 53, .n 99, .box 31 [.os 10 l4.length, .os 11 l7.length, .os 12 l10.length, .os 13 l13.length, .os 14 l16.length, .os 15 l19.length, .os 16 l22.length, .os 17 l25.length] false, .w 47 l4, .dp 49 l41 p42 none l7.length, .w 88 l10, .dp 51 l45 p46 (some (v47.toNat, [.j x49.dev, .j x49.vlan, .j x49.vni, .j x49.irb, .j x49.row, .sl 3 x49.peers])) l13.length, .w 92 l16, .dp 58 l19 (List.replicate l19.length false) none l19.length, .dp 53 l22 (List.replicate l22.length false) none l22.length, .w 99 l25, .w 3 l55])<|pc (k_slices_Clone_int h54)<|pc (im3 l55)<|pc (an l13.length (lin_ob h52))<|pc (rn l13.length)<|pc (an l13.length (rn v47.toNat))<|pc (gclt_ob (e := 51) (n := l13.length) (l := l45) (pm := p46) (i := v47.toNat) (⟨x49.dev, x49.vlan, x49.vni, x49.irb, x49.row, l55⟩ : Api_Domain) [.j x49.dev, .j x49.vlan, .j x49.vni, .j x49.irb, .j x49.row, .sl 3 l55] rfl)<|pc (rn l55.length)<|pn)
    ·cases h
   ·cases h
  ·obtain rfl := oi h; exact rl [2, 3] [0, 1, 2, 3, 4, 5, 6, 7, 8, 9, 10, 11, 12, 13, 14, 15, 16, 17] [.f] (pc h48<|pn)
 ·exact Ex.noConfusion

def b0_k_names_Copy_dp_L3 : AObj DD := .box 31 [.os 1 0, .os 2 0, .os 3 0, .os 4 0, .os 5 0, .os 6 0, .os 7 0, .os 8 0] false
theorem k_names_Copy_dp_L3 {l4 : List Api_Device} {l7 : List Api_Port} {l10 : List Api_Link} {l13 : List Api_Domain} {l16 : List Api_Static} {l19 : List Api_Flood} {l22 : List Api_Vrf} {l25 : List Api_Irb} {l41 : List Api_Port} {p42 : List Bool} {l60 : List Api_Domain} {p61 : List Bool} : LoopOK Try.prog UU 0 119 (subC (codeOf Try.f11) [1, 1, 1, 1, 0, 1, 0, 0]) (fun s : (List Api_Flood) × (List Bool) × Int => match s with | (l64, p65, v66) => names_Copy_dp_L3 l4 l7 l10 l13 l16 l19 l22 l25 l41 p42 l60 p61 l64 p65 v66)
  (fun s : (List Api_Flood) × (List Bool) × Int => (match s with | (l64, p65, v66) => [(2, .o 0), (3, .o 9), (74, .j (l19.length : Int)), (75, .j v66)] : Fr DD)) (fun s : (List Api_Flood) × (List Bool) × Int => (match s with | (l64, p65, v66) => [b0_k_names_Copy_dp_L3, .n 47, .n 49, .n 88, .n 51, .n 92, .n 58, .n 53, .n 99, .box 31 [.os 10 l4.length, .os 11 l7.length, .os 12 l10.length, .os 13 l13.length, .os 14 l16.length, .os 15 l19.length, .os 16 l22.length, .os 17 l25.length] false, .w 47 l4, .dp 49 l41 p42 none l7.length, .w 88 l10, .dp 51 l60 p61 none l13.length, .w 92 l16, .dp 58 l64 p65 none l19.length, .dp 53 l22 (List.replicate l22.length false) none l22.length, .w 99 l25] : Heap DD)) (fun r => match r with | (l79, p80) => .exit 4) (fun r => match r with | (l79, p80) => [(2, .o 0), (3, .o 9)]) (fun r => match r with | (l79, p80) => [b0_k_names_Copy_dp_L3, .n 47, .n 49, .n 88, .n 51, .n 92, .n 58, .n 53, .n 99, .box 31 [.os 10 l4.length, .os 11 l7.length, .os 12 l10.length, .os 13 l13.length, .os 14 l16.length, .os 15 l19.length, .os 16 l22.length, .os 17 l25.length] false, .w 47 l4, .dp 49 l41 p42 none l7.length, .w 88 l10, .dp 51 l60 p61 none l13.length, .w 92 l16, .dp 58 l79 p80 none l19.length, .dp 53 l22 (List.replicate l22.length false) none l22.length, .w 99 l25]) := by
 refine loop_sound3 (fun s q h => ?_) (fun r => ?_)
 ·obtain ⟨l64, p65, v66⟩ := s; replace h : names_Copy_dp_L3 l4 l7 l10 l13 l16 l19 l22 l25 l41 p42 l60 p61 l64 p65 v66 = some q := h
  unfold names_Copy_dp_L3 at h
  obtain ⟨h67, h⟩|⟨h67, h⟩ := ite_out h
  ·obtain ⟨x68, h69, h⟩ := bo h
   obtain ⟨h70, h⟩|⟨h70, h⟩ := ite_out h
   ·obtain ⟨h71, h⟩|⟨h71, h⟩ := ite_out h
    ·obtain ⟨l74, h73, h⟩ := bo h
     obtain rfl := oi h; exact rl [2, 3, 74, 75] [0, 1, 2, 3, 4, 5, 6, 7, 8, 9, 10, 11, 12, 13, 14, 15, 16, 17] [.t, .gop 15 v66.toNat false (c58 x68), .sum [9] [] .nor [] [b0_k_names_Copy_dp_L3, .n 47, .n 49, .n 88, .n 51, .n 92, .n 58, .n 53, .n 99, .box 31 [.os 10 l4.length, .os 11 l7.length, .os 12 l10.length, .os 13 l13.length, .os 14 l16.length, .os 15 l19.length, .os 16 l22.length, .os 17 l25.length] false, .w 47 l4, .dp 49 l41 p42 none l7.length, .w 88 l10, .dp 51 l60 p61 none l13.length, .w 92 l16, .dp 58 l64 p65 (some (v66.toNat, [.j x68.row, .j x68.dev, .j x68.vni, .sl 45 x68.addrs])) l19.length, .dp 53 l22 (List.replicate l22.length false) none l22.length, .w 99 l25, .w 45 l74], .callo (.os 0 l74.length) [.w 45 l74], .gcl 15 true (.dp 58 (List.set l64 v66.toNat (⟨x68.row, x68.dev, x68.vni, l74⟩ : Api_Flood)) (List.set p65 v66.toNat true) none l19.length)] (pc h67<|pc (And.intro (obn58 h69) (pmis_ob h70))<|pc (rr (.op 9 1 0 5))<|pc (rr (.os 15 l19.length))<|pc (rr (.j v66))<|pc (an l19.length (lin_ob h71))<|pc (rn l19.length)<|pc (an l19.length (rn v66.toNat))<|pc (rh [b0_k_names_Copy_dp_L3, .n 47, .n 49, .n 88, .n 51, .n 92, .n 58, .n 53, .n 99, .box 31 [.os 10 l4.length, .os 11 l7.length, .os 12 l10.length, .os 13 l13.length, .os 14 l16.length, .os 15 l19.length, .os 16 l22.length, .os 17 l25.length] false, .w 47 l4, .dp 49 l41 p42 none l7.length, .w 88 l10, .dp 51 l60 p61 none l13.length, .w 92 l16, .dp 58 l64 p65 (some (v66.toNat, [.j x68.row, .j x68.dev, .j x68.vni, .sl 45 x68.addrs])) l19.length, .dp 53 l22 (List.replicate l22.length false) none l22.length, .w 99 l25, .w 45 l74])<|pc (k_slices_Clone_uint32 h73)<|pc (im45 l74)<|pc (an l19.length (lin_ob h71))<|pc (rn l19.length)<|pc (an l19.length (rn v66.toNat))<|pc (gclt_ob (e := 58) (n := l19.length) (l := l64) (pm := p65) (i := v66.toNat) (⟨x68.row, x68.dev, x68.vni, l74⟩ : Api_Flood) [.j x68.row, .j x68.dev, .j x68.vni, .sl 45 l74] rfl)<|pc (rn l74.length)<|pn)
    ·cases h
   ·cases h
  ·obtain rfl := oi h; exact rl [2, 3] [0, 1, 2, 3, 4, 5, 6, 7, 8, 9, 10, 11, 12, 13, 14, 15, 16, 17] [.f] (pc h67<|pn)
 ·exact Ex.noConfusion

def b0_k_names_Copy_dp_L4 : AObj DD := .box 31 [.os 1 0, .os 2 0, .os 3 0, .os 4 0, .os 5 0, .os 6 0, .os 7 0, .os 8 0] false
theorem k_names_Copy_dp_L4 {l4 : List Api_Device} {l7 : List Api_Port} {l10 : List Api_Link} {l13 : List Api_Domain} {l16 : List Api_Static} {l19 : List Api_Flood} {l22 : List Api_Vrf} {l25 : List Api_Irb} {l41 : List Api_Port} {p42 : List Bool} {l60 : List Api_Domain} {p61 : List Bool} {l79 : List Api_Flood} {p80 : List Bool} : LoopOK Try.prog UU 0 119 (subC (codeOf Try.f11) [1, 1, 1, 1, 1, 0, 1, 0, 0]) (fun s : (List Api_Vrf) × (List Bool) × Int => match s with | (l83, p84, v85) => names_Copy_dp_L4 l4 l7 l10 l13 l16 l19 l22 l25 l41 p42 l60 p61 l79 p80 l83 p84 v85)
  (fun s : (List Api_Vrf) × (List Bool) × Int => (match s with | (l83, p84, v85) => [(2, .o 0), (3, .o 9), (93, .j (l22.length : Int)), (94, .j v85)] : Fr DD)) (fun s : (List Api_Vrf) × (List Bool) × Int => (match s with | (l83, p84, v85) => [b0_k_names_Copy_dp_L4, .n 47, .n 49, .n 88, .n 51, .n 92, .n 58, .n 53, .n 99, .box 31 [.os 10 l4.length, .os 11 l7.length, .os 12 l10.length, .os 13 l13.length, .os 14 l16.length, .os 15 l19.length, .os 16 l22.length, .os 17 l25.length] false, .w 47 l4, .dp 49 l41 p42 none l7.length, .w 88 l10, .dp 51 l60 p61 none l13.length, .w 92 l16, .dp 58 l79 p80 none l19.length, .dp 53 l83 p84 none l22.length, .w 99 l25] : Heap DD)) (fun r => match r with | (l101, p102) => .exit 6) (fun r => match r with | (l101, p102) => [(2, .o 0), (3, .o 9)]) (fun r => match r with | (l101, p102) => [b0_k_names_Copy_dp_L4, .n 47, .n 49, .n 88, .n 51, .n 92, .n 58, .n 53, .n 99, .box 31 [.os 10 l4.length, .os 11 l7.length, .os 12 l10.length, .os 13 l13.length, .os 14 l16.length, .os 15 l19.length, .os 16 l22.length, .os 17 l25.length] false, .w 47 l4, .dp 49 l41 p42 none l7.length, .w 88 l10, .dp 51 l60 p61 none l13.length, .w 92 l16, .dp 58 l79 p80 none l19.length, .dp 53 l101 p102 none l22.length, .w 99 l25]) := by
 refine loop_sound3 (fun s q h => ?_) (fun r => ?_)
 ·obtain ⟨l83, p84, v85⟩ := s; replace h : names_Copy_dp_L4 l4 l7 l10 l13 l16 l19 l22 l25 l41 p42 l60 p61 l79 p80 l83 p84 v85 = some q := h
  unfold names_Copy_dp_L4 at h
  obtain ⟨h86, h⟩|⟨h86, h⟩ := ite_out h
  ·obtain ⟨h87, h⟩|⟨h87, h⟩ := ite_out h
   ·obtain ⟨x88, h89, h⟩ := bo h
    obtain ⟨h90, h⟩|⟨h90, h⟩ := ite_out h
    ·obtain ⟨l93, h92, h⟩ := bo h
     obtain ⟨l96, h95, h⟩ := bo h
     obtain rfl := oi h; exact rl [2, 3, 93, 94] [0, 1, 2, 3, 4, 5, 6, 7, 8, 9, 10, 11, 12, 13, 14, 15, 16, 17] [.t, .gop 16 v85.toNat false (c53 x88), .sum [6] [] .nor [] [b0_k_names_Copy_dp_L4, .n 47, .n 49, .n 88, .n 51, .n 92, .n 58, .n 53, .n 99, .box 31 [.os 10 l4.length, .os 11 l7.length, .os 12 l10.length, .os 13 l13.length, .os 14 l16.length, .os 15 l19.length, .os 16 l22.length, .os 17 l25.length] false, .w 47 l4, .dp 49 l41 p42 none l7.length, .w 88 l10, .dp 51 l60 p61 none l13.length, .w 92 l16, .dp 58 l79 p80 none l19.length, .dp 53 l83 p84 (some (v85.toNat, [.j x88.row, .j x88.dev, .x x88.name, .sl 3 x88.imports, .sl 3 x88.exports])) l22.length, .w 99 l25, .w 3 l93], .sum [11] [] .nor [] [b0_k_names_Copy_dp_L4, .n 47, .n 49, .n 88, .n 51, .n 92, .n 58, .n 53, .n 99, .box 31 [.os 10 l4.length, .os 11 l7.length, .os 12 l10.length, .os 13 l13.length, .os 14 l16.length, .os 15 l19.length, .os 16 l22.length, .os 17 l25.length] false, .w 47 l4, .dp 49 l41 p42 none l7.length, .w 88 l10, .dp 51 l60 p61 none l13.length, .w 92 l16, .dp 58 l79 p80 none l19.length, .dp 53 l83 p84 (some (v85.toNat, [.j x88.row, .j x88.dev, .x x88.name, .sl 3 x88.imports, .sl 3 x88.exports])) l22.length, .w 99 l25, .w 3 l93, .w 3 l96], .sum [14] [] .nor [] [b0_k_names_Copy_dp_L4, .n 47, .n 49, .n 88, .n 51, .n 92, .n 58, .n 53, .n 99, .box 31 [.os 10 l4.length, .os 11 l7.length, .os 12 l10.length, .os 13 l13.length, .os 14 l16.length, .os 15 l19.length, .os 16 l22.length, .os 17 l25.length] false, .w 47 l4, .dp 49 l41 p42 none l7.length, .w 88 l10, .dp 51 l60 p61 none l13.length, .w 92 l16, .dp 58 l79 p80 none l19.length, .dp 53 l83 p84 (some (v85.toNat, [.j x88.row, .j x88.dev, .x x88.name, .os 18 l93.length, .sl 3 x88.exports])) l22.length, .w 99 l25, .w 3 l93, .w 3 l96], .callo (.os 0 l93.length) [.w 3 l93], .callo (.os 0 l96.length) [.w 3 l96], .gcl 16 true (.dp 53 (List.set l83 v85.toNat (⟨x88.row, x88.dev, x88.name, l93, l96⟩ : Api_Vrf)) (List.set p84 v85.toNat true) none l22.length)] (pc h86<|pc (And.intro (obn53 h89) (pmis_ob h90))<|pc (an l22.length (lin_ob h87))<|pd (rr (.op 16 l22.length v85.toNat 0))<|pd (rr (.op 16 l22.length v85.toNat 0))<|pc (rr (.op 16 l22.length v85.toNat 0))<|pd (rn l22.length)<|pc (an l22.length (rn v85.toNat))<|pc (rh [b0_k_names_Copy_dp_L4, .n 47, .n 49, .n 88, .n 51, .n 92, .n 58, .n 53, .n 99, .box 31 [.os 10 l4.length, .os 11 l7.length, .os 12 l10.length, .os 13 l13.length, .os 14 l16.length, .os 15 l19.length, .os 16 l22.length, .os 17 l25.length] false, .w 47 l4, .dp 49 l41 p42 none l7.length, .w 88 l10, .dp 51 l60 p61 none l13.length, .w 92 l16, .dp 58 l79 p80 none l19.length, .dp 53 l83 p84 (some (v85.toNat, [.j x88.row, .j x88.dev, .x x88.name, .sl 3 x88.imports, .sl 3 x88.exports])) l22.length, .w 99 l25, .w 3 l93])<|pc (k_slices_Clone_int h92)<|pc (im3 l93)<|pc (rr (.op 16 l22.length v85.toNat 0))<|pd (rn l22.length)<|pc (rr (.op 16 l22.length v85.toNat 0))<|pd (rn l22.length)<|pc (rr (.op 16 l22.length v85.toNat 4))<|pd (an l22.length (rn v85.toNat))<|pc (rr (.sl 3 x88.exports))<|pc (rh [b0_k_names_Copy_dp_L4, .n 47, .n 49, .n 88, .n 51, .n 92, .n 58, .n 53, .n 99, .box 31 [.os 10 l4.length, .os 11 l7.length, .os 12 l10.length, .os 13 l13.length, .os 14 l16.length, .os 15 l19.length, .os 16 l22.length, .os 17 l25.length] false, .w 47 l4, .dp 49 l41 p42 none l7.length, .w 88 l10, .dp 51 l60 p61 none l13.length, .w 92 l16, .dp 58 l79 p80 none l19.length, .dp 53 l83 p84 (some (v85.toNat, [.j x88.row, .j x88.dev, .x x88.name, .sl 3 x88.imports, .sl 3 x88.exports])) l22.length, .w 99 l25, .w 3 l93, .w 3 l96])<|pc (k_slices_Clone_int h95)<|pc (im3 l96)<|pd (rn l22.length)<|pc (rh [b0_k_names_Copy_dp_L4, .n 47, .n 49, .n 88, .n 51, .n 92, .n 58, .n 53, .n 99, .box 31 [.os 10 l4.length, .os 11 l7.length, .os 12 l10.length, .os 13 l13.length, .os 14 l16.length, .os 15 l19.length, .os 16 l22.length, .os 17 l25.length] false, .w 47 l4, .dp 49 l41 p42 none l7.length, .w 88 l10, .dp 51 l60 p61 none l13.length, .w 92 l16, .dp 58 l79 p80 none l19.length, .dp 53 l83 p84 (some (v85.toNat, [.j x88.row, .j x88.dev, .x x88.name, .os 18 l93.length, .sl 3 x88.exports])) l22.length, .w 99 l25, .w 3 l93, .w 3 l96])<|pc (an l22.length (rn v85.toNat))<|pd (rn l22.length)<|pc (an l22.length (rn v85.toNat))<|pc (gclt_ob (e := 53) (n := l22.length) (l := l83) (pm := p84) (i := v85.toNat) (⟨x88.row, x88.dev, x88.name, l93, l96⟩ : Api_Vrf) [.j x88.row, .j x88.dev, .x x88.name, .sl 3 l93, .sl 3 l96] rfl)<|pc (rn l93.length)<|pc (rn l96.length)<|pn)
    ·cases h
   ·cases h
  ·obtain rfl := oi h; exact rl [2, 3] [0, 1, 2, 3, 4, 5, 6, 7, 8, 9, 10, 11, 12, 13, 14, 15, 16, 17] [.f] (pc h86<|pn)
 ·exact Ex.noConfusion

def b0_k_names_Copy_dp : AObj DD := .box 31 [.os 1 0, .os 2 0, .os 3 0, .os 4 0, .os 5 0, .os 6 0, .os 7 0, .os 8 0] false
theorem k_names_Copy_dp {a1 : Api_Net} {r : ((List Api_Device) × (List Api_Port) × (List Api_Link) × (List Api_Domain) × (List Api_Static) × (List Api_Flood) × (List Api_Vrf) × (List Api_Irb) × (List Bool) × Nat × (List Bool) × Nat × (List Bool) × Nat × (List Bool) × Nat)} (h : names_Copy_dp a1 = some r) :
  CallsOK Try.prog UU 11 [.agg (c31 a1)] [] ((fun r => match r with | (l105, l106, l107, l108, l109, l110, l111, l112, p113, n114, p115, n116, p117, n118, p119, n120) => .agg [.os 0 l105.length, .os 1 n114, .os 2 l107.length, .os 3 n116, .os 4 l109.length, .os 5 n118, .os 6 n120, .os 7 l112.length]) r) ((fun r => match r with | (l105, l106, l107, l108, l109, l110, l111, l112, p113, n114, p115, n116, p117, n118, p119, n120) => [.w 47 l105, .dp 49 l106 p113 none n114, .w 88 l107, .dp 51 l108 p115 none n116, .w 92 l109, .dp 58 l110 p117 none n118, .dp 53 l111 p119 none n120, .w 99 l112]) r) := by
 unfold names_Copy_dp at h
 obtain ⟨l4, h3, h⟩ := bo h
 obtain ⟨l7, h6, h⟩ := bo h
 obtain ⟨l10, h9, h⟩ := bo h
 obtain ⟨l13, h12, h⟩ := bo h
 obtain ⟨l16, h15, h⟩ := bo h
 obtain ⟨l19, h18, h⟩ := bo h
 obtain ⟨l22, h21, h⟩ := bo h
 obtain ⟨l25, h24, h⟩ := bo h
 obtain ⟨r44, h43, h⟩ := bo h
 obtain ⟨l41, p42⟩ := r44
 obtain ⟨r63, h62, h⟩ := bo h
 obtain ⟨l60, p61⟩ := r63
 obtain ⟨r82, h81, h⟩ := bo h
 obtain ⟨l79, p80⟩ := r82
 obtain ⟨r104, h103, h⟩ := bo h
 obtain ⟨l101, p102⟩ := r104
 obtain rfl := oi h; exact rf Try.func11 (some [10, 11, 12, 13, 14, 15, 16, 17]) [.sum [2] [] .nor [] [.box 31 (c31 a1) false, .n 47, .n 49, .n 88, .n 51, .n 92, .n 58, .n 53, .n 99, b0_k_names_Copy_dp, .w 47 l4], .sum [5] [] .nor [] [.box 31 (c31 a1) false, .n 47, .n 49, .n 88, .n 51, .n 92, .n 58, .n 53, .n 99, b0_k_names_Copy_dp, .w 47 l4, .w 49 l7], .sum [8] [] .nor [] [.box 31 (c31 a1) false, .n 47, .n 49, .n 88, .n 51, .n 92, .n 58, .n 53, .n 99, b0_k_names_Copy_dp, .w 47 l4, .w 49 l7, .w 88 l10], .sum [11] [] .nor [] [.box 31 (c31 a1) false, .n 47, .n 49, .n 88, .n 51, .n 92, .n 58, .n 53, .n 99, b0_k_names_Copy_dp, .w 47 l4, .w 49 l7, .w 88 l10, .w 51 l13], .sum [14] [] .nor [] [.box 31 (c31 a1) false, .n 47, .n 49, .n 88, .n 51, .n 92, .n 58, .n 53, .n 99, b0_k_names_Copy_dp, .w 47 l4, .w 49 l7, .w 88 l10, .w 51 l13, .w 92 l16], .sum [17] [] .nor [] [.box 31 (c31 a1) false, .n 47, .n 49, .n 88, .n 51, .n 92, .n 58, .n 53, .n 99, b0_k_names_Copy_dp, .w 47 l4, .w 49 l7, .w 88 l10, .w 51 l13, .w 92 l16, .w 58 l19], .sum [20] [] .nor [] [.box 31 (c31 a1) false, .n 47, .n 49, .n 88, .n 51, .n 92, .n 58, .n 53, .n 99, b0_k_names_Copy_dp, .w 47 l4, .w 49 l7, .w 88 l10, .w 51 l13, .w 92 l16, .w 58 l19, .w 53 l22], .sum [23] [] .nor [] [.box 31 (c31 a1) false, .n 47, .n 49, .n 88, .n 51, .n 92, .n 58, .n 53, .n 99, b0_k_names_Copy_dp, .w 47 l4, .w 49 l7, .w 88 l10, .w 51 l13, .w 92 l16, .w 58 l19, .w 53 l22, .w 99 l25], .callo (.os 0 l4.length) [.w 47 l4], .callm [] (.os 0 l7.length) [.w 49 l7], .callo (.os 0 l10.length) [.w 88 l10], .callm [] (.os 0 l13.length) [.w 51 l13], .callo (.os 0 l16.length) [.w 92 l16], .callm [] (.os 0 l19.length) [.w 58 l19], .callm [] (.os 0 l22.length) [.w 53 l22], .callo (.os 0 l25.length) [.w 99 l25], .gdp 11, .gdp 13, .gdp 15, .gdp 16, .sum [2, 3, 36, 37] [9, 1, 2, 3, 4, 5, 6, 7, 8, 26, 10, 11, 12, 13, 14, 15, 16, 17] (.exit 0) [(2, .o 0), (3, .o 9)] [b0_k_names_Copy_dp, .n 47, .n 49, .n 88, .n 51, .n 92, .n 58, .n 53, .n 99, .box 31 [.os 10 l4.length, .os 11 l7.length, .os 12 l10.length, .os 13 l13.length, .os 14 l16.length, .os 15 l19.length, .os 16 l22.length, .os 17 l25.length] false, .w 47 l4, .dp 49 l41 p42 none l7.length, .w 88 l10, .dp 51 l13 (List.replicate l13.length false) none l13.length, .w 92 l16, .dp 58 l19 (List.replicate l19.length false) none l19.length, .dp 53 l22 (List.replicate l22.length false) none l22.length, .w 99 l25], .sum [2, 3, 55, 56] [0, 1, 2, 3, 4, 5, 6, 7, 8, 9, 10, 11, 12, 13, 14, 15, 16, 17] (.exit 2) [(2, .o 0), (3, .o 9)] [b0_k_names_Copy_dp, .n 47, .n 49, .n 88, .n 51, .n 92, .n 58, .n 53, .n 99, .box 31 [.os 10 l4.length, .os 11 l7.length, .os 12 l10.length, .os 13 l13.length, .os 14 l16.length, .os 15 l19.length, .os 16 l22.length, .os 17 l25.length] false, .w 47 l4, .dp 49 l41 p42 none l7.length, .w 88 l10, .dp 51 l60 p61 none l13.length, .w 92 l16, .dp 58 l19 (List.replicate l19.length false) none l19.length, .dp 53 l22 (List.replicate l22.length false) none l22.length, .w 99 l25], .sum [2, 3, 74, 75] [0, 1, 2, 3, 4, 5, 6, 7, 8, 9, 10, 11, 12, 13, 14, 15, 16, 17] (.exit 4) [(2, .o 0), (3, .o 9)] [b0_k_names_Copy_dp, .n 47, .n 49, .n 88, .n 51, .n 92, .n 58, .n 53, .n 99, .box 31 [.os 10 l4.length, .os 11 l7.length, .os 12 l10.length, .os 13 l13.length, .os 14 l16.length, .os 15 l19.length, .os 16 l22.length, .os 17 l25.length] false, .w 47 l4, .dp 49 l41 p42 none l7.length, .w 88 l10, .dp 51 l60 p61 none l13.length, .w 92 l16, .dp 58 l79 p80 none l19.length, .dp 53 l22 (List.replicate l22.length false) none l22.length, .w 99 l25], .sum [2, 3, 93, 94] [0, 1, 2, 3, 4, 5, 6, 7, 8, 9, 10, 11, 12, 13, 14, 15, 16, 17] (.exit 6) [(2, .o 0), (3, .o 9)] [b0_k_names_Copy_dp, .n 47, .n 49, .n 88, .n 51, .n 92, .n 58, .n 53, .n 99, .box 31 [.os 10 l4.length, .os 11 l7.length, .os 12 l10.length, .os 13 l13.length, .os 14 l16.length, .os 15 l19.length, .os 16 l22.length, .os 17 l25.length] false, .w 47 l4, .dp 49 l41 p42 none l7.length, .w 88 l10, .dp 51 l60 p61 none l13.length, .w 92 l16, .dp 58 l79 p80 none l19.length, .dp 53 l101 p102 none l22.length, .w 99 l25]] (pc (rh [.box 31 (c31 a1) false, .n 47, .n 49, .n 88, .n 51, .n 92, .n 58, .n 53, .n 99, b0_k_names_Copy_dp, .w 47 l4])<|pc (k_slices_Clone_Device h3)<|pc (im47 l4)<|pc (rr (.op 0 1 0 1))<|pc (rr (.sl 49 a1.ports))<|pc (rh [.box 31 (c31 a1) false, .n 47, .n 49, .n 88, .n 51, .n 92, .n 58, .n 53, .n 99, b0_k_names_Copy_dp, .w 47 l4, .w 49 l7])<|pc (k_slices_Clone_Port h6)<|pd (rr (.op 0 1 0 2))<|pd (rr (.sl 88 a1.links))<|pc (rh [.box 31 (c31 a1) false, .n 47, .n 49, .n 88, .n 51, .n 92, .n 58, .n 53, .n 99, b0_k_names_Copy_dp, .w 47 l4, .w 49 l7, .w 88 l10])<|pc (k_slices_Clone_Link h9)<|pc (im88 l10)<|pd (rr (.op 0 1 0 3))<|pc (rr (.op 0 1 0 3))<|pd (rr (.sl 51 a1.domains))<|pc (rr (.sl 51 a1.domains))<|pc (rh [.box 31 (c31 a1) false, .n 47, .n 49, .n 88, .n 51, .n 92, .n 58, .n 53, .n 99, b0_k_names_Copy_dp, .w 47 l4, .w 49 l7, .w 88 l10, .w 51 l13])<|pc (k_slices_Clone_Domain h12)<|pd (rr (.op 0 1 0 4))<|pd (rr (.op 0 1 0 4))<|pd (rr (.sl 92 a1.statics))<|pd (rr (.sl 92 a1.statics))<|pc (rh [.box 31 (c31 a1) false, .n 47, .n 49, .n 88, .n 51, .n 92, .n 58, .n 53, .n 99, b0_k_names_Copy_dp, .w 47 l4, .w 49 l7, .w 88 l10, .w 51 l13, .w 92 l16])<|pc (k_slices_Clone_Static h15)<|pc (im92 l16)<|pd (rr (.op 0 1 0 5))<|pd (rr (.op 0 1 0 5))<|pc (rr (.op 0 1 0 5))<|pd (rr (.sl 58 a1.floods))<|pd (rr (.sl 58 a1.floods))<|pc (rr (.sl 58 a1.floods))<|pc (rh [.box 31 (c31 a1) false, .n 47, .n 49, .n 88, .n 51, .n 92, .n 58, .n 53, .n 99, b0_k_names_Copy_dp, .w 47 l4, .w 49 l7, .w 88 l10, .w 51 l13, .w 92 l16, .w 58 l19])<|pc (k_slices_Clone_Flood h18)<|pd (rr (.op 0 1 0 6))<|pd (rr (.op 0 1 0 6))<|pd (rr (.op 0 1 0 6))<|pd (rr (.sl 53 a1.vrfs))<|pd (rr (.sl 53 a1.vrfs))<|pd (rr (.sl 53 a1.vrfs))<|pc (rh [.box 31 (c31 a1) false, .n 47, .n 49, .n 88, .n 51, .n 92, .n 58, .n 53, .n 99, b0_k_names_Copy_dp, .w 47 l4, .w 49 l7, .w 88 l10, .w 51 l13, .w 92 l16, .w 58 l19, .w 53 l22])<|pc (k_slices_Clone_Vrf h21)<|pd (rr (.op 0 1 0 7))<|pd (rr (.op 0 1 0 7))<|pd (rr (.op 0 1 0 7))<|pc (rr (.op 0 1 0 7))<|pd (rr (.sl 99 a1.irbs))<|pd (rr (.sl 99 a1.irbs))<|pd (rr (.sl 99 a1.irbs))<|pc (rr (.sl 99 a1.irbs))<|pc (rh [.box 31 (c31 a1) false, .n 47, .n 49, .n 88, .n 51, .n 92, .n 58, .n 53, .n 99, b0_k_names_Copy_dp, .w 47 l4, .w 49 l7, .w 88 l10, .w 51 l13, .w 92 l16, .w 58 l19, .w 53 l22, .w 99 l25])<|pc (k_slices_Clone_Irb h24)<|pc (im99 l25)<|pc (rn l7.length)<|pc (k_names_Copy_dp_L1 _ _ h43)<|pc (rn l13.length)<|pc (k_names_Copy_dp_L2 _ _ h62)<|pc (rn l19.length)<|pc (k_names_Copy_dp_L3 _ _ h81)<|pc (rn l22.length)<|pc (k_names_Copy_dp_L4 _ _ h103)<|pn)

theorem k_slices_Equal_Device_L1 {a1 : List Api_Device} {a2 : List Api_Device} : LoopOK Try.prog UU 0 26 (subC (codeOf Try.f36) [1, 1, 0, 1, 0, 0]) (ρ := Unit ⊕ Unit) (slices_Equal_Device_L1 a1 a2)
  (fun v4 : Int => ([(0, .sl 47 a1), (1, .sl 47 a2), (4, .y false), (12, .j (a1.length : Int)), (13, .j v4)] : Fr DD)) (fun v4 : Int => ([] : Heap DD)) (fun r => match r with | Sum.inl _ => .ret | Sum.inr _ => .exit 0) (fun r => match r with | Sum.inl _ => [(4, .y false)] | Sum.inr _ => [(4, .y false)]) (fun r => match r with | Sum.inl _ => [] | Sum.inr _ => []) := by
 refine loop_sound3 (fun s q h => ?_) (fun r => ?_)
 ·replace h : slices_Equal_Device_L1 a1 a2 s = some q := h; revert h; revert s; intro v4 h
  unfold slices_Equal_Device_L1 at h
  obtain ⟨h5, h⟩|⟨h5, h⟩ := ite_out h
  ·obtain ⟨x6, h7, h⟩ := bo h
   obtain ⟨x8, h9, h⟩ := bo h
   obtain ⟨h10, h⟩|⟨h10, h⟩ := ite_out h
   ·obtain rfl := oi h; exact rl [4] [] [.t, .row (c47 x6), .row (c47 x8), .t] (pc h5<|pc (ob47 h7)<|pc (ob47 h9)<|pc h10<|pn)
   ·obtain rfl := oi h; exact rl [0, 1, 4, 12, 13] [] [.t, .row (c47 x6), .row (c47 x8), .f] (pc h5<|pc (ob47 h7)<|pc (ob47 h9)<|pc h10<|pn)
  ·obtain rfl := oi h; exact rl [4] [] [.f] (pc h5<|pn)
 ·rcases r with _ | _ <;> exact Ex.noConfusion

theorem k_slices_Equal_Device {a1 : List Api_Device} {a2 : List Api_Device} {r : Bool} (h : slices_Equal_Device a1 a2 = some r) :
  CallsOK Try.prog UU 36 [.sl 47 a1, .sl 47 a2] [] (.y r) [] := by
 unfold slices_Equal_Device at h
 obtain ⟨h3, h⟩|⟨h3, h⟩ := ite_out h
 ·obtain rfl := oi h; exact rf Try.func36 none [.t] (pc h3<|pn)
 ·obtain ⟨r12, h11, h⟩ := bo h
  rcases r12 with _ | _
  ·obtain rfl := oi h; exact rf Try.func36 none [.f, .sum [0, 1, 4, 12, 13] [] .ret [(4, .y false)] []] (pc h3<|pc (k_slices_Equal_Device_L1 _ _ h11)<|pn)
  ·obtain rfl := oi h; exact rf Try.func36 none [.f, .sum [0, 1, 4, 12, 13] [] (.exit 0) [(4, .y false)] []] (pc h3<|pc (k_slices_Equal_Device_L1 _ _ h11)<|pn)

theorem k_slices_Equal_Link_L1 {a1 : List Api_Link} {a2 : List Api_Link} : LoopOK Try.prog UU 0 26 (subC (codeOf Try.f37) [1, 1, 0, 1, 0, 0]) (ρ := Unit ⊕ Unit) (slices_Equal_Link_L1 a1 a2)
  (fun v4 : Int => ([(0, .sl 88 a1), (1, .sl 88 a2), (4, .y false), (12, .j (a1.length : Int)), (13, .j v4)] : Fr DD)) (fun v4 : Int => ([] : Heap DD)) (fun r => match r with | Sum.inl _ => .ret | Sum.inr _ => .exit 0) (fun r => match r with | Sum.inl _ => [(4, .y false)] | Sum.inr _ => [(4, .y false)]) (fun r => match r with | Sum.inl _ => [] | Sum.inr _ => []) := by
 refine loop_sound3 (fun s q h => ?_) (fun r => ?_)
 ·replace h : slices_Equal_Link_L1 a1 a2 s = some q := h; revert h; revert s; intro v4 h
  unfold slices_Equal_Link_L1 at h
  obtain ⟨h5, h⟩|⟨h5, h⟩ := ite_out h
  ·obtain ⟨x6, h7, h⟩ := bo h
   obtain ⟨x8, h9, h⟩ := bo h
   obtain ⟨h10, h⟩|⟨h10, h⟩ := ite_out h
   ·obtain rfl := oi h; exact rl [4] [] [.t, .row (c88 x6), .row (c88 x8), .t] (pc h5<|pc (ob88 h7)<|pc (ob88 h9)<|pc h10<|pn)
   ·obtain rfl := oi h; exact rl [0, 1, 4, 12, 13] [] [.t, .row (c88 x6), .row (c88 x8), .f] (pc h5<|pc (ob88 h7)<|pc (ob88 h9)<|pc h10<|pn)
  ·obtain rfl := oi h; exact rl [4] [] [.f] (pc h5<|pn)
 ·rcases r with _ | _ <;> exact Ex.noConfusion

theorem k_slices_Equal_Link {a1 : List Api_Link} {a2 : List Api_Link} {r : Bool} (h : slices_Equal_Link a1 a2 = some r) :
  CallsOK Try.prog UU 37 [.sl 88 a1, .sl 88 a2] [] (.y r) [] := by
 unfold slices_Equal_Link at h
 obtain ⟨h3, h⟩|⟨h3, h⟩ := ite_out h
 ·obtain rfl := oi h; exact rf Try.func37 none [.t] (pc h3<|pn)
 ·obtain ⟨r12, h11, h⟩ := bo h
  rcases r12 with _ | _
  ·obtain rfl := oi h; exact rf Try.func37 none [.f, .sum [0, 1, 4, 12, 13] [] .ret [(4, .y false)] []] (pc h3<|pc (k_slices_Equal_Link_L1 _ _ h11)<|pn)
  ·obtain rfl := oi h; exact rf Try.func37 none [.f, .sum [0, 1, 4, 12, 13] [] (.exit 0) [(4, .y false)] []] (pc h3<|pc (k_slices_Equal_Link_L1 _ _ h11)<|pn)

theorem k_slices_Equal_Static_L1 {a1 : List Api_Static} {a2 : List Api_Static} : LoopOK Try.prog UU 0 26 (subC (codeOf Try.f38) [1, 1, 0, 1, 0, 0]) (ρ := Unit ⊕ Unit) (slices_Equal_Static_L1 a1 a2)
  (fun v4 : Int => ([(0, .sl 92 a1), (1, .sl 92 a2), (4, .y false), (12, .j (a1.length : Int)), (13, .j v4)] : Fr DD)) (fun v4 : Int => ([] : Heap DD)) (fun r => match r with | Sum.inl _ => .ret | Sum.inr _ => .exit 0) (fun r => match r with | Sum.inl _ => [(4, .y false)] | Sum.inr _ => [(4, .y false)]) (fun r => match r with | Sum.inl _ => [] | Sum.inr _ => []) := by
 refine loop_sound3 (fun s q h => ?_) (fun r => ?_)
 ·replace h : slices_Equal_Static_L1 a1 a2 s = some q := h; revert h; revert s; intro v4 h
  unfold slices_Equal_Static_L1 at h
  obtain ⟨h5, h⟩|⟨h5, h⟩ := ite_out h
  ·obtain ⟨x6, h7, h⟩ := bo h
   obtain ⟨x8, h9, h⟩ := bo h
   obtain ⟨h10, h⟩|⟨h10, h⟩ := ite_out h
   ·obtain rfl := oi h; exact rl [4] [] [.t, .row (c92 x6), .row (c92 x8), .t] (pc h5<|pc (ob92 h7)<|pc (ob92 h9)<|pc h10<|pn)
   ·obtain rfl := oi h; exact rl [0, 1, 4, 12, 13] [] [.t, .row (c92 x6), .row (c92 x8), .f] (pc h5<|pc (ob92 h7)<|pc (ob92 h9)<|pc h10<|pn)
  ·obtain rfl := oi h; exact rl [4] [] [.f] (pc h5<|pn)
 ·rcases r with _ | _ <;> exact Ex.noConfusion

theorem k_slices_Equal_Static {a1 : List Api_Static} {a2 : List Api_Static} {r : Bool} (h : slices_Equal_Static a1 a2 = some r) :
  CallsOK Try.prog UU 38 [.sl 92 a1, .sl 92 a2] [] (.y r) [] := by
 unfold slices_Equal_Static at h
 obtain ⟨h3, h⟩|⟨h3, h⟩ := ite_out h
 ·obtain rfl := oi h; exact rf Try.func38 none [.t] (pc h3<|pn)
 ·obtain ⟨r12, h11, h⟩ := bo h
  rcases r12 with _ | _
  ·obtain rfl := oi h; exact rf Try.func38 none [.f, .sum [0, 1, 4, 12, 13] [] .ret [(4, .y false)] []] (pc h3<|pc (k_slices_Equal_Static_L1 _ _ h11)<|pn)
  ·obtain rfl := oi h; exact rf Try.func38 none [.f, .sum [0, 1, 4, 12, 13] [] (.exit 0) [(4, .y false)] []] (pc h3<|pc (k_slices_Equal_Static_L1 _ _ h11)<|pn)

theorem k_slices_Equal_Irb_L1 {a1 : List Api_Irb} {a2 : List Api_Irb} : LoopOK Try.prog UU 0 26 (subC (codeOf Try.f39) [1, 1, 0, 1, 0, 0]) (ρ := Unit ⊕ Unit) (slices_Equal_Irb_L1 a1 a2)
  (fun v4 : Int => ([(0, .sl 99 a1), (1, .sl 99 a2), (4, .y false), (12, .j (a1.length : Int)), (13, .j v4)] : Fr DD)) (fun v4 : Int => ([] : Heap DD)) (fun r => match r with | Sum.inl _ => .ret | Sum.inr _ => .exit 0) (fun r => match r with | Sum.inl _ => [(4, .y false)] | Sum.inr _ => [(4, .y false)]) (fun r => match r with | Sum.inl _ => [] | Sum.inr _ => []) := by
 refine loop_sound3 (fun s q h => ?_) (fun r => ?_)
 ·replace h : slices_Equal_Irb_L1 a1 a2 s = some q := h; revert h; revert s; intro v4 h
  unfold slices_Equal_Irb_L1 at h
  obtain ⟨h5, h⟩|⟨h5, h⟩ := ite_out h
  ·obtain ⟨x6, h7, h⟩ := bo h
   obtain ⟨x8, h9, h⟩ := bo h
   obtain ⟨h10, h⟩|⟨h10, h⟩ := ite_out h
   ·obtain rfl := oi h; exact rl [4] [] [.t, .row (c99 x6), .row (c99 x8), .t] (pc h5<|pc (ob99 h7)<|pc (ob99 h9)<|pc h10<|pn)
   ·obtain rfl := oi h; exact rl [0, 1, 4, 12, 13] [] [.t, .row (c99 x6), .row (c99 x8), .f] (pc h5<|pc (ob99 h7)<|pc (ob99 h9)<|pc h10<|pn)
  ·obtain rfl := oi h; exact rl [4] [] [.f] (pc h5<|pn)
 ·rcases r with _ | _ <;> exact Ex.noConfusion

theorem k_slices_Equal_Irb {a1 : List Api_Irb} {a2 : List Api_Irb} {r : Bool} (h : slices_Equal_Irb a1 a2 = some r) :
  CallsOK Try.prog UU 39 [.sl 99 a1, .sl 99 a2] [] (.y r) [] := by
 unfold slices_Equal_Irb at h
 obtain ⟨h3, h⟩|⟨h3, h⟩ := ite_out h
 ·obtain rfl := oi h; exact rf Try.func39 none [.t] (pc h3<|pn)
 ·obtain ⟨r12, h11, h⟩ := bo h
  rcases r12 with _ | _
  ·obtain rfl := oi h; exact rf Try.func39 none [.f, .sum [0, 1, 4, 12, 13] [] .ret [(4, .y false)] []] (pc h3<|pc (k_slices_Equal_Irb_L1 _ _ h11)<|pn)
  ·obtain rfl := oi h; exact rf Try.func39 none [.f, .sum [0, 1, 4, 12, 13] [] (.exit 0) [(4, .y false)] []] (pc h3<|pc (k_slices_Equal_Irb_L1 _ _ h11)<|pn)

theorem k_slices_Equal_int_L1 {a1 : List Int} {a2 : List Int} : LoopOK Try.prog UU 0 26 (subC (codeOf Try.f42) [1, 1, 0, 1, 0, 0]) (ρ := Unit ⊕ Unit) (slices_Equal_int_L1 a1 a2)
  (fun v4 : Int => ([(0, .sl 3 a1), (1, .sl 3 a2), (4, .y false), (12, .j (a1.length : Int)), (13, .j v4)] : Fr DD)) (fun v4 : Int => ([] : Heap DD)) (fun r => match r with | Sum.inl _ => .ret | Sum.inr _ => .exit 0) (fun r => match r with | Sum.inl _ => [(4, .y false)] | Sum.inr _ => [(4, .y false)]) (fun r => match r with | Sum.inl _ => [] | Sum.inr _ => []) := by
 refine loop_sound3 (fun s q h => ?_) (fun r => ?_)
 ·replace h : slices_Equal_int_L1 a1 a2 s = some q := h; revert h; revert s; intro v4 h
  unfold slices_Equal_int_L1 at h
  obtain ⟨h5, h⟩|⟨h5, h⟩ := ite_out h
  ·obtain ⟨x6, h7, h⟩ := bo h
   obtain ⟨x8, h9, h⟩ := bo h
   obtain ⟨h10, h⟩|⟨h10, h⟩ := ite_out h
   ·obtain rfl := oi h; exact rl [4] [] [.t, .row (c3 x6), .row (c3 x8), .t] (pc h5<|pc (ob3 h7)<|pc (ob3 h9)<|pc h10<|pn)
   ·obtain rfl := oi h; exact rl [0, 1, 4, 12, 13] [] [.t, .row (c3 x6), .row (c3 x8), .f] (pc h5<|pc (ob3 h7)<|pc (ob3 h9)<|pc h10<|pn)
  ·obtain rfl := oi h; exact rl [4] [] [.f] (pc h5<|pn)
 ·rcases r with _ | _ <;> exact Ex.noConfusion

theorem k_slices_Equal_int {a1 : List Int} {a2 : List Int} {r : Bool} (h : slices_Equal_int a1 a2 = some r) :
  CallsOK Try.prog UU 42 [.sl 3 a1, .sl 3 a2] [] (.y r) [] := by
 unfold slices_Equal_int at h
 obtain ⟨h3, h⟩|⟨h3, h⟩ := ite_out h
 ·obtain rfl := oi h; exact rf Try.func42 none [.t] (pc h3<|pn)
 ·obtain ⟨r12, h11, h⟩ := bo h
  rcases r12 with _ | _
  ·obtain rfl := oi h; exact rf Try.func42 none [.f, .sum [0, 1, 4, 12, 13] [] .ret [(4, .y false)] []] (pc h3<|pc (k_slices_Equal_int_L1 _ _ h11)<|pn)
  ·obtain rfl := oi h; exact rf Try.func42 none [.f, .sum [0, 1, 4, 12, 13] [] (.exit 0) [(4, .y false)] []] (pc h3<|pc (k_slices_Equal_int_L1 _ _ h11)<|pn)

theorem k_names_Same_1 {a1 : Api_Port} {a2 : Api_Port} {r : Bool} (h : names_Same_1 a1 a2 = some r) :
  CallsOK Try.prog UU 41 [.agg (c49 a1), .agg (c49 a2)] [] (.y r) [] := by
 unfold names_Same_1 at h
 obtain ⟨h3, h⟩|⟨h3, h⟩ := ite_out h
 ·obtain ⟨h4, h⟩|⟨h4, h⟩ := ite_out h
  ·obtain ⟨h5, h⟩|⟨h5, h⟩ := ite_out h
   ·obtain ⟨h6, h⟩|⟨h6, h⟩ := ite_out h
    ·obtain ⟨h7, h⟩|⟨h7, h⟩ := ite_out h
     ·obtain ⟨h8, h⟩|⟨h8, h⟩ := ite_out h
      ·obtain ⟨r9, h10, h⟩ := bo h
       obtain rfl := oi h; exact rf Try.func41 none [.t, .t, .t, .t, .t, .t, .b r9] (pc h3<|pc h4<|pc h5<|pc h6<|pc h7<|pc h8<|pc (k_slices_Equal_int h10)<|pn)
      ·obtain rfl := oi h; exact rf Try.func41 none [.t, .t, .t, .t, .t, .f] (pc h3<|pc h4<|pc h5<|pc h6<|pc h7<|pc h8<|pn)
     ·obtain rfl := oi h; exact rf Try.func41 none [.t, .t, .t, .t, .f] (pc h3<|pc h4<|pc h5<|pc h6<|pc h7<|pn)
    ·obtain rfl := oi h; exact rf Try.func41 none [.t, .t, .t, .f] (pc h3<|pc h4<|pc h5<|pc h6<|pn)
   ·obtain rfl := oi h; exact rf Try.func41 none [.t, .t, .f] (pc h3<|pc h4<|pc h5<|pn)
  ·obtain rfl := oi h; exact rf Try.func41 none [.t, .f] (pc h3<|pc h4<|pn)
 ·obtain rfl := oi h; exact rf Try.func41 none [.f] (pc h3<|pn)

theorem k_slices_EqualFunc_Port_Same_1_L1 {a1 : List Api_Port} {a2 : List Api_Port} : LoopOK Try.prog UU 0 32 (subC (codeOf Try.f40) [1, 1, 0, 1, 0, 0]) (ρ := Unit ⊕ Unit) (slices_EqualFunc_Port_Same_1_L1 a1 a2)
  (fun v4 : Int => ([(1, .sl 49 a2), (2, .fn (.func 41) [] []), (6, .y false), (15, .sl 49 a1), (16, .j (a1.length : Int)), (17, .j v4)] : Fr DD)) (fun v4 : Int => ([] : Heap DD)) (fun r => match r with | Sum.inl _ => .ret | Sum.inr _ => .exit 0) (fun r => match r with | Sum.inl _ => [(6, .y false)] | Sum.inr _ => [(6, .y false)]) (fun r => match r with | Sum.inl _ => [] | Sum.inr _ => []) := by
 refine loop_sound3 (fun s q h => ?_) (fun r => ?_)
 ·replace h : slices_EqualFunc_Port_Same_1_L1 a1 a2 s = some q := h; revert h; revert s; intro v4 h
  unfold slices_EqualFunc_Port_Same_1_L1 at h
  obtain ⟨h5, h⟩|⟨h5, h⟩ := ite_out h
  ·obtain ⟨x6, h7, h⟩ := bo h
   obtain ⟨x8, h9, h⟩ := bo h
   obtain ⟨r10, h11, h⟩ := bo h
   obtain ⟨h12, h⟩|⟨h12, h⟩ := ite_out h
   ·obtain rfl := oi h; exact rl [6] [] [.t, .row (c49 x6), .row (c49 x8), .b r10, .t] (pc h5<|pc (ob49 h7)<|pc (ob49 h9)<|pc (k_names_Same_1 h11)<|pc h12<|pn)
   ·obtain rfl := oi h; exact rl [1, 2, 6, 15, 16, 17] [] [.t, .row (c49 x6), .row (c49 x8), .b r10, .f] (pc h5<|pc (ob49 h7)<|pc (ob49 h9)<|pc (k_names_Same_1 h11)<|pc h12<|pn)
  ·obtain rfl := oi h; exact rl [6] [] [.f] (pc h5<|pn)
 ·rcases r with _ | _ <;> exact Ex.noConfusion

theorem k_slices_EqualFunc_Port_Same_1 {a1 : List Api_Port} {a2 : List Api_Port} {r : Bool} (h : slices_EqualFunc_Port_Same_1 a1 a2 = some r) :
  CallsOK Try.prog UU 40 [.sl 49 a1, .sl 49 a2, .fn (.func 41) [] []] [] (.y r) [] := by
 unfold slices_EqualFunc_Port_Same_1 at h
 obtain ⟨h3, h⟩|⟨h3, h⟩ := ite_out h
 ·obtain rfl := oi h; exact rf Try.func40 none [.t] (pc h3<|pn)
 ·obtain ⟨r14, h13, h⟩ := bo h
  rcases r14 with _ | _
  ·obtain rfl := oi h; exact rf Try.func40 none [.f, .sum [1, 2, 6, 15, 16, 17] [] .ret [(6, .y false)] []] (pc h3<|pc (k_slices_EqualFunc_Port_Same_1_L1 _ _ h13)<|pn)
  ·obtain rfl := oi h; exact rf Try.func40 none [.f, .sum [1, 2, 6, 15, 16, 17] [] (.exit 0) [(6, .y false)] []] (pc h3<|pc (k_slices_EqualFunc_Port_Same_1_L1 _ _ h13)<|pn)

theorem k_names_Same_2 {a1 : Api_Domain} {a2 : Api_Domain} {r : Bool} (h : names_Same_2 a1 a2 = some r) :
  CallsOK Try.prog UU 44 [.agg (c51 a1), .agg (c51 a2)] [] (.y r) [] := by
 unfold names_Same_2 at h
 obtain ⟨h3, h⟩|⟨h3, h⟩ := ite_out h
 ·obtain ⟨h4, h⟩|⟨h4, h⟩ := ite_out h
  ·obtain ⟨h5, h⟩|⟨h5, h⟩ := ite_out h
   ·obtain ⟨h6, h⟩|⟨h6, h⟩ := ite_out h
    ·obtain ⟨h7, h⟩|⟨h7, h⟩ := ite_out h
     ·obtain ⟨r8, h9, h⟩ := bo h
      obtain rfl := oi h; exact rf Try.func44 none [.t, .t, .t, .t, .t, .b r8] (pc h3<|pc h4<|pc h5<|pc h6<|pc h7<|pc (k_slices_Equal_int h9)<|pn)
     ·obtain rfl := oi h; exact rf Try.func44 none [.t, .t, .t, .t, .f] (pc h3<|pc h4<|pc h5<|pc h6<|pc h7<|pn)
    ·obtain rfl := oi h; exact rf Try.func44 none [.t, .t, .t, .f] (pc h3<|pc h4<|pc h5<|pc h6<|pn)
   ·obtain rfl := oi h; exact rf Try.func44 none [.t, .t, .f] (pc h3<|pc h4<|pc h5<|pn)
  ·obtain rfl := oi h; exact rf Try.func44 none [.t, .f] (pc h3<|pc h4<|pn)
 ·obtain rfl := oi h; exact rf Try.func44 none [.f] (pc h3<|pn)

theorem k_slices_EqualFunc_Domain_Same_2_L1 {a1 : List Api_Domain} {a2 : List Api_Domain} : LoopOK Try.prog UU 0 32 (subC (codeOf Try.f43) [1, 1, 0, 1, 0, 0]) (ρ := Unit ⊕ Unit) (slices_EqualFunc_Domain_Same_2_L1 a1 a2)
  (fun v4 : Int => ([(1, .sl 51 a2), (2, .fn (.func 44) [] []), (6, .y false), (15, .sl 51 a1), (16, .j (a1.length : Int)), (17, .j v4)] : Fr DD)) (fun v4 : Int => ([] : Heap DD)) (fun r => match r with | Sum.inl _ => .ret | Sum.inr _ => .exit 0) (fun r => match r with | Sum.inl _ => [(6, .y false)] | Sum.inr _ => [(6, .y false)]) (fun r => match r with | Sum.inl _ => [] | Sum.inr _ => []) := by
 refine loop_sound3 (fun s q h => ?_) (fun r => ?_)
 ·replace h : slices_EqualFunc_Domain_Same_2_L1 a1 a2 s = some q := h; revert h; revert s; intro v4 h
  unfold slices_EqualFunc_Domain_Same_2_L1 at h
  obtain ⟨h5, h⟩|⟨h5, h⟩ := ite_out h
  ·obtain ⟨x6, h7, h⟩ := bo h
   obtain ⟨x8, h9, h⟩ := bo h
   obtain ⟨r10, h11, h⟩ := bo h
   obtain ⟨h12, h⟩|⟨h12, h⟩ := ite_out h
   ·obtain rfl := oi h; exact rl [6] [] [.t, .row (c51 x6), .row (c51 x8), .b r10, .t] (pc h5<|pc (ob51 h7)<|pc (ob51 h9)<|pc (k_names_Same_2 h11)<|pc h12<|pn)
   ·obtain rfl := oi h; exact rl [1, 2, 6, 15, 16, 17] [] [.t, .row (c51 x6), .row (c51 x8), .b r10, .f] (pc h5<|pc (ob51 h7)<|pc (ob51 h9)<|pc (k_names_Same_2 h11)<|pc h12<|pn)
  ·obtain rfl := oi h; exact rl [6] [] [.f] (pc h5<|pn)
 ·rcases r with _ | _ <;> exact Ex.noConfusion

theorem k_slices_EqualFunc_Domain_Same_2 {a1 : List Api_Domain} {a2 : List Api_Domain} {r : Bool} (h : slices_EqualFunc_Domain_Same_2 a1 a2 = some r) :
  CallsOK Try.prog UU 43 [.sl 51 a1, .sl 51 a2, .fn (.func 44) [] []] [] (.y r) [] := by
 unfold slices_EqualFunc_Domain_Same_2 at h
 obtain ⟨h3, h⟩|⟨h3, h⟩ := ite_out h
 ·obtain rfl := oi h; exact rf Try.func43 none [.t] (pc h3<|pn)
 ·obtain ⟨r14, h13, h⟩ := bo h
  rcases r14 with _ | _
  ·obtain rfl := oi h; exact rf Try.func43 none [.f, .sum [1, 2, 6, 15, 16, 17] [] .ret [(6, .y false)] []] (pc h3<|pc (k_slices_EqualFunc_Domain_Same_2_L1 _ _ h13)<|pn)
  ·obtain rfl := oi h; exact rf Try.func43 none [.f, .sum [1, 2, 6, 15, 16, 17] [] (.exit 0) [(6, .y false)] []] (pc h3<|pc (k_slices_EqualFunc_Domain_Same_2_L1 _ _ h13)<|pn)

theorem k_slices_Equal_uint32_L1 {a1 : List Int} {a2 : List Int} : LoopOK Try.prog UU 0 26 (subC (codeOf Try.f47) [1, 1, 0, 1, 0, 0]) (ρ := Unit ⊕ Unit) (slices_Equal_uint32_L1 a1 a2)
  (fun v4 : Int => ([(0, .sl 45 a1), (1, .sl 45 a2), (4, .y false), (12, .j (a1.length : Int)), (13, .j v4)] : Fr DD)) (fun v4 : Int => ([] : Heap DD)) (fun r => match r with | Sum.inl _ => .ret | Sum.inr _ => .exit 0) (fun r => match r with | Sum.inl _ => [(4, .y false)] | Sum.inr _ => [(4, .y false)]) (fun r => match r with | Sum.inl _ => [] | Sum.inr _ => []) := by
 refine loop_sound3 (fun s q h => ?_) (fun r => ?_)
 ·replace h : slices_Equal_uint32_L1 a1 a2 s = some q := h; revert h; revert s; intro v4 h
  unfold slices_Equal_uint32_L1 at h
  obtain ⟨h5, h⟩|⟨h5, h⟩ := ite_out h
  ·obtain ⟨x6, h7, h⟩ := bo h
   obtain ⟨x8, h9, h⟩ := bo h
   obtain ⟨h10, h⟩|⟨h10, h⟩ := ite_out h
   ·obtain rfl := oi h; exact rl [4] [] [.t, .row (c45 x6), .row (c45 x8), .t] (pc h5<|pc (ob45 h7)<|pc (ob45 h9)<|pc h10<|pn)
   ·obtain rfl := oi h; exact rl [0, 1, 4, 12, 13] [] [.t, .row (c45 x6), .row (c45 x8), .f] (pc h5<|pc (ob45 h7)<|pc (ob45 h9)<|pc h10<|pn)
  ·obtain rfl := oi h; exact rl [4] [] [.f] (pc h5<|pn)
 ·rcases r with _ | _ <;> exact Ex.noConfusion

theorem k_slices_Equal_uint32 {a1 : List Int} {a2 : List Int} {r : Bool} (h : slices_Equal_uint32 a1 a2 = some r) :
  CallsOK Try.prog UU 47 [.sl 45 a1, .sl 45 a2] [] (.y r) [] := by
 unfold slices_Equal_uint32 at h
 obtain ⟨h3, h⟩|⟨h3, h⟩ := ite_out h
 ·obtain rfl := oi h; exact rf Try.func47 none [.t] (pc h3<|pn)
 ·obtain ⟨r12, h11, h⟩ := bo h
  rcases r12 with _ | _
  ·obtain rfl := oi h; exact rf Try.func47 none [.f, .sum [0, 1, 4, 12, 13] [] .ret [(4, .y false)] []] (pc h3<|pc (k_slices_Equal_uint32_L1 _ _ h11)<|pn)
  ·obtain rfl := oi h; exact rf Try.func47 none [.f, .sum [0, 1, 4, 12, 13] [] (.exit 0) [(4, .y false)] []] (pc h3<|pc (k_slices_Equal_uint32_L1 _ _ h11)<|pn)

theorem k_names_Same_3 {a1 : Api_Flood} {a2 : Api_Flood} {r : Bool} (h : names_Same_3 a1 a2 = some r) :
  CallsOK Try.prog UU 46 [.agg (c58 a1), .agg (c58 a2)] [] (.y r) [] := by
 unfold names_Same_3 at h
 obtain ⟨h3, h⟩|⟨h3, h⟩ := ite_out h
 ·obtain ⟨h4, h⟩|⟨h4, h⟩ := ite_out h
  ·obtain ⟨h5, h⟩|⟨h5, h⟩ := ite_out h
   ·obtain ⟨r6, h7, h⟩ := bo h
    obtain rfl := oi h; exact rf Try.func46 none [.t, .t, .t, .b r6] (pc h3<|pc h4<|pc h5<|pc (k_slices_Equal_uint32 h7)<|pn)
   ·obtain rfl := oi h; exact rf Try.func46 none [.t, .t, .f] (pc h3<|pc h4<|pc h5<|pn)
  ·obtain rfl := oi h; exact rf Try.func46 none [.t, .f] (pc h3<|pc h4<|pn)
 ·obtain rfl := oi h; exact rf Try.func46 none [.f] (pc h3<|pn)

theorem k_slices_EqualFunc_Flood_Same_3_L1 {a1 : List Api_Flood} {a2 : List Api_Flood} : LoopOK Try.prog UU 0 32 (subC (codeOf Try.f45) [1, 1, 0, 1, 0, 0]) (ρ := Unit ⊕ Unit) (slices_EqualFunc_Flood_Same_3_L1 a1 a2)
  (fun v4 : Int => ([(1, .sl 58 a2), (2, .fn (.func 46) [] []), (6, .y false), (15, .sl 58 a1), (16, .j (a1.length : Int)), (17, .j v4)] : Fr DD)) (fun v4 : Int => ([] : Heap DD)) (fun r => match r with | Sum.inl _ => .ret | Sum.inr _ => .exit 0) (fun r => match r with | Sum.inl _ => [(6, .y false)] | Sum.inr _ => [(6, .y false)]) (fun r => match r with | Sum.inl _ => [] | Sum.inr _ => []) := by
 refine loop_sound3 (fun s q h => ?_) (fun r => ?_)
 ·replace h : slices_EqualFunc_Flood_Same_3_L1 a1 a2 s = some q := h; revert h; revert s; intro v4 h
  unfold slices_EqualFunc_Flood_Same_3_L1 at h
  obtain ⟨h5, h⟩|⟨h5, h⟩ := ite_out h
  ·obtain ⟨x6, h7, h⟩ := bo h
   obtain ⟨x8, h9, h⟩ := bo h
   obtain ⟨r10, h11, h⟩ := bo h
   obtain ⟨h12, h⟩|⟨h12, h⟩ := ite_out h
   ·obtain rfl := oi h; exact rl [6] [] [.t, .row (c58 x6), .row (c58 x8), .b r10, .t] (pc h5<|pc (ob58 h7)<|pc (ob58 h9)<|pc (k_names_Same_3 h11)<|pc h12<|pn)
   ·obtain rfl := oi h; exact rl [1, 2, 6, 15, 16, 17] [] [.t, .row (c58 x6), .row (c58 x8), .b r10, .f] (pc h5<|pc (ob58 h7)<|pc (ob58 h9)<|pc (k_names_Same_3 h11)<|pc h12<|pn)
  ·obtain rfl := oi h; exact rl [6] [] [.f] (pc h5<|pn)
 ·rcases r with _ | _ <;> exact Ex.noConfusion

theorem k_slices_EqualFunc_Flood_Same_3 {a1 : List Api_Flood} {a2 : List Api_Flood} {r : Bool} (h : slices_EqualFunc_Flood_Same_3 a1 a2 = some r) :
  CallsOK Try.prog UU 45 [.sl 58 a1, .sl 58 a2, .fn (.func 46) [] []] [] (.y r) [] := by
 unfold slices_EqualFunc_Flood_Same_3 at h
 obtain ⟨h3, h⟩|⟨h3, h⟩ := ite_out h
 ·obtain rfl := oi h; exact rf Try.func45 none [.t] (pc h3<|pn)
 ·obtain ⟨r14, h13, h⟩ := bo h
  rcases r14 with _ | _
  ·obtain rfl := oi h; exact rf Try.func45 none [.f, .sum [1, 2, 6, 15, 16, 17] [] .ret [(6, .y false)] []] (pc h3<|pc (k_slices_EqualFunc_Flood_Same_3_L1 _ _ h13)<|pn)
  ·obtain rfl := oi h; exact rf Try.func45 none [.f, .sum [1, 2, 6, 15, 16, 17] [] (.exit 0) [(6, .y false)] []] (pc h3<|pc (k_slices_EqualFunc_Flood_Same_3_L1 _ _ h13)<|pn)

theorem k_names_Same_4 {a1 : Api_Vrf} {a2 : Api_Vrf} {r : Bool} (h : names_Same_4 a1 a2 = some r) :
  CallsOK Try.prog UU 49 [.agg (c53 a1), .agg (c53 a2)] [] (.y r) [] := by
 unfold names_Same_4 at h
 obtain ⟨h3, h⟩|⟨h3, h⟩ := ite_out h
 ·obtain ⟨h4, h⟩|⟨h4, h⟩ := ite_out h
  ·obtain ⟨h5, h⟩|⟨h5, h⟩ := ite_out h
   ·obtain ⟨r6, h7, h⟩ := bo h
    obtain ⟨h8, h⟩|⟨h8, h⟩ := ite_out h
    ·obtain ⟨r9, h10, h⟩ := bo h
     obtain rfl := oi h; exact rf Try.func49 none [.t, .t, .t, .b r6, .t, .b r9] (pc h3<|pc h4<|pc h5<|pc (k_slices_Equal_int h7)<|pc h8<|pc (k_slices_Equal_int h10)<|pn)
    ·obtain rfl := oi h; exact rf Try.func49 none [.t, .t, .t, .b r6, .f] (pc h3<|pc h4<|pc h5<|pc (k_slices_Equal_int h7)<|pc h8<|pn)
   ·obtain rfl := oi h; exact rf Try.func49 none [.t, .t, .f] (pc h3<|pc h4<|pc h5<|pn)
  ·obtain rfl := oi h; exact rf Try.func49 none [.t, .f] (pc h3<|pc h4<|pn)
 ·obtain rfl := oi h; exact rf Try.func49 none [.f] (pc h3<|pn)

theorem k_slices_EqualFunc_Vrf_Same_4_L1 {a1 : List Api_Vrf} {a2 : List Api_Vrf} : LoopOK Try.prog UU 0 32 (subC (codeOf Try.f48) [1, 1, 0, 1, 0, 0]) (ρ := Unit ⊕ Unit) (slices_EqualFunc_Vrf_Same_4_L1 a1 a2)
  (fun v4 : Int => ([(1, .sl 53 a2), (2, .fn (.func 49) [] []), (6, .y false), (15, .sl 53 a1), (16, .j (a1.length : Int)), (17, .j v4)] : Fr DD)) (fun v4 : Int => ([] : Heap DD)) (fun r => match r with | Sum.inl _ => .ret | Sum.inr _ => .exit 0) (fun r => match r with | Sum.inl _ => [(6, .y false)] | Sum.inr _ => [(6, .y false)]) (fun r => match r with | Sum.inl _ => [] | Sum.inr _ => []) := by
 refine loop_sound3 (fun s q h => ?_) (fun r => ?_)
 ·replace h : slices_EqualFunc_Vrf_Same_4_L1 a1 a2 s = some q := h; revert h; revert s; intro v4 h
  unfold slices_EqualFunc_Vrf_Same_4_L1 at h
  obtain ⟨h5, h⟩|⟨h5, h⟩ := ite_out h
  ·obtain ⟨x6, h7, h⟩ := bo h
   obtain ⟨x8, h9, h⟩ := bo h
   obtain ⟨r10, h11, h⟩ := bo h
   obtain ⟨h12, h⟩|⟨h12, h⟩ := ite_out h
   ·obtain rfl := oi h; exact rl [6] [] [.t, .row (c53 x6), .row (c53 x8), .b r10, .t] (pc h5<|pc (ob53 h7)<|pc (ob53 h9)<|pc (k_names_Same_4 h11)<|pc h12<|pn)
   ·obtain rfl := oi h; exact rl [1, 2, 6, 15, 16, 17] [] [.t, .row (c53 x6), .row (c53 x8), .b r10, .f] (pc h5<|pc (ob53 h7)<|pc (ob53 h9)<|pc (k_names_Same_4 h11)<|pc h12<|pn)
  ·obtain rfl := oi h; exact rl [6] [] [.f] (pc h5<|pn)
 ·rcases r with _ | _ <;> exact Ex.noConfusion

theorem k_slices_EqualFunc_Vrf_Same_4 {a1 : List Api_Vrf} {a2 : List Api_Vrf} {r : Bool} (h : slices_EqualFunc_Vrf_Same_4 a1 a2 = some r) :
  CallsOK Try.prog UU 48 [.sl 53 a1, .sl 53 a2, .fn (.func 49) [] []] [] (.y r) [] := by
 unfold slices_EqualFunc_Vrf_Same_4 at h
 obtain ⟨h3, h⟩|⟨h3, h⟩ := ite_out h
 ·obtain rfl := oi h; exact rf Try.func48 none [.t] (pc h3<|pn)
 ·obtain ⟨r14, h13, h⟩ := bo h
  rcases r14 with _ | _
  ·obtain rfl := oi h; exact rf Try.func48 none [.f, .sum [1, 2, 6, 15, 16, 17] [] .ret [(6, .y false)] []] (pc h3<|pc (k_slices_EqualFunc_Vrf_Same_4_L1 _ _ h13)<|pn)
  ·obtain rfl := oi h; exact rf Try.func48 none [.f, .sum [1, 2, 6, 15, 16, 17] [] (.exit 0) [(6, .y false)] []] (pc h3<|pc (k_slices_EqualFunc_Vrf_Same_4_L1 _ _ h13)<|pn)

theorem k_names_Same {a1 : Api_Net} {a2 : Api_Net} {r : Bool} (h : names_Same a1 a2 = some r) :
  CallsOK Try.prog UU 12 [.agg (c31 a1), .agg (c31 a2)] [] (.y r) [] := by
 unfold names_Same at h
 obtain ⟨r3, h4, h⟩ := bo h
 obtain ⟨h5, h⟩|⟨h5, h⟩ := ite_out h
 ·obtain ⟨r6, h7, h⟩ := bo h
  obtain ⟨h8, h⟩|⟨h8, h⟩ := ite_out h
  ·obtain ⟨r9, h10, h⟩ := bo h
   obtain ⟨h11, h⟩|⟨h11, h⟩ := ite_out h
   ·obtain ⟨r12, h13, h⟩ := bo h
    obtain ⟨h14, h⟩|⟨h14, h⟩ := ite_out h
    ·obtain ⟨r15, h16, h⟩ := bo h
     obtain ⟨h17, h⟩|⟨h17, h⟩ := ite_out h
     ·obtain ⟨r18, h19, h⟩ := bo h
      obtain ⟨h20, h⟩|⟨h20, h⟩ := ite_out h
      ·obtain ⟨r21, h22, h⟩ := bo h
       obtain ⟨h23, h⟩|⟨h23, h⟩ := ite_out h
       ·obtain ⟨r24, h25, h⟩ := bo h
        obtain rfl := oi h; exact rf Try.func12 none [.b r3, .t, .b r6, .t, .b r9, .t, .b r12, .t, .b r15, .t, .b r18, .t, .b r21, .t, .b r24] (pc (k_slices_Equal_Device h4)<|pc h5<|pc (k_slices_Equal_Link h7)<|pc h8<|pc (k_slices_Equal_Static h10)<|pc h11<|pc (k_slices_Equal_Irb h13)<|pc h14<|pc (k_slices_EqualFunc_Port_Same_1 h16)<|pc h17<|pc (k_slices_EqualFunc_Domain_Same_2 h19)<|pc h20<|pc (k_slices_EqualFunc_Flood_Same_3 h22)<|pc h23<|pc (k_slices_EqualFunc_Vrf_Same_4 h25)<|pn)
       ·obtain rfl := oi h; exact rf Try.func12 none [.b r3, .t, .b r6, .t, .b r9, .t, .b r12, .t, .b r15, .t, .b r18, .t, .b r21, .f] (pc (k_slices_Equal_Device h4)<|pc h5<|pc (k_slices_Equal_Link h7)<|pc h8<|pc (k_slices_Equal_Static h10)<|pc h11<|pc (k_slices_Equal_Irb h13)<|pc h14<|pc (k_slices_EqualFunc_Port_Same_1 h16)<|pc h17<|pc (k_slices_EqualFunc_Domain_Same_2 h19)<|pc h20<|pc (k_slices_EqualFunc_Flood_Same_3 h22)<|pc h23<|pn)
      ·obtain rfl := oi h; exact rf Try.func12 none [.b r3, .t, .b r6, .t, .b r9, .t, .b r12, .t, .b r15, .t, .b r18, .f] (pc (k_slices_Equal_Device h4)<|pc h5<|pc (k_slices_Equal_Link h7)<|pc h8<|pc (k_slices_Equal_Static h10)<|pc h11<|pc (k_slices_Equal_Irb h13)<|pc h14<|pc (k_slices_EqualFunc_Port_Same_1 h16)<|pc h17<|pc (k_slices_EqualFunc_Domain_Same_2 h19)<|pc h20<|pn)
     ·obtain rfl := oi h; exact rf Try.func12 none [.b r3, .t, .b r6, .t, .b r9, .t, .b r12, .t, .b r15, .f] (pc (k_slices_Equal_Device h4)<|pc h5<|pc (k_slices_Equal_Link h7)<|pc h8<|pc (k_slices_Equal_Static h10)<|pc h11<|pc (k_slices_Equal_Irb h13)<|pc h14<|pc (k_slices_EqualFunc_Port_Same_1 h16)<|pc h17<|pn)
    ·obtain rfl := oi h; exact rf Try.func12 none [.b r3, .t, .b r6, .t, .b r9, .t, .b r12, .f] (pc (k_slices_Equal_Device h4)<|pc h5<|pc (k_slices_Equal_Link h7)<|pc h8<|pc (k_slices_Equal_Static h10)<|pc h11<|pc (k_slices_Equal_Irb h13)<|pc h14<|pn)
   ·obtain rfl := oi h; exact rf Try.func12 none [.b r3, .t, .b r6, .t, .b r9, .f] (pc (k_slices_Equal_Device h4)<|pc h5<|pc (k_slices_Equal_Link h7)<|pc h8<|pc (k_slices_Equal_Static h10)<|pc h11<|pn)
  ·obtain rfl := oi h; exact rf Try.func12 none [.b r3, .t, .b r6, .f] (pc (k_slices_Equal_Device h4)<|pc h5<|pc (k_slices_Equal_Link h7)<|pc h8<|pn)
 ·obtain rfl := oi h; exact rf Try.func12 none [.b r3, .f] (pc (k_slices_Equal_Device h4)<|pc h5<|pn)

end Go.Eng
