/- Part of the proof of PortsPuts: printed mirrors of the functions, or their contracts. No conditions. -/
import Derived.Test.YtgohlmiaddkkeaaGreatMAK4
set_option linter.unusedVariables false
set_option maxRecDepth 100000
namespace Go.Eng
open Go Go.Proofs
theorem k_ports_Port_L1 {a2 : Api_Line} {l19 : List Api_Device} {l20 : List Api_Port} {l21 : List Api_Link} {l23 : List Api_Static} {l24 : List Api_Flood} {l25 : List Api_Vrf} {l26 : List Api_Irb} {n29 : Nat} {n30 : Nat} {r31 : Int} {l40 : List Int} : LoopOK Tryz.prog UU 0 101 (subC (codeOf Tryz.f9) [1, 1, 1, 1, 1, 1, 1, 1, 0, 1, 0, 0]) (fun s : (List Api_Domain) × Nat × Int => match s with | (l46, n47, v48) => ports_Port_L1 a2 l19 l20 l21 l23 l24 l25 l26 n29 n30 r31 l40 l46 n47 v48)
    (fun s : (List Api_Domain) × Nat × Int => (match s with | (l46, n47, v48) => [(4, .op 0 1 0 0), (5, .z), (6, .op 9 1 0 0), (8, .j r31), (9, .fn (.func 29) [] []), (77, .sl 3 a2.tagged), (78, .j (a2.tagged.length : Int)), (79, .j v48)] : Fr DD)) (fun s : (List Api_Domain) × Nat × Int => (match s with | (l46, n47, v48) => [.box 31 [.os 1 0, .os 2 0, .os 3 0, .os 4 0, .os 5 0, .os 6 0, .os 7 0, .os 8 0] false, .n 56, .n 66, .n 93, .n 50, .n 95, .n 72, .n 75, .n 99, .box 58 [.os 10 l19.length, .os 11 (List.length (l20 ++ [(⟨a2.row, r31, a2.vlan, a2.cost, (-1), a2.port, l40⟩ : Api_Port)])), .os 12 l21.length, .os 13 n47, .os 14 l23.length, .os 15 n29, .os 16 n30, .os 17 l26.length] false, .w 56 l19, .w 66 (l20 ++ [(⟨a2.row, r31, a2.vlan, a2.cost, (-1), a2.port, l40⟩ : Api_Port)]), .w 93 l21, .arr 50 l46 n47 false, .w 95 l23, .arr 72 l24 n29 false, .arr 75 l25 n30 false, .w 99 l26] : Heap DD)) (fun r => match r with | (l62, n63) => .exit 1) (fun r => match r with | (l62, n63) => [(4, .op 0 1 0 0), (5, .z), (6, .op 9 1 0 0)]) (fun r => match r with | (l62, n63) => [.box 31 [.os 1 0, .os 2 0, .os 3 0, .os 4 0, .os 5 0, .os 6 0, .os 7 0, .os 8 0] false, .n 56, .n 66, .n 93, .n 50, .n 95, .n 72, .n 75, .n 99, .box 58 [.os 10 l19.length, .os 11 (List.length (l20 ++ [(⟨a2.row, r31, a2.vlan, a2.cost, (-1), a2.port, l40⟩ : Api_Port)])), .os 12 l21.length, .os 13 n63, .os 14 l23.length, .os 15 n29, .os 16 n30, .os 17 l26.length] false, .w 56 l19, .w 66 (l20 ++ [(⟨a2.row, r31, a2.vlan, a2.cost, (-1), a2.port, l40⟩ : Api_Port)]), .w 93 l21, .arr 50 l62 n63 false, .w 95 l23, .arr 72 l24 n29 false, .arr 75 l25 n30 false, .w 99 l26]) := by
  refine loop_sound3 (fun s q h => ?_) (fun r => ?_)
  · obtain ⟨l46, n47, v48⟩ := s; replace h : ports_Port_L1 a2 l19 l20 l21 l23 l24 l25 l26 n29 n30 r31 l40 l46 n47 v48 = some q := h
    unfold ports_Port_L1 at h
    obtain ⟨h49, h⟩|⟨h49, h⟩ := ite_out h
    · obtain ⟨x50, h51, h⟩ := bo h
      obtain ⟨r52, h53, h⟩ := bo h
      obtain ⟨l54, n55⟩ := r52
      injection h with h; subst h; exact rl [4, 5, 6, 8, 9, 77, 78, 79] [0, 1, 2, 3, 4, 5, 6, 7, 8, 9, 10, 11, 12, 13, 14, 15, 16, 17] [.t, .row (c3 x50), .callm [9, 10, 11, 12, 13, 14, 15, 16, 17] (.tup []) [.box 58 [.os 1 l19.length, .os 2 (List.length (l20 ++ [(⟨a2.row, r31, a2.vlan, a2.cost, (-1), a2.port, l40⟩ : Api_Port)])), .os 3 l21.length, .os 4 n55, .os 5 l23.length, .os 6 n29, .os 7 n30, .os 8 l26.length] false, .w 56 l19, .w 66 (l20 ++ [(⟨a2.row, r31, a2.vlan, a2.cost, (-1), a2.port, l40⟩ : Api_Port)]), .w 93 l21, .arr 50 l54 n55 false, .w 95 l23, .arr 72 l24 n29 false, .arr 75 l25 n30 false, .w 99 l26]] (pc h49<|pc (ob3 h51)<|pc (k_ports_draft_domain_own h53)<|pn)
    · injection h with h; subst h; exact rl [4, 5, 6] [0, 1, 2, 3, 4, 5, 6, 7, 8, 9, 10, 11, 12, 13, 14, 15, 16, 17] [.f] (pc h49<|pn)
  · exact Ex.noConfusion

def b0_k_ports_Port : AObj DD := .box 31 [.os 2 0, .os 3 0, .os 4 0, .os 5 0, .os 6 0, .os 7 0, .os 8 0, .os 9 0] false
theorem k_ports_Port {a1 : Api_Net} {a2 : Api_Line} {r : ((List Api_Device) × (List Api_Port) × (List Api_Link) × (List Api_Domain) × (List Api_Static) × (List Api_Flood) × (List Api_Vrf) × (List Api_Irb) × Nat × Nat × Nat × Int)} (h : ports_Port a1 a2 = some r) :
    CallsOK Tryz.prog UU 9 [.agg (c31 a1), .agg (c37 a2)] [] ((fun r => match r with | (l67, l68, l69, l70, l71, l72, l73, l74, n75, n76, n77, v78) => .tup [.agg [.os 0 l67.length, .os 1 l68.length, .os 2 l69.length, .os 3 n75, .os 4 l71.length, .os 5 n76, .os 6 n77, .os 7 l74.length], .j v78]) r) ((fun r => match r with | (l67, l68, l69, l70, l71, l72, l73, l74, n75, n76, n77, v78) => [.w 56 l67, .w 66 l68, .w 93 l69, .arr 50 l70 n75 false, .w 95 l71, .arr 72 l72 n76 false, .arr 75 l73 n77 false, .w 99 l74]) r) := by
  unfold ports_Port at h
  obtain ⟨r17, h18, h⟩ := bo h
  rcases r17 with _ | ⟨l19, l20, l21, l22, l23, l24, l25, l26, n27, n28, n29, n30⟩
  · injection h with h; subst h; exact rf Tryz.func9 (some [11, 12, 13, 14, 15, 16, 17, 18]) [.callm [] (.tup [.v (.pointer none), .v (.bool false)]) [], .t] (pc (k_ports_begin h18)<|pc (rfl : (!false) = true)<|pn)
  · obtain ⟨r31, h32, h⟩ := bo h
    obtain ⟨h33, h⟩|⟨h33, h⟩ := ite_out h
    · injection h with h; subst h; exact rf Tryz.func9 (some [20, 21, 22, 23, 24, 25, 26, 27]) [.callm [] (.tup [.op 0 1 0 0, .v (.bool true)]) [.box 58 [.os 1 l19.length, .os 2 n27, .os 3 l21.length, .os 4 n28, .os 5 l23.length, .os 6 n29, .os 7 n30, .os 8 l26.length] false, .w 56 l19, .arr 66 l20 n27 false, .w 93 l21, .arr 50 l22 n28 false, .w 95 l23, .arr 72 l24 n29 false, .arr 75 l25 n30 false, .w 99 l26], .f, .callv (.j r31), .t] (pc (k_ports_begin h18)<|pc (rfl : (!true) = false)<|pc (k_names_Device h32)<|pc h33<|pn)
    · obtain ⟨r34, h35, h⟩ := bo h
      obtain ⟨h36, h⟩|⟨h36, h⟩ := ite_out h
      · injection h with h; subst h; exact rf Tryz.func9 (some [20, 21, 22, 23, 24, 25, 26, 27]) [.callm [] (.tup [.op 0 1 0 0, .v (.bool true)]) [.box 58 [.os 1 l19.length, .os 2 n27, .os 3 l21.length, .os 4 n28, .os 5 l23.length, .os 6 n29, .os 7 n30, .os 8 l26.length] false, .w 56 l19, .arr 66 l20 n27 false, .w 93 l21, .arr 50 l22 n28 false, .w 95 l23, .arr 72 l24 n29 false, .arr 75 l25 n30 false, .w 99 l26], .f, .callv (.j r31), .f, .callv (.j r34), .t] (pc (k_ports_begin h18)<|pc (rfl : (!true) = false)<|pc (k_names_Device h32)<|pc h33<|pc (k_names_Port h35)<|pc h36<|pn)
      · obtain ⟨h37, h⟩|⟨h37, h⟩ := ite_out h
        · injection h with h; subst h; exact rf Tryz.func9 (some [20, 21, 22, 23, 24, 25, 26, 27]) [.callm [] (.tup [.op 0 1 0 0, .v (.bool true)]) [.box 58 [.os 1 l19.length, .os 2 n27, .os 3 l21.length, .os 4 n28, .os 5 l23.length, .os 6 n29, .os 7 n30, .os 8 l26.length] false, .w 56 l19, .arr 66 l20 n27 false, .w 93 l21, .arr 50 l22 n28 false, .w 95 l23, .arr 72 l24 n29 false, .arr 75 l25 n30 false, .w 99 l26], .f, .callv (.j r31), .f, .callv (.j r34), .f, .t] (pc (k_ports_begin h18)<|pc (rfl : (!true) = false)<|pc (k_names_Device h32)<|pc h33<|pc (k_names_Port h35)<|pc h36<|pc (rn n27)<|pc h37<|pn)
        · obtain ⟨l40, h39, h⟩ := bo h
          obtain ⟨h41, h⟩|⟨h41, h⟩ := ite_out h
          · obtain ⟨r42, h43, h⟩ := bo h
            obtain ⟨l44, n45⟩ := r42
            obtain ⟨r65, h64, h⟩ := bo h
            obtain ⟨l62, n63⟩ := r65
            obtain ⟨h66, h⟩|⟨h66, h⟩ := ite_out h
            · injection h with h; subst h; exact rf Tryz.func9 (some [18, 19, 20, 21, 22, 23, 24, 25]) [.callm [] (.tup [.op 0 1 0 0, .v (.bool true)]) [.box 58 [.os 1 l19.length, .os 2 n27, .os 3 l21.length, .os 4 n28, .os 5 l23.length, .os 6 n29, .os 7 n30, .os 8 l26.length] false, .w 56 l19, .arr 66 l20 n27 false, .w 93 l21, .arr 50 l22 n28 false, .w 95 l23, .arr 72 l24 n29 false, .arr 75 l25 n30 false, .w 99 l26], .f, .callv (.j r31), .f, .callv (.j r34), .f, .f, .sum [17] [] .nor [] [.box 31 (c31 a1) false, .box 37 (c37 a2) false, .n 56, .n 66, .n 93, .n 50, .n 95, .n 72, .n 75, .n 99, b0_k_ports_Port, .box 58 [.os 12 l19.length, .os 13 n27, .os 14 l21.length, .os 15 n28, .os 16 l23.length, .os 17 n29, .os 18 n30, .os 19 l26.length] false, .w 56 l19, .arr 66 l20 n27 false, .w 93 l21, .arr 50 l22 n28 false, .w 95 l23, .arr 72 l24 n29 false, .arr 75 l25 n30 false, .w 99 l26, .w 3 l40], .sum [19] [] .nor [] [.box 31 (c31 a1) false, .box 37 (c37 a2) false, .n 56, .n 66, .n 93, .n 50, .n 95, .n 72, .n 75, .n 99, b0_k_ports_Port, .box 58 [.os 12 l19.length, .os 13 n27, .os 14 l21.length, .os 15 n28, .os 16 l23.length, .os 17 n29, .os 18 n30, .os 19 l26.length] false, .w 56 l19, .arr 66 l20 n27 false, .w 93 l21, .arr 50 l22 n28 false, .w 95 l23, .arr 72 l24 n29 false, .arr 75 l25 n30 false, .w 99 l26, .wt 3 l40, .w 66 [(⟨a2.row, r31, a2.vlan, a2.cost, (-1), a2.port, l40⟩ : Api_Port)]], .sum [20] [] .nor [] [.box 31 (c31 a1) false, .box 37 (c37 a2) false, .n 56, .n 66, .n 93, .n 50, .n 95, .n 72, .n 75, .n 99, b0_k_ports_Port, .box 58 [.os 12 l19.length, .os 13 n27, .os 14 l21.length, .os 15 n28, .os 16 l23.length, .os 17 n29, .os 18 n30, .os 19 l26.length] false, .w 56 l19, .w 66 (l20 ++ [(⟨a2.row, r31, a2.vlan, a2.cost, (-1), a2.port, l40⟩ : Api_Port)]), .w 93 l21, .arr 50 l22 n28 false, .w 95 l23, .arr 72 l24 n29 false, .arr 75 l25 n30 false, .w 99 l26, .wt 3 l40, .w 66 [(⟨a2.row, r31, a2.vlan, a2.cost, (-1), a2.port, l40⟩ : Api_Port)]], .callo (.os 0 l40.length) [.w 3 l40], .obj [20] (.w 66 [(⟨a2.row, r31, a2.vlan, a2.cost, (-1), a2.port, l40⟩ : Api_Port)]), .obj [] (.w 66 (l20 ++ [(⟨a2.row, r31, a2.vlan, a2.cost, (-1), a2.port, l40⟩ : Api_Port)])), .callm [11, 12, 13, 14, 15, 16, 17, 18, 19] (.tup []) [.box 58 [.os 1 l19.length, .os 2 (List.length (l20 ++ [(⟨a2.row, r31, a2.vlan, a2.cost, (-1), a2.port, l40⟩ : Api_Port)])), .os 3 l21.length, .os 4 n45, .os 5 l23.length, .os 6 n29, .os 7 n30, .os 8 l26.length] false, .w 56 l19, .w 66 (l20 ++ [(⟨a2.row, r31, a2.vlan, a2.cost, (-1), a2.port, l40⟩ : Api_Port)]), .w 93 l21, .arr 50 l44 n45 false, .w 95 l23, .arr 72 l24 n29 false, .arr 75 l25 n30 false, .w 99 l26], .sum [4, 5, 6, 8, 9, 77, 78, 79] [10, 2, 3, 4, 5, 6, 7, 8, 9, 11, 12, 13, 14, 15, 16, 17, 18, 19] (.exit 1) [(4, .op 0 1 0 0), (5, .z), (6, .op 9 1 0 0)] [.box 31 [.os 1 0, .os 2 0, .os 3 0, .os 4 0, .os 5 0, .os 6 0, .os 7 0, .os 8 0] false, .n 56, .n 66, .n 93, .n 50, .n 95, .n 72, .n 75, .n 99, .box 58 [.os 10 l19.length, .os 11 (List.length (l20 ++ [(⟨a2.row, r31, a2.vlan, a2.cost, (-1), a2.port, l40⟩ : Api_Port)])), .os 12 l21.length, .os 13 n63, .os 14 l23.length, .os 15 n29, .os 16 n30, .os 17 l26.length] false, .w 56 l19, .w 66 (l20 ++ [(⟨a2.row, r31, a2.vlan, a2.cost, (-1), a2.port, l40⟩ : Api_Port)]), .w 93 l21, .arr 50 l62 n63 false, .w 95 l23, .arr 72 l24 n29 false, .arr 75 l25 n30 false, .w 99 l26], .t] (pc (k_ports_begin h18)<|pc (rfl : (!true) = false)<|pc (k_names_Device h32)<|pc h33<|pc (k_names_Port h35)<|pc h36<|pc (rn n27)<|pc h37<|pd (rr (.op 11 1 0 0))<|pd (rr (.op 11 1 0 0))<|pd (rr (.op 11 1 0 0))<|pd (rr (.op 11 1 0 0))<|pc (rr (.op 11 1 0 0))<|pd (rr (.op 11 1 0 1))<|pd (rr (.os 13 n27))<|pc (rr (.op 1 1 0 0))<|pc (rr (.v (.int .i64 a2.row)))<|pc (rr (.j r31))<|pc (rr (.op 1 1 0 10))<|pc (rr (.v (.int .i64 a2.vlan)))<|pc (rr (.op 1 1 0 12))<|pc (rr (.v (.int .i64 a2.cost)))<|pc (rr (.op 1 1 0 3))<|pc (rr (.v (.string a2.port)))<|pc (rh [.box 31 (c31 a1) false, .box 37 (c37 a2) false, .n 56, .n 66, .n 93, .n 50, .n 95, .n 72, .n 75, .n 99, b0_k_ports_Port, .box 58 [.os 12 l19.length, .os 13 n27, .os 14 l21.length, .os 15 n28, .os 16 l23.length, .os 17 n29, .os 18 n30, .os 19 l26.length] false, .w 56 l19, .arr 66 l20 n27 false, .w 93 l21, .arr 50 l22 n28 false, .w 95 l23, .arr 72 l24 n29 false, .arr 75 l25 n30 false, .w 99 l26, .w 3 l40])<|pc (k_slices_Clone_int h39)<|pc (im3 l40)<|pc (rh [.box 31 (c31 a1) false, .box 37 (c37 a2) false, .n 56, .n 66, .n 93, .n 50, .n 95, .n 72, .n 75, .n 99, b0_k_ports_Port, .box 58 [.os 12 l19.length, .os 13 n27, .os 14 l21.length, .os 15 n28, .os 16 l23.length, .os 17 n29, .os 18 n30, .os 19 l26.length] false, .w 56 l19, .arr 66 l20 n27 false, .w 93 l21, .arr 50 l22 n28 false, .w 95 l23, .arr 72 l24 n29 false, .arr 75 l25 n30 false, .w 99 l26, .wt 3 l40, .w 66 [(⟨a2.row, r31, a2.vlan, a2.cost, (-1), a2.port, l40⟩ : Api_Port)]])<|pc (bs_ob 66 [(⟨a2.row, r31, a2.vlan, a2.cost, (-1), a2.port, l40⟩ : Api_Port)])<|pc (rn l40.length)<|pc (rh [.box 31 (c31 a1) false, .box 37 (c37 a2) false, .n 56, .n 66, .n 93, .n 50, .n 95, .n 72, .n 75, .n 99, b0_k_ports_Port, .box 58 [.os 12 l19.length, .os 13 n27, .os 14 l21.length, .os 15 n28, .os 16 l23.length, .os 17 n29, .os 18 n30, .os 19 l26.length] false, .w 56 l19, .w 66 (l20 ++ [(⟨a2.row, r31, a2.vlan, a2.cost, (-1), a2.port, l40⟩ : Api_Port)]), .w 93 l21, .arr 50 l22 n28 false, .w 95 l23, .arr 72 l24 n29 false, .arr 75 l25 n30 false, .w 99 l26, .wt 3 l40, .w 66 [(⟨a2.row, r31, a2.vlan, a2.cost, (-1), a2.port, l40⟩ : Api_Port)]])<|pc (app_ob 66 (n := n27) (l := l20) (xs := [(⟨a2.row, r31, a2.vlan, a2.cost, (-1), a2.port, l40⟩ : Api_Port)]) h41)<|pc (rn (List.length [(⟨a2.row, r31, a2.vlan, a2.cost, (-1), a2.port, l40⟩ : Api_Port)]))<|pc (k_ports_draft_domain_own h43)<|pc (k_ports_Port_L1 _ _ h64)<|pc (rn n63)<|pc h66<|pn)
            · injection h with h; subst h; exact rf Tryz.func9 (some [10, 11, 12, 13, 14, 15, 16, 17]) [.callm [] (.tup [.op 0 1 0 0, .v (.bool true)]) [.box 58 [.os 1 l19.length, .os 2 n27, .os 3 l21.length, .os 4 n28, .os 5 l23.length, .os 6 n29, .os 7 n30, .os 8 l26.length] false, .w 56 l19, .arr 66 l20 n27 false, .w 93 l21, .arr 50 l22 n28 false, .w 95 l23, .arr 72 l24 n29 false, .arr 75 l25 n30 false, .w 99 l26], .f, .callv (.j r31), .f, .callv (.j r34), .f, .f, .sum [17] [] .nor [] [.box 31 (c31 a1) false, .box 37 (c37 a2) false, .n 56, .n 66, .n 93, .n 50, .n 95, .n 72, .n 75, .n 99, b0_k_ports_Port, .box 58 [.os 12 l19.length, .os 13 n27, .os 14 l21.length, .os 15 n28, .os 16 l23.length, .os 17 n29, .os 18 n30, .os 19 l26.length] false, .w 56 l19, .arr 66 l20 n27 false, .w 93 l21, .arr 50 l22 n28 false, .w 95 l23, .arr 72 l24 n29 false, .arr 75 l25 n30 false, .w 99 l26, .w 3 l40], .sum [19] [] .nor [] [.box 31 (c31 a1) false, .box 37 (c37 a2) false, .n 56, .n 66, .n 93, .n 50, .n 95, .n 72, .n 75, .n 99, b0_k_ports_Port, .box 58 [.os 12 l19.length, .os 13 n27, .os 14 l21.length, .os 15 n28, .os 16 l23.length, .os 17 n29, .os 18 n30, .os 19 l26.length] false, .w 56 l19, .arr 66 l20 n27 false, .w 93 l21, .arr 50 l22 n28 false, .w 95 l23, .arr 72 l24 n29 false, .arr 75 l25 n30 false, .w 99 l26, .wt 3 l40, .w 66 [(⟨a2.row, r31, a2.vlan, a2.cost, (-1), a2.port, l40⟩ : Api_Port)]], .sum [20] [] .nor [] [.box 31 (c31 a1) false, .box 37 (c37 a2) false, .n 56, .n 66, .n 93, .n 50, .n 95, .n 72, .n 75, .n 99, b0_k_ports_Port, .box 58 [.os 12 l19.length, .os 13 n27, .os 14 l21.length, .os 15 n28, .os 16 l23.length, .os 17 n29, .os 18 n30, .os 19 l26.length] false, .w 56 l19, .w 66 (l20 ++ [(⟨a2.row, r31, a2.vlan, a2.cost, (-1), a2.port, l40⟩ : Api_Port)]), .w 93 l21, .arr 50 l22 n28 false, .w 95 l23, .arr 72 l24 n29 false, .arr 75 l25 n30 false, .w 99 l26, .wt 3 l40, .w 66 [(⟨a2.row, r31, a2.vlan, a2.cost, (-1), a2.port, l40⟩ : Api_Port)]], .callo (.os 0 l40.length) [.w 3 l40], .obj [20] (.w 66 [(⟨a2.row, r31, a2.vlan, a2.cost, (-1), a2.port, l40⟩ : Api_Port)]), .obj [] (.w 66 (l20 ++ [(⟨a2.row, r31, a2.vlan, a2.cost, (-1), a2.port, l40⟩ : Api_Port)])), .callm [11, 12, 13, 14, 15, 16, 17, 18, 19] (.tup []) [.box 58 [.os 1 l19.length, .os 2 (List.length (l20 ++ [(⟨a2.row, r31, a2.vlan, a2.cost, (-1), a2.port, l40⟩ : Api_Port)])), .os 3 l21.length, .os 4 n45, .os 5 l23.length, .os 6 n29, .os 7 n30, .os 8 l26.length] false, .w 56 l19, .w 66 (l20 ++ [(⟨a2.row, r31, a2.vlan, a2.cost, (-1), a2.port, l40⟩ : Api_Port)]), .w 93 l21, .arr 50 l44 n45 false, .w 95 l23, .arr 72 l24 n29 false, .arr 75 l25 n30 false, .w 99 l26], .sum [4, 5, 6, 8, 9, 77, 78, 79] [10, 2, 3, 4, 5, 6, 7, 8, 9, 11, 12, 13, 14, 15, 16, 17, 18, 19] (.exit 1) [(4, .op 0 1 0 0), (5, .z), (6, .op 9 1 0 0)] [.box 31 [.os 1 0, .os 2 0, .os 3 0, .os 4 0, .os 5 0, .os 6 0, .os 7 0, .os 8 0] false, .n 56, .n 66, .n 93, .n 50, .n 95, .n 72, .n 75, .n 99, .box 58 [.os 10 l19.length, .os 11 (List.length (l20 ++ [(⟨a2.row, r31, a2.vlan, a2.cost, (-1), a2.port, l40⟩ : Api_Port)])), .os 12 l21.length, .os 13 n63, .os 14 l23.length, .os 15 n29, .os 16 n30, .os 17 l26.length] false, .w 56 l19, .w 66 (l20 ++ [(⟨a2.row, r31, a2.vlan, a2.cost, (-1), a2.port, l40⟩ : Api_Port)]), .w 93 l21, .arr 50 l62 n63 false, .w 95 l23, .arr 72 l24 n29 false, .arr 75 l25 n30 false, .w 99 l26], .f] (pc (k_ports_begin h18)<|pc (rfl : (!true) = false)<|pc (k_names_Device h32)<|pc h33<|pc (k_names_Port h35)<|pc h36<|pc (rn n27)<|pc h37<|pd (rr (.op 11 1 0 0))<|pd (rr (.op 11 1 0 0))<|pd (rr (.op 11 1 0 0))<|pd (rr (.op 11 1 0 0))<|pc (rr (.op 11 1 0 0))<|pd (rr (.op 11 1 0 1))<|pd (rr (.os 13 n27))<|pc (rr (.op 1 1 0 0))<|pc (rr (.v (.int .i64 a2.row)))<|pc (rr (.j r31))<|pc (rr (.op 1 1 0 10))<|pc (rr (.v (.int .i64 a2.vlan)))<|pc (rr (.op 1 1 0 12))<|pc (rr (.v (.int .i64 a2.cost)))<|pc (rr (.op 1 1 0 3))<|pc (rr (.v (.string a2.port)))<|pc (rh [.box 31 (c31 a1) false, .box 37 (c37 a2) false, .n 56, .n 66, .n 93, .n 50, .n 95, .n 72, .n 75, .n 99, b0_k_ports_Port, .box 58 [.os 12 l19.length, .os 13 n27, .os 14 l21.length, .os 15 n28, .os 16 l23.length, .os 17 n29, .os 18 n30, .os 19 l26.length] false, .w 56 l19, .arr 66 l20 n27 false, .w 93 l21, .arr 50 l22 n28 false, .w 95 l23, .arr 72 l24 n29 false, .arr 75 l25 n30 false, .w 99 l26, .w 3 l40])<|pc (k_slices_Clone_int h39)<|pc (im3 l40)<|pc (rh [.box 31 (c31 a1) false, .box 37 (c37 a2) false, .n 56, .n 66, .n 93, .n 50, .n 95, .n 72, .n 75, .n 99, b0_k_ports_Port, .box 58 [.os 12 l19.length, .os 13 n27, .os 14 l21.length, .os 15 n28, .os 16 l23.length, .os 17 n29, .os 18 n30, .os 19 l26.length] false, .w 56 l19, .arr 66 l20 n27 false, .w 93 l21, .arr 50 l22 n28 false, .w 95 l23, .arr 72 l24 n29 false, .arr 75 l25 n30 false, .w 99 l26, .wt 3 l40, .w 66 [(⟨a2.row, r31, a2.vlan, a2.cost, (-1), a2.port, l40⟩ : Api_Port)]])<|pc (bs_ob 66 [(⟨a2.row, r31, a2.vlan, a2.cost, (-1), a2.port, l40⟩ : Api_Port)])<|pc (rn l40.length)<|pc (rh [.box 31 (c31 a1) false, .box 37 (c37 a2) false, .n 56, .n 66, .n 93, .n 50, .n 95, .n 72, .n 75, .n 99, b0_k_ports_Port, .box 58 [.os 12 l19.length, .os 13 n27, .os 14 l21.length, .os 15 n28, .os 16 l23.length, .os 17 n29, .os 18 n30, .os 19 l26.length] false, .w 56 l19, .w 66 (l20 ++ [(⟨a2.row, r31, a2.vlan, a2.cost, (-1), a2.port, l40⟩ : Api_Port)]), .w 93 l21, .arr 50 l22 n28 false, .w 95 l23, .arr 72 l24 n29 false, .arr 75 l25 n30 false, .w 99 l26, .wt 3 l40, .w 66 [(⟨a2.row, r31, a2.vlan, a2.cost, (-1), a2.port, l40⟩ : Api_Port)]])<|pc (app_ob 66 (n := n27) (l := l20) (xs := [(⟨a2.row, r31, a2.vlan, a2.cost, (-1), a2.port, l40⟩ : Api_Port)]) h41)<|pc (rn (List.length [(⟨a2.row, r31, a2.vlan, a2.cost, (-1), a2.port, l40⟩ : Api_Port)]))<|pc (k_ports_draft_domain_own h43)<|pc (k_ports_Port_L1 _ _ h64)<|pc (rn n63)<|pc h66<|pn)
          · cases h

theorem k_palinglaw16_works {r : Bool} (h : palinglaw16_works = some r) :
    CallsOK Tryz.prog UU 6 [] [] (.v (.bool r)) [] := by
  have hr : some true = some r := (by kernel_rfl : palinglaw16_works = some true).symm.trans h
  unfold palinglaw16_works at h
  obtain ⟨r1, h2, h⟩ := bo h
  obtain ⟨l3, l4, l5, l6, l7, l8, l9, l10, n11, n12, n13, n14, v15⟩ := r1
  obtain ⟨r16, h17, h⟩ := bo h
  obtain ⟨l18, l19, l20, l21, l22, l23, l24, l25, n26, n27, n28, v29⟩ := r16
  obtain ⟨r30, h31, h⟩ := bo h
  obtain ⟨l32, l33, l34, l35, l36, l37, l38, l39, n40, n41, n42, v43⟩ := r30
  obtain ⟨h44, h⟩|⟨h44, h⟩ := ite_out h
  · obtain ⟨h45, h⟩|⟨h45, h⟩ := ite_out h
    · obtain ⟨h46, h⟩|⟨h46, h⟩ := ite_out h
      · obtain ⟨h47, h⟩|⟨h47, h⟩ := ite_out h
        · obtain ⟨h48, h⟩|⟨h48, h⟩ := ite_out h
          · obtain ⟨x49, h50, h⟩ := bo h
            obtain ⟨h51, h⟩|⟨h51, h⟩ := ite_out h
            · injection h with h; subst h; exact rf Tryz.func6 none [.frz [], .callm [] (.tup [.agg [.os 0 l3.length, .os 1 n11, .os 2 l5.length, .os 3 n12, .os 4 l7.length, .os 5 n13, .os 6 n14, .os 7 l10.length], .j v15]) [.w 56 l3, .arr 66 l4 n11 false, .w 93 l5, .arr 50 l6 n12 false, .w 95 l7, .arr 72 l8 n13 false, .arr 75 l9 n14 false, .w 99 l10], .frz [0, 1, 2, 3, 4, 5, 6, 7], .callm [] (.tup [.agg [.os 0 l18.length, .os 1 l19.length, .os 2 l20.length, .os 3 n26, .os 4 l22.length, .os 5 n27, .os 6 n28, .os 7 l25.length], .j v29]) [.w 56 l18, .w 66 l19, .w 93 l20, .arr 50 l21 n26 false, .w 95 l22, .arr 72 l23 n27 false, .arr 75 l24 n28 false, .w 99 l25], .frz [17, 18, 19, 20, 21, 22, 23, 24], .callm [] (.tup [.agg [.os 0 l32.length, .os 1 l33.length, .os 2 l34.length, .os 3 n40, .os 4 l36.length, .os 5 n41, .os 6 n42, .os 7 l39.length], .j v43]) [.w 56 l32, .w 66 l33, .w 93 l34, .arr 50 l35 n40 false, .w 95 l36, .arr 72 l37 n41 false, .arr 75 l38 n42 false, .w 99 l39], .t, .t, .t, .t, .row (c50 x49), .t] (pc (k_ports_Device h2)<|pc (rn l3.length)<|pc (rn n11)<|pc (rn l5.length)<|pc (rn n12)<|pc (rn l7.length)<|pc (rn n13)<|pc (rn n14)<|pc (rn l10.length)<|pc (k_ports_Port h17)<|pc (rn l18.length)<|pc (rn l19.length)<|pc (rn l20.length)<|pc (rn n26)<|pc (rn l22.length)<|pc (rn n27)<|pc (rn n28)<|pc (rn l25.length)<|pc (k_ports_Port h31)<|pc h44<|pc h45<|pc (rn l19.length)<|pc h46<|pc (rn n26)<|pc h47<|pc (an n26 (lin_ob h48))<|pc (rn n26)<|pc (an n26 (obn50 h50))<|pc h51<|pn)
            · exact absurd (hr.trans h.symm) (by decide)
          · cases h
        · exact absurd (hr.trans h.symm) (by decide)
      · exact absurd (hr.trans h.symm) (by decide)
    · exact absurd (hr.trans h.symm) (by decide)
  · exact absurd (hr.trans h.symm) (by decide)

theorem k_palingref03_digits_L1 : LoopOK Tryz.prog UU 0 23 (subC (codeOf Tryz.f159) [1, 1, 0, 0, 0]) (fun s : Int × ByteArray => match s with | (v2, v3) => palingref03_digits_L1 v2 v3)
    (fun s : Int × ByteArray => (match s with | (v2, v3) => [(0, .v (.int .u64 v2)), (2, .e), (3, .v (.string v3))] : Fr DD)) (fun s : Int × ByteArray => (match s with | (v2, v3) => [] : Heap DD)) (fun r => match r with | (v8, v9) => .exit 0) (fun r => match r with | (v8, v9) => [(0, .v (.int .u64 v8)), (2, .e), (3, .v (.string v9))]) (fun r => match r with | (v8, v9) => []) := by
  refine loop_sound3 (fun s q h => ?_) (fun r => ?_)
  · obtain ⟨v2, v3⟩ := s; replace h : palingref03_digits_L1 v2 v3 = some q := h
    unfold palingref03_digits_L1 at h
    obtain ⟨h4, h⟩|⟨h4, h⟩ := ite_out h
    · obtain ⟨h5, h⟩|⟨h5, h⟩ := ite_out h
      · injection h with h; subst h; exact rl [0, 2, 3] [] [.t, .obj [] (.w 5 [(wr_u8 (wr_u64 (48 + (Int.tmod v2 10))) : Int)]), .callv (.v (.string (bstr [(wr_u8 (wr_u64 (48 + (Int.tmod v2 10))) : Int)])))] (pc h4<|pc (show (10 : Int) ≠ 0 from by decide)<|pc (bs_ob 5 [(wr_u8 (wr_u64 (48 + (Int.tmod v2 10))) : Int)])<|pc (cvb5 [(wr_u8 (wr_u64 (48 + (Int.tmod v2 10))) : Int)])<|pc (rn (List.length [(wr_u8 (wr_u64 (48 + (Int.tmod v2 10))) : Int)]))<|pc (of_decide_eq_true h5)<|pc (show (10 : Int) ≠ 0 from by decide)<|pn)
      · cases h
    · injection h with h; subst h; exact rl [0, 2, 3] [] [.f] (pc h4<|pn)
  · exact Ex.noConfusion

theorem k_palingref03_digits {a1 : Int} {r : ByteArray} (h : palingref03_digits a1 = some r) :
    CallsOK Tryz.prog UU 159 [.v (.int .u64 a1)] [] (.v (.string r)) [] := by
  unfold palingref03_digits at h
  obtain ⟨r11, h10, h⟩ := bo h
  obtain ⟨v8, v9⟩ := r11
  obtain ⟨h12, h⟩|⟨h12, h⟩ := ite_out h
  · injection h with h; subst h; exact rf Tryz.func159 none [.sum [0, 2, 3] [] (.exit 0) [(0, .v (.int .u64 v8)), (2, .e), (3, .v (.string v9))] [], .obj [] (.w 5 [(wr_u8 (wr_u64 (48 + v8)) : Int)]), .callv (.v (.string (bstr [(wr_u8 (wr_u64 (48 + v8)) : Int)])))] (pc (k_palingref03_digits_L1 _ _ h10)<|pc (bs_ob 5 [(wr_u8 (wr_u64 (48 + v8)) : Int)])<|pc (cvb5 [(wr_u8 (wr_u64 (48 + v8)) : Int)])<|pc (rn (List.length [(wr_u8 (wr_u64 (48 + v8)) : Int)]))<|pc (of_decide_eq_true h12)<|pn)
  · cases h

theorem k_palingref03_Text {a1 : Int} {r : ByteArray} (h : palingref03_Text a1 = some r) :
    CallsOK Tryz.prog UU 132 [.j a1] [] (.v (.string r)) [] := by
  unfold palingref03_Text at h
  obtain ⟨h2, h⟩|⟨h2, h⟩ := ite_out h
  · obtain ⟨r3, h4, h⟩ := bo h
    obtain ⟨h5, h⟩|⟨h5, h⟩ := ite_out h
    · injection h with h; subst h; exact rf Tryz.func132 none [.t, .callv (.v (.string r3))] (pc h2<|pc (k_palingref03_digits h4)<|pc (of_decide_eq_true h5)<|pn)
    · cases h
  · obtain ⟨r6, h7, h⟩ := bo h
    injection h with h; subst h; exact rf Tryz.func132 none [.f, .callv (.v (.string r6))] (pc h2<|pc (k_palingref03_digits h7)<|pn)

theorem k_palingref01_Bytes_L2 {a1 : Int} {l2 : List Int} {v3 : Int} : LoopOK Tryz.prog UU 0 26 (subC (codeOf Tryz.f160) [1, 1, 0, 1, 0, 0, 1, 0, 0, 1, 0, 1, 0, 0]) (fun s : Int × Int => match s with | (v5, v6) => palingref01_Bytes_L2 a1 l2 v3 v5 v6)
    (fun s : Int × Int => (match s with | (v5, v6) => [(0, .v (.int .u64 a1)), (2, .os 0 0), (3, .os 1 l2.length), (4, .j v3), (5, .v (.int .u64 v5)), (6, .j v6)] : Fr DD)) (fun s : Int × Int => (match s with | (v5, v6) => [.n 5, .w 5 l2] : Heap DD)) (fun r => match r with | v9 => .exit 2) (fun r => match r with | v9 => [(0, .v (.int .u64 a1)), (2, .os 0 0), (3, .os 1 l2.length), (4, .j v3), (5, .v (.int .u64 v9))]) (fun r => match r with | v9 => [.n 5, .w 5 l2]) := by
  refine loop_sound3 (fun s q h => ?_) (fun r => ?_)
  · obtain ⟨v5, v6⟩ := s; replace h : palingref01_Bytes_L2 a1 l2 v3 v5 v6 = some q := h
    unfold palingref01_Bytes_L2 at h
    obtain ⟨h7, h⟩|⟨h7, h⟩ := ite_out h
    · injection h with h; subst h; exact rl [0, 2, 3, 4, 5, 6] [0, 1] [.t] (pc h7<|pc (show (256 : Int) ≠ 0 from by decide)<|pn)
    · injection h with h; subst h; exact rl [0, 2, 3, 4, 5] [0, 1] [.f] (pc h7<|pn)
  · exact Ex.noConfusion

theorem k_palingref01_Bytes_L1 {a1 : Int} : LoopOK Tryz.prog UU 0 26 (subC (codeOf Tryz.f160) [1, 1, 0, 1, 0, 0]) (fun s : (List Int) × Int => match s with | (l2, v3) => palingref01_Bytes_L1 a1 l2 v3)
    (fun s : (List Int) × Int => (match s with | (l2, v3) => [(0, .v (.int .u64 a1)), (2, .os 0 0), (3, .os 1 l2.length), (4, .j v3)] : Fr DD)) (fun s : (List Int) × Int => (match s with | (l2, v3) => [.n 5, .w 5 l2] : Heap DD)) (fun r => match r with | l15 => .exit 0) (fun r => match r with | l15 => [(2, .os 0 0), (3, .os 1 l15.length)]) (fun r => match r with | l15 => [.n 5, .w 5 l15]) := by
  refine loop_sound3 (fun s q h => ?_) (fun r => ?_)
  · obtain ⟨l2, v3⟩ := s; replace h : palingref01_Bytes_L1 a1 l2 v3 = some q := h
    unfold palingref01_Bytes_L1 at h
    obtain ⟨h4, h⟩|⟨h4, h⟩ := ite_out h
    · obtain ⟨v9, h10, h⟩ := bo h
      obtain ⟨h12, h⟩|⟨h12, h⟩ := ite_out h
      · injection h with h; subst h; exact rl [0, 2, 3, 4] [0, 1] [.t, .sum [0, 2, 3, 4, 5, 6] [0, 1] (.exit 2) [(0, .v (.int .u64 a1)), (2, .os 0 0), (3, .os 1 l2.length), (4, .j v3), (5, .v (.int .u64 v9))] [.n 5, .w 5 l2], .obj [] (.w 5 [(wr_u8 (Int.tmod v9 256) : Int)]), .obj [] (.w 5 (l2 ++ [(wr_u8 (Int.tmod v9 256) : Int)]))] (pc h4<|pc (k_palingref01_Bytes_L2 _ _ h10)<|pc (show (256 : Int) ≠ 0 from by decide)<|pc (bs_ob 5 [(wr_u8 (Int.tmod v9 256) : Int)])<|pc (app_ob 5 (n := l2.length) (l := l2) (xs := [(wr_u8 (Int.tmod v9 256) : Int)]) h12)<|pc (rn (List.length [(wr_u8 (Int.tmod v9 256) : Int)]))<|pn)
      · cases h
    · injection h with h; subst h; exact rl [2, 3] [0, 1] [.f] (pc h4<|pn)
  · exact Ex.noConfusion

theorem k_palingref01_Bytes {a1 : Int} {r : ((List Int))} (h : palingref01_Bytes a1 = some r) :
    CallsOK Tryz.prog UU 160 [.v (.int .u64 a1)] [] ((fun r => match r with | l18 => .os 0 l18.length) r) ((fun r => match r with | l18 => [.w 5 l18]) r) := by
  unfold palingref01_Bytes at h
  obtain ⟨l15, h16, h⟩ := bo h
  injection h with h; subst h; exact rf Tryz.func160 (some [1]) [.sum [0, 2, 3, 4] [0, 1] (.exit 0) [(2, .os 0 0), (3, .os 1 l15.length)] [.n 5, .w 5 l15]] (pc (k_palingref01_Bytes_L1 _ _ h16)<|pn)

theorem k_palingref01_Text_J2 {l4 : List Int} {v5 : ByteArray} {v6 : Int} {r : ByteArray} (h : palingref01_Text_J2 l4 v5 v6 = some r) :
    ExecOK Tryz.prog UU 0 47 (subC (codeOf Tryz.f133) [1, 1, 1, 1, 0, 1, 0, 0, 1, 0, 0, 0]) [(2, .e), (3, .v (.string (⟨#[48, 49, 50, 51, 52, 53, 54, 55, 56, 57, 97, 98, 99, 100, 101, 102]⟩ : ByteArray))), (4, .os 0 l4.length), (5, .v (.string v5)), (6, .j v6)] [.w 5 l4] ((fun r => match r with | v11 => .nor) r) ((fun r => match r with | v11 => [(2, .e), (3, .v (.string (⟨#[48, 49, 50, 51, 52, 53, 54, 55, 56, 57, 97, 98, 99, 100, 101, 102]⟩ : ByteArray))), (4, .os 0 l4.length), (5, .v (.string v11)), (6, .j v6)]) r) ((fun r => match r with | v11 => [.w 5 l4]) r) := by
  unfold palingref01_Text_J2 at h
  obtain ⟨h8, h⟩|⟨h8, h⟩ := ite_out h
  · obtain ⟨h9, h⟩|⟨h9, h⟩ := ite_out h
    · injection h with h; subst h; exact rl [2, 3, 4, 5, 6] [0] [.t] (pc h8<|pc (of_decide_eq_true h9)<|pn)
    · cases h
  · injection h with h; subst h; exact rl [2, 3, 4, 5, 6] [0] [.f] (pc h8<|pn)

theorem k_palingref01_Text_L1 {l4 : List Int} : LoopOK Tryz.prog UU 0 47 (subC (codeOf Tryz.f133) [1, 1, 1, 1, 0, 1, 0, 0]) (fun s : ByteArray × Int => match s with | (v5, v6) => palingref01_Text_L1 l4 v5 v6)
    (fun s : ByteArray × Int => (match s with | (v5, v6) => [(2, .e), (3, .v (.string (⟨#[48, 49, 50, 51, 52, 53, 54, 55, 56, 57, 97, 98, 99, 100, 101, 102]⟩ : ByteArray))), (4, .os 0 l4.length), (5, .v (.string v5)), (6, .j v6)] : Fr DD)) (fun s : ByteArray × Int => (match s with | (v5, v6) => [.w 5 l4] : Heap DD)) (fun r => match r with | v28 => .exit 0) (fun r => match r with | v28 => [(2, .e), (5, .v (.string v28))]) (fun r => match r with | v28 => []) := by
  refine loop_sound3 (fun s q h => ?_) (fun r => ?_)
  · obtain ⟨v5, v6⟩ := s; replace h : palingref01_Text_L1 l4 v5 v6 = some q := h
    unfold palingref01_Text_L1 at h
    obtain ⟨h7, h⟩|⟨h7, h⟩ := ite_out h
    · obtain ⟨v11, h12, h⟩ := bo h
      obtain ⟨h14, h⟩|⟨h14, h⟩ := ite_out h
      · obtain ⟨x15, h16, h⟩ := bo h
        obtain ⟨x17, h18, h⟩ := bo h
        obtain ⟨h19, h⟩|⟨h19, h⟩ := ite_out h
        · obtain ⟨h20, h⟩|⟨h20, h⟩ := ite_out h
          · obtain ⟨x21, h22, h⟩ := bo h
            obtain ⟨x23, h24, h⟩ := bo h
            obtain ⟨h25, h⟩|⟨h25, h⟩ := ite_out h
            · obtain ⟨h26, h⟩|⟨h26, h⟩ := ite_out h
              · injection h with h; subst h; exact rl [2, 3, 4, 5, 6] [0] [.t, .skp, .cut [2, 3, 4, 5, 6] [0] .nor [(2, .e), (3, .v (.string (⟨#[48, 49, 50, 51, 52, 53, 54, 55, 56, 57, 97, 98, 99, 100, 101, 102]⟩ : ByteArray))), (4, .os 0 l4.length), (5, .v (.string v11)), (6, .j v6)] [.w 5 l4], .row (c5 x15), .row (c5 x17), .row (c5 x21), .row (c5 x23)] (pc h7<|pc (k_palingref01_Text_J2 h12)<|pc (an l4.length (lin_ob h14))<|pc (an l4.length (obn5 h16))<|pc (show (16 : Int) ≠ 0 from by decide)<|pc (an l4.length (lin_ob h14))<|pc (an l4.length (obn5 h18))<|pc (show (16 : Int) ≠ 0 from by decide)<|pc (sl_ob h19)<|pc (of_decide_eq_true h20)<|pc (an l4.length (lin_ob h14))<|pc (an l4.length (obn5 h22))<|pc (show (16 : Int) ≠ 0 from by decide)<|pc (an l4.length (lin_ob h14))<|pc (an l4.length (obn5 h24))<|pc (show (16 : Int) ≠ 0 from by decide)<|pc (sl_ob h25)<|pc (of_decide_eq_true h26)<|pn)
              · cases h
            · cases h
          · cases h
        · cases h
      · cases h
    · injection h with h; subst h; exact rl [2, 5] [] [.f] (pc h7<|pn)
  · exact Ex.noConfusion

theorem k_palingref01_Text {a1 : Int} {r : ByteArray} (h : palingref01_Text a1 = some r) :
    CallsOK Tryz.prog UU 133 [.v (.int .u64 a1)] [] (.v (.string r)) [] := by
  unfold palingref01_Text at h
  obtain ⟨l4, h3, h⟩ := bo h
  obtain ⟨v28, h29, h⟩ := bo h
  injection h with h; subst h; exact rf Tryz.func133 none [.callo (.os 0 l4.length) [.w 5 l4], .sum [2, 3, 4, 5, 6] [0] (.exit 0) [(2, .e), (5, .v (.string v28))] []] (pc (k_palingref01_Bytes h3)<|pc (im5 l4)<|pc (k_palingref01_Text_L1 _ _ h29)<|pn)

theorem k_palingref03_ListText_L1 {a1 : List Int} : LoopOK Tryz.prog UU 0 23 (subC (codeOf Tryz.f161) [1, 1, 0, 1, 0, 0]) (fun s : ByteArray × Int => match s with | (v2, v3) => palingref03_ListText_L1 a1 v2 v3)
    (fun s : ByteArray × Int => (match s with | (v2, v3) => [(0, .sl 3 a1), (2, .e), (3, .v (.string v2)), (4, .j v3)] : Fr DD)) (fun s : ByteArray × Int => (match s with | (v2, v3) => [] : Heap DD)) (fun r => match r with | v18 => .exit 0) (fun r => match r with | v18 => [(2, .e), (3, .v (.string v18))]) (fun r => match r with | v18 => []) := by
  refine loop_sound3 (fun s q h => ?_) (fun r => ?_)
  · obtain ⟨v2, v3⟩ := s; replace h : palingref03_ListText_L1 a1 v2 v3 = some q := h
    unfold palingref03_ListText_L1 at h
    obtain ⟨h4, h⟩|⟨h4, h⟩ := ite_out h
    · obtain ⟨h5, h⟩|⟨h5, h⟩ := ite_out h
      · obtain ⟨h6, h⟩|⟨h6, h⟩ := ite_out h
        · obtain ⟨x7, h8, h⟩ := bo h
          obtain ⟨r9, h10, h⟩ := bo h
          obtain ⟨h11, h⟩|⟨h11, h⟩ := ite_out h
          · injection h with h; subst h; exact rl [0, 2, 3, 4] [] [.t, .t, .row (c3 x7), .callv (.v (.string r9))] (pc h4<|pc h5<|pc (of_decide_eq_true h6)<|pc (ob3 h8)<|pc (k_palingref03_Text h10)<|pc (of_decide_eq_true h11)<|pn)
          · cases h
        · cases h
      · obtain ⟨x12, h13, h⟩ := bo h
        obtain ⟨r14, h15, h⟩ := bo h
        obtain ⟨h16, h⟩|⟨h16, h⟩ := ite_out h
        · injection h with h; subst h; exact rl [0, 2, 3, 4] [] [.t, .f, .row (c3 x12), .callv (.v (.string r14))] (pc h4<|pc h5<|pc (ob3 h13)<|pc (k_palingref03_Text h15)<|pc (of_decide_eq_true h16)<|pn)
        · cases h
    · injection h with h; subst h; exact rl [2, 3] [] [.f] (pc h4<|pn)
  · exact Ex.noConfusion

theorem k_palingref03_ListText {a1 : List Int} {r : ByteArray} (h : palingref03_ListText a1 = some r) :
    CallsOK Tryz.prog UU 161 [.sl 3 a1] [] (.v (.string r)) [] := by
  unfold palingref03_ListText at h
  obtain ⟨v18, h19, h⟩ := bo h
  injection h with h; subst h; exact rf Tryz.func161 none [.sum [0, 2, 3, 4] [] (.exit 0) [(2, .e), (3, .v (.string v18))] []] (pc (k_palingref03_ListText_L1 _ _ h19)<|pn)

theorem k_palingref11_spell {a1 : List Int} {r : ByteArray} (h : palingref11_spell a1 = some r) :
    CallsOK Tryz.prog UU 134 [.sl 3 a1] [] (.v (.string r)) [] := by
  unfold palingref11_spell at h
  obtain ⟨h2, h⟩|⟨h2, h⟩ := ite_out h
  · injection h with h; subst h; exact rf Tryz.func134 none [.t] (pc h2<|pn)
  · obtain ⟨r3, h4, h⟩ := bo h
    injection h with h; subst h; exact rf Tryz.func134 none [.f, .callv (.v (.string r3))] (pc h2<|pc (k_palingref03_ListText h4)<|pn)

theorem k_palingref02_number_L1 : LoopOK Tryz.prog UU 0 23 (subC (codeOf Tryz.f162) [1, 1, 0, 0, 0]) (fun s : Int × ByteArray => match s with | (v2, v3) => palingref02_number_L1 v2 v3)
    (fun s : Int × ByteArray => (match s with | (v2, v3) => [(0, .j v2), (2, .e), (3, .v (.string v3))] : Fr DD)) (fun s : Int × ByteArray => (match s with | (v2, v3) => [] : Heap DD)) (fun r => match r with | (v8, v9) => .exit 0) (fun r => match r with | (v8, v9) => [(0, .j v8), (2, .e), (3, .v (.string v9))]) (fun r => match r with | (v8, v9) => []) := by
  refine loop_sound3 (fun s q h => ?_) (fun r => ?_)
  · obtain ⟨v2, v3⟩ := s; replace h : palingref02_number_L1 v2 v3 = some q := h
    unfold palingref02_number_L1 at h
    obtain ⟨h4, h⟩|⟨h4, h⟩ := ite_out h
    · obtain ⟨h5, h⟩|⟨h5, h⟩ := ite_out h
      · injection h with h; subst h; exact rl [0, 2, 3] [] [.t, .obj [] (.w 5 [(wr_u8 (wr_i64 (48 + (Int.tmod v2 10))) : Int)]), .callv (.v (.string (bstr [(wr_u8 (wr_i64 (48 + (Int.tmod v2 10))) : Int)])))] (pc h4<|pc (show (10 : Int) ≠ 0 from by decide)<|pc (bs_ob 5 [(wr_u8 (wr_i64 (48 + (Int.tmod v2 10))) : Int)])<|pc (cvb5 [(wr_u8 (wr_i64 (48 + (Int.tmod v2 10))) : Int)])<|pc (rn (List.length [(wr_u8 (wr_i64 (48 + (Int.tmod v2 10))) : Int)]))<|pc (of_decide_eq_true h5)<|pc (show (10 : Int) ≠ 0 from by decide)<|pn)
      · cases h
    · injection h with h; subst h; exact rl [0, 2, 3] [] [.f] (pc h4<|pn)
  · exact Ex.noConfusion

theorem k_palingref02_number {a1 : Int} {r : ByteArray} (h : palingref02_number a1 = some r) :
    CallsOK Tryz.prog UU 162 [.j a1] [] (.v (.string r)) [] := by
  unfold palingref02_number at h
  obtain ⟨r11, h10, h⟩ := bo h
  obtain ⟨v8, v9⟩ := r11
  obtain ⟨h12, h⟩|⟨h12, h⟩ := ite_out h
  · injection h with h; subst h; exact rf Tryz.func162 none [.sum [0, 2, 3] [] (.exit 0) [(0, .j v8), (2, .e), (3, .v (.string v9))] [], .obj [] (.w 5 [(wr_u8 (wr_i64 (48 + v8)) : Int)]), .callv (.v (.string (bstr [(wr_u8 (wr_i64 (48 + v8)) : Int)])))] (pc (k_palingref02_number_L1 _ _ h10)<|pc (bs_ob 5 [(wr_u8 (wr_i64 (48 + v8)) : Int)])<|pc (cvb5 [(wr_u8 (wr_i64 (48 + v8)) : Int)])<|pc (rn (List.length [(wr_u8 (wr_i64 (48 + v8)) : Int)]))<|pc (of_decide_eq_true h12)<|pn)
  · cases h

theorem k_palingref02_Text {a1 : Int} {r : ByteArray} (h : palingref02_Text a1 = some r) :
    CallsOK Tryz.prog UU 135 [.v (.int .u32 a1)] [] (.v (.string r)) [] := by
  unfold palingref02_Text at h
  obtain ⟨r2, h3, h⟩ := bo h
  obtain ⟨h4, h⟩|⟨h4, h⟩ := ite_out h
  · obtain ⟨r5, h6, h⟩ := bo h
    obtain ⟨h7, h⟩|⟨h7, h⟩ := ite_out h
    · obtain ⟨h8, h⟩|⟨h8, h⟩ := ite_out h
      · obtain ⟨r9, h10, h⟩ := bo h
        obtain ⟨h11, h⟩|⟨h11, h⟩ := ite_out h
        · obtain ⟨h12, h⟩|⟨h12, h⟩ := ite_out h
          · obtain ⟨r13, h14, h⟩ := bo h
            obtain ⟨h15, h⟩|⟨h15, h⟩ := ite_out h
            · injection h with h; subst h; exact rf Tryz.func135 none [.callv (.v (.string r2)), .callv (.v (.string r5)), .callv (.v (.string r9)), .callv (.v (.string r13))] (pc (show (16777216 : Int) ≠ 0 from by decide)<|pc (k_palingref02_number h3)<|pc (of_decide_eq_true h4)<|pc (show (65536 : Int) ≠ 0 from by decide)<|pc (show (256 : Int) ≠ 0 from by decide)<|pc (k_palingref02_number h6)<|pc (of_decide_eq_true h7)<|pc (of_decide_eq_true h8)<|pd (show (256 : Int) ≠ 0 from by decide)<|pc (k_palingref02_number h10)<|pc (of_decide_eq_true h11)<|pc (of_decide_eq_true h12)<|pc (show (256 : Int) ≠ 0 from by decide)<|pc (k_palingref02_number h14)<|pc (of_decide_eq_true h15)<|pn)
            · cases h
          · cases h
        · cases h
      · cases h
    · cases h
  · cases h

theorem k_palingref03_AddrsText_L1 {a1 : List Int} : LoopOK Tryz.prog UU 0 23 (subC (codeOf Tryz.f136) [1, 1, 0, 1, 0, 0]) (fun s : ByteArray × Int => match s with | (v2, v3) => palingref03_AddrsText_L1 a1 v2 v3)
    (fun s : ByteArray × Int => (match s with | (v2, v3) => [(0, .sl 33 a1), (2, .e), (3, .v (.string v2)), (4, .j v3)] : Fr DD)) (fun s : ByteArray × Int => (match s with | (v2, v3) => [] : Heap DD)) (fun r => match r with | v18 => .exit 0) (fun r => match r with | v18 => [(2, .e), (3, .v (.string v18))]) (fun r => match r with | v18 => []) := by
  refine loop_sound3 (fun s q h => ?_) (fun r => ?_)
  · obtain ⟨v2, v3⟩ := s; replace h : palingref03_AddrsText_L1 a1 v2 v3 = some q := h
    unfold palingref03_AddrsText_L1 at h
    obtain ⟨h4, h⟩|⟨h4, h⟩ := ite_out h
    · obtain ⟨h5, h⟩|⟨h5, h⟩ := ite_out h
      · obtain ⟨h6, h⟩|⟨h6, h⟩ := ite_out h
        · obtain ⟨x7, h8, h⟩ := bo h
          obtain ⟨r9, h10, h⟩ := bo h
          obtain ⟨h11, h⟩|⟨h11, h⟩ := ite_out h
          · injection h with h; subst h; exact rl [0, 2, 3, 4] [] [.t, .t, .row (c33 x7), .callv (.v (.string r9))] (pc h4<|pc h5<|pc (of_decide_eq_true h6)<|pc (ob33 h8)<|pc (k_palingref02_Text h10)<|pc (of_decide_eq_true h11)<|pn)
          · cases h
        · cases h
      · obtain ⟨x12, h13, h⟩ := bo h
        obtain ⟨r14, h15, h⟩ := bo h
        obtain ⟨h16, h⟩|⟨h16, h⟩ := ite_out h
        · injection h with h; subst h; exact rl [0, 2, 3, 4] [] [.t, .f, .row (c33 x12), .callv (.v (.string r14))] (pc h4<|pc h5<|pc (ob33 h13)<|pc (k_palingref02_Text h15)<|pc (of_decide_eq_true h16)<|pn)
        · cases h
    · injection h with h; subst h; exact rl [2, 3] [] [.f] (pc h4<|pn)
  · exact Ex.noConfusion

theorem k_palingref03_AddrsText {a1 : List Int} {r : ByteArray} (h : palingref03_AddrsText a1 = some r) :
    CallsOK Tryz.prog UU 136 [.sl 33 a1] [] (.v (.string r)) [] := by
  unfold palingref03_AddrsText at h
  obtain ⟨v18, h19, h⟩ := bo h
  injection h with h; subst h; exact rf Tryz.func136 none [.sum [0, 2, 3, 4] [] (.exit 0) [(2, .e), (3, .v (.string v18))] []] (pc (k_palingref03_AddrsText_L1 _ _ h19)<|pn)

theorem k_palingref02_Right {a1 : Api_Prefix} {r : Bool} (h : palingref02_Right a1 = some r) :
    CallsOK Tryz.prog UU 163 [.agg (c97 a1)] [] (.v (.bool r)) [] := by
  unfold palingref02_Right at h
  obtain ⟨h2, h⟩|⟨h2, h⟩ := ite_out h
  · injection h with h; subst h; exact rf Tryz.func163 none [.t] (pc h2<|pn)
  · injection h with h; subst h; exact rf Tryz.func163 none [.f] (pc h2<|pn)

theorem k_palingref02_PrefixText {a1 : Api_Prefix} {r : ByteArray} (h : palingref02_PrefixText a1 = some r) :
    CallsOK Tryz.prog UU 137 [.agg (c97 a1)] [] (.v (.string r)) [] := by
  unfold palingref02_PrefixText at h
  obtain ⟨r2, h3, h⟩ := bo h
  obtain ⟨h4, h⟩|⟨h4, h⟩ := ite_out h
  · injection h with h; subst h; exact rf Tryz.func137 none [.b r2, .t] (pc (k_palingref02_Right h3)<|pc h4<|pn)
  · obtain ⟨r5, h6, h⟩ := bo h
    obtain ⟨h7, h⟩|⟨h7, h⟩ := ite_out h
    · obtain ⟨r8, h9, h⟩ := bo h
      obtain ⟨h10, h⟩|⟨h10, h⟩ := ite_out h
      · injection h with h; subst h; exact rf Tryz.func137 none [.b r2, .f, .callv (.v (.string r5)), .callv (.v (.string r8))] (pc (k_palingref02_Right h3)<|pc h4<|pc (k_palingref02_Text h6)<|pc (of_decide_eq_true h7)<|pc (k_palingref02_number h9)<|pc (of_decide_eq_true h10)<|pn)
      · cases h
    · cases h

theorem k_palingref11_Words {a1 : Api_Line} {r : ((List ByteArray))} (h : palingref11_Words a1 = some r) :
    CallsOK Tryz.prog UU 100 [.agg (c37 a1)] [] ((fun r => match r with | l35 => .os 0 l35.length) r) ((fun r => match r with | l35 => [.w 9 l35]) r) := by
  unfold palingref11_Words at h
  obtain ⟨r2, h3, h⟩ := bo h
  obtain ⟨r4, h5, h⟩ := bo h
  obtain ⟨r6, h7, h⟩ := bo h
  obtain ⟨h8, h⟩|⟨h8, h⟩ := ite_out h
  · injection h with h; subst h; exact rf Tryz.func100 (some [2]) [.callv (.v (.string r2)), .callv (.v (.string r4)), .callv (.v (.string r6)), .t, .obj [] (.w 9 [(⟨#[100, 101, 118, 105, 99, 101]⟩ : ByteArray), a1.dev, r4, r6])] (pc (k_palingref03_Text h3)<|pc (k_palingref03_Text h5)<|pc (k_palingref01_Text h7)<|pc h8<|pc (bs_ob 9 [(⟨#[100, 101, 118, 105, 99, 101]⟩ : ByteArray), a1.dev, r4, r6])<|pn)
  · obtain ⟨h9, h⟩|⟨h9, h⟩ := ite_out h
    · obtain ⟨r10, h11, h⟩ := bo h
      obtain ⟨h12, h⟩|⟨h12, h⟩ := ite_out h
      · injection h with h; subst h; exact rf Tryz.func100 (some [2]) [.callv (.v (.string r2)), .callv (.v (.string r4)), .callv (.v (.string r6)), .f, .t, .callv (.v (.string r10)), .t, .obj [] (.w 9 [(⟨#[112, 111, 114, 116]⟩ : ByteArray), a1.dev, a1.port, r10, (⟨#[97, 99, 99, 101, 115, 115]⟩ : ByteArray), r2])] (pc (k_palingref03_Text h3)<|pc (k_palingref03_Text h5)<|pc (k_palingref01_Text h7)<|pc h8<|pc h9<|pc (k_palingref03_Text h11)<|pc h12<|pc (bs_ob 9 [(⟨#[112, 111, 114, 116]⟩ : ByteArray), a1.dev, a1.port, r10, (⟨#[97, 99, 99, 101, 115, 115]⟩ : ByteArray), r2])<|pn)
      · obtain ⟨h13, h⟩|⟨h13, h⟩ := ite_out h
        · obtain ⟨r14, h15, h⟩ := bo h
          injection h with h; subst h; exact rf Tryz.func100 (some [2]) [.callv (.v (.string r2)), .callv (.v (.string r4)), .callv (.v (.string r6)), .f, .t, .callv (.v (.string r10)), .f, .t, .callv (.v (.string r14)), .obj [] (.w 9 [(⟨#[112, 111, 114, 116]⟩ : ByteArray), a1.dev, a1.port, r10, (⟨#[116, 114, 117, 110, 107]⟩ : ByteArray), (⟨#[45]⟩ : ByteArray), r14])] (pc (k_palingref03_Text h3)<|pc (k_palingref03_Text h5)<|pc (k_palingref01_Text h7)<|pc h8<|pc h9<|pc (k_palingref03_Text h11)<|pc h12<|pc h13<|pc (k_palingref11_spell h15)<|pc (bs_ob 9 [(⟨#[112, 111, 114, 116]⟩ : ByteArray), a1.dev, a1.port, r10, (⟨#[116, 114, 117, 110, 107]⟩ : ByteArray), (⟨#[45]⟩ : ByteArray), r14])<|pn)
        · obtain ⟨r16, h17, h⟩ := bo h
          injection h with h; subst h; exact rf Tryz.func100 (some [2]) [.callv (.v (.string r2)), .callv (.v (.string r4)), .callv (.v (.string r6)), .f, .t, .callv (.v (.string r10)), .f, .f, .callv (.v (.string r16)), .obj [] (.w 9 [(⟨#[112, 111, 114, 116]⟩ : ByteArray), a1.dev, a1.port, r10, (⟨#[116, 114, 117, 110, 107]⟩ : ByteArray), r2, r16])] (pc (k_palingref03_Text h3)<|pc (k_palingref03_Text h5)<|pc (k_palingref01_Text h7)<|pc h8<|pc h9<|pc (k_palingref03_Text h11)<|pc h12<|pc h13<|pc (k_palingref11_spell h17)<|pc (bs_ob 9 [(⟨#[112, 111, 114, 116]⟩ : ByteArray), a1.dev, a1.port, r10, (⟨#[116, 114, 117, 110, 107]⟩ : ByteArray), r2, r16])<|pn)
    · obtain ⟨h18, h⟩|⟨h18, h⟩ := ite_out h
      · injection h with h; subst h; exact rf Tryz.func100 (some [2]) [.callv (.v (.string r2)), .callv (.v (.string r4)), .callv (.v (.string r6)), .f, .f, .t, .obj [] (.w 9 [(⟨#[108, 105, 110, 107]⟩ : ByteArray), a1.dev, a1.port, a1.peer, a1.far])] (pc (k_palingref03_Text h3)<|pc (k_palingref03_Text h5)<|pc (k_palingref01_Text h7)<|pc h8<|pc h9<|pc h18<|pc (bs_ob 9 [(⟨#[108, 105, 110, 107]⟩ : ByteArray), a1.dev, a1.port, a1.peer, a1.far])<|pn)
      · obtain ⟨h19, h⟩|⟨h19, h⟩ := ite_out h
        · injection h with h; subst h; exact rf Tryz.func100 (some [2]) [.callv (.v (.string r2)), .callv (.v (.string r4)), .callv (.v (.string r6)), .f, .f, .f, .t, .obj [] (.w 9 [(⟨#[115, 116, 97, 116, 105, 99]⟩ : ByteArray), a1.dev, r2, r6, a1.port])] (pc (k_palingref03_Text h3)<|pc (k_palingref03_Text h5)<|pc (k_palingref01_Text h7)<|pc h8<|pc h9<|pc h18<|pc h19<|pc (bs_ob 9 [(⟨#[115, 116, 97, 116, 105, 99]⟩ : ByteArray), a1.dev, r2, r6, a1.port])<|pn)
        · obtain ⟨h20, h⟩|⟨h20, h⟩ := ite_out h
          · obtain ⟨r21, h22, h⟩ := bo h
            injection h with h; subst h; exact rf Tryz.func100 (some [2]) [.callv (.v (.string r2)), .callv (.v (.string r4)), .callv (.v (.string r6)), .f, .f, .f, .f, .t, .callv (.v (.string r21)), .obj [] (.w 9 [(⟨#[118, 116, 101, 112]⟩ : ByteArray), a1.dev, r21])] (pc (k_palingref03_Text h3)<|pc (k_palingref03_Text h5)<|pc (k_palingref01_Text h7)<|pc h8<|pc h9<|pc h18<|pc h19<|pc h20<|pc (k_palingref02_Text h22)<|pc (bs_ob 9 [(⟨#[118, 116, 101, 112]⟩ : ByteArray), a1.dev, r21])<|pn)
          · obtain ⟨h23, h⟩|⟨h23, h⟩ := ite_out h
            · injection h with h; subst h; exact rf Tryz.func100 (some [2]) [.callv (.v (.string r2)), .callv (.v (.string r4)), .callv (.v (.string r6)), .f, .f, .f, .f, .f, .t, .obj [] (.w 9 [(⟨#[118, 110, 105]⟩ : ByteArray), a1.dev, r2, r4])] (pc (k_palingref03_Text h3)<|pc (k_palingref03_Text h5)<|pc (k_palingref01_Text h7)<|pc h8<|pc h9<|pc h18<|pc h19<|pc h20<|pc h23<|pc (bs_ob 9 [(⟨#[118, 110, 105]⟩ : ByteArray), a1.dev, r2, r4])<|pn)
            · obtain ⟨h24, h⟩|⟨h24, h⟩ := ite_out h
              · obtain ⟨r25, h26, h⟩ := bo h
                injection h with h; subst h; exact rf Tryz.func100 (some [2]) [.callv (.v (.string r2)), .callv (.v (.string r4)), .callv (.v (.string r6)), .f, .f, .f, .f, .f, .f, .t, .callv (.v (.string r25)), .obj [] (.w 9 [(⟨#[102, 108, 111, 111, 100]⟩ : ByteArray), a1.dev, r4, r25])] (pc (k_palingref03_Text h3)<|pc (k_palingref03_Text h5)<|pc (k_palingref01_Text h7)<|pc h8<|pc h9<|pc h18<|pc h19<|pc h20<|pc h23<|pc h24<|pc (k_palingref03_AddrsText h26)<|pc (bs_ob 9 [(⟨#[102, 108, 111, 111, 100]⟩ : ByteArray), a1.dev, r4, r25])<|pn)
              · obtain ⟨h27, h⟩|⟨h27, h⟩ := ite_out h
                · obtain ⟨r28, h29, h⟩ := bo h
                  obtain ⟨r30, h31, h⟩ := bo h
                  injection h with h; subst h; exact rf Tryz.func100 (some [2]) [.callv (.v (.string r2)), .callv (.v (.string r4)), .callv (.v (.string r6)), .f, .f, .f, .f, .f, .f, .f, .t, .callv (.v (.string r28)), .callv (.v (.string r30)), .obj [] (.w 9 [(⟨#[118, 114, 102]⟩ : ByteArray), a1.dev, a1.name, r28, r30])] (pc (k_palingref03_Text h3)<|pc (k_palingref03_Text h5)<|pc (k_palingref01_Text h7)<|pc h8<|pc h9<|pc h18<|pc h19<|pc h20<|pc h23<|pc h24<|pc h27<|pc (k_palingref11_spell h29)<|pc (k_palingref11_spell h31)<|pc (bs_ob 9 [(⟨#[118, 114, 102]⟩ : ByteArray), a1.dev, a1.name, r28, r30])<|pn)
                · obtain ⟨h32, h⟩|⟨h32, h⟩ := ite_out h
                  · obtain ⟨r33, h34, h⟩ := bo h
                    injection h with h; subst h; exact rf Tryz.func100 (some [2]) [.callv (.v (.string r2)), .callv (.v (.string r4)), .callv (.v (.string r6)), .f, .f, .f, .f, .f, .f, .f, .f, .t, .callv (.v (.string r33)), .obj [] (.w 9 [(⟨#[105, 114, 98]⟩ : ByteArray), a1.dev, r2, a1.name, r33])] (pc (k_palingref03_Text h3)<|pc (k_palingref03_Text h5)<|pc (k_palingref01_Text h7)<|pc h8<|pc h9<|pc h18<|pc h19<|pc h20<|pc h23<|pc h24<|pc h27<|pc h32<|pc (k_palingref02_PrefixText h34)<|pc (bs_ob 9 [(⟨#[105, 114, 98]⟩ : ByteArray), a1.dev, r2, a1.name, r33])<|pn)
                  · injection h with h; subst h; exact rf Tryz.func100 (some [2]) [.callv (.v (.string r2)), .callv (.v (.string r4)), .callv (.v (.string r6)), .f, .f, .f, .f, .f, .f, .f, .f, .f] (pc (k_palingref03_Text h3)<|pc (k_palingref03_Text h5)<|pc (k_palingref01_Text h7)<|pc h8<|pc h9<|pc h18<|pc h19<|pc h20<|pc h23<|pc h24<|pc h27<|pc h32<|pn)

theorem k_palingref11_form {a1 : List ByteArray} {r : ByteArray} (h : palingref11_form a1 = some r) :
    CallsOK Tryz.prog UU 128 [.sl 9 a1] [] (.v (.string r)) [] := by
  unfold palingref11_form at h
  obtain ⟨h2, h⟩|⟨h2, h⟩ := ite_out h
  · injection h with h; subst h; exact rf Tryz.func128 none [.t] (pc h2<|pn)
  · obtain ⟨x3, h4, h⟩ := bo h
    obtain ⟨h5, h⟩|⟨h5, h⟩ := ite_out h
    · injection h with h; subst h; exact rf Tryz.func128 none [.f, .row (c9 x3), .t] (pc h2<|pc (ob9 h4)<|pc h5<|pn)
    · obtain ⟨h6, h⟩|⟨h6, h⟩ := ite_out h
      · injection h with h; subst h; exact rf Tryz.func128 none [.f, .row (c9 x3), .f, .t] (pc h2<|pc (ob9 h4)<|pc h5<|pc h6<|pn)
      · obtain ⟨h7, h⟩|⟨h7, h⟩ := ite_out h
        · injection h with h; subst h; exact rf Tryz.func128 none [.f, .row (c9 x3), .f, .f, .t] (pc h2<|pc (ob9 h4)<|pc h5<|pc h6<|pc h7<|pn)
        · obtain ⟨h8, h⟩|⟨h8, h⟩ := ite_out h
          · injection h with h; subst h; exact rf Tryz.func128 none [.f, .row (c9 x3), .f, .f, .f, .t] (pc h2<|pc (ob9 h4)<|pc h5<|pc h6<|pc h7<|pc h8<|pn)
          · obtain ⟨h9, h⟩|⟨h9, h⟩ := ite_out h
            · injection h with h; subst h; exact rf Tryz.func128 none [.f, .row (c9 x3), .f, .f, .f, .f, .t] (pc h2<|pc (ob9 h4)<|pc h5<|pc h6<|pc h7<|pc h8<|pc h9<|pn)
            · obtain ⟨h10, h⟩|⟨h10, h⟩ := ite_out h
              · injection h with h; subst h; exact rf Tryz.func128 none [.f, .row (c9 x3), .f, .f, .f, .f, .f, .t] (pc h2<|pc (ob9 h4)<|pc h5<|pc h6<|pc h7<|pc h8<|pc h9<|pc h10<|pn)
              · obtain ⟨h11, h⟩|⟨h11, h⟩ := ite_out h
                · injection h with h; subst h; exact rf Tryz.func128 none [.f, .row (c9 x3), .f, .f, .f, .f, .f, .f, .t] (pc h2<|pc (ob9 h4)<|pc h5<|pc h6<|pc h7<|pc h8<|pc h9<|pc h10<|pc h11<|pn)
                · obtain ⟨h12, h⟩|⟨h12, h⟩ := ite_out h
                  · injection h with h; subst h; exact rf Tryz.func128 none [.f, .row (c9 x3), .f, .f, .f, .f, .f, .f, .f, .t] (pc h2<|pc (ob9 h4)<|pc h5<|pc h6<|pc h7<|pc h8<|pc h9<|pc h10<|pc h11<|pc h12<|pn)
                  · obtain ⟨h13, h⟩|⟨h13, h⟩ := ite_out h
                    · obtain ⟨h14, h⟩|⟨h14, h⟩ := ite_out h
                      · obtain ⟨x15, h16, h⟩ := bo h
                        obtain ⟨h17, h⟩|⟨h17, h⟩ := ite_out h
                        · injection h with h; subst h; exact rf Tryz.func128 none [.f, .row (c9 x3), .f, .f, .f, .f, .f, .f, .f, .f, .t, .t, .row (c9 x15), .t] (pc h2<|pc (ob9 h4)<|pc h5<|pc h6<|pc h7<|pc h8<|pc h9<|pc h10<|pc h11<|pc h12<|pc h13<|pc h14<|pc (ob9 h16)<|pc h17<|pn)
                        · obtain ⟨h18, h⟩|⟨h18, h⟩ := ite_out h
                          · obtain ⟨x19, h20, h⟩ := bo h
                            obtain ⟨h21, h⟩|⟨h21, h⟩ := ite_out h
                            · injection h with h; subst h; exact rf Tryz.func128 none [.f, .row (c9 x3), .f, .f, .f, .f, .f, .f, .f, .f, .t, .t, .row (c9 x15), .f, .t, .row (c9 x19), .t] (pc h2<|pc (ob9 h4)<|pc h5<|pc h6<|pc h7<|pc h8<|pc h9<|pc h10<|pc h11<|pc h12<|pc h13<|pc h14<|pc (ob9 h16)<|pc h17<|pc h18<|pc (ob9 h20)<|pc h21<|pn)
                            · injection h with h; subst h; exact rf Tryz.func128 none [.f, .row (c9 x3), .f, .f, .f, .f, .f, .f, .f, .f, .t, .t, .row (c9 x15), .f, .t, .row (c9 x19), .f] (pc h2<|pc (ob9 h4)<|pc h5<|pc h6<|pc h7<|pc h8<|pc h9<|pc h10<|pc h11<|pc h12<|pc h13<|pc h14<|pc (ob9 h16)<|pc h17<|pc h18<|pc (ob9 h20)<|pc h21<|pn)
                          · injection h with h; subst h; exact rf Tryz.func128 none [.f, .row (c9 x3), .f, .f, .f, .f, .f, .f, .f, .f, .t, .t, .row (c9 x15), .f, .f] (pc h2<|pc (ob9 h4)<|pc h5<|pc h6<|pc h7<|pc h8<|pc h9<|pc h10<|pc h11<|pc h12<|pc h13<|pc h14<|pc (ob9 h16)<|pc h17<|pc h18<|pn)
                      · obtain ⟨h22, h⟩|⟨h22, h⟩ := ite_out h
                        · obtain ⟨x23, h24, h⟩ := bo h
                          obtain ⟨h25, h⟩|⟨h25, h⟩ := ite_out h
                          · injection h with h; subst h; exact rf Tryz.func128 none [.f, .row (c9 x3), .f, .f, .f, .f, .f, .f, .f, .f, .t, .f, .t, .row (c9 x23), .t] (pc h2<|pc (ob9 h4)<|pc h5<|pc h6<|pc h7<|pc h8<|pc h9<|pc h10<|pc h11<|pc h12<|pc h13<|pc h14<|pc h22<|pc (ob9 h24)<|pc h25<|pn)
                          · injection h with h; subst h; exact rf Tryz.func128 none [.f, .row (c9 x3), .f, .f, .f, .f, .f, .f, .f, .f, .t, .f, .t, .row (c9 x23), .f] (pc h2<|pc (ob9 h4)<|pc h5<|pc h6<|pc h7<|pc h8<|pc h9<|pc h10<|pc h11<|pc h12<|pc h13<|pc h14<|pc h22<|pc (ob9 h24)<|pc h25<|pn)
                        · injection h with h; subst h; exact rf Tryz.func128 none [.f, .row (c9 x3), .f, .f, .f, .f, .f, .f, .f, .f, .t, .f, .f] (pc h2<|pc (ob9 h4)<|pc h5<|pc h6<|pc h7<|pc h8<|pc h9<|pc h10<|pc h11<|pc h12<|pc h13<|pc h14<|pc h22<|pn)
                    · injection h with h; subst h; exact rf Tryz.func128 none [.f, .row (c9 x3), .f, .f, .f, .f, .f, .f, .f, .f, .f] (pc h2<|pc (ob9 h4)<|pc h5<|pc h6<|pc h7<|pc h8<|pc h9<|pc h10<|pc h11<|pc h12<|pc h13<|pn)

theorem k_palingref11_kind_L1 {a1 : ByteArray} : LoopOK Tryz.prog UU 0 19 (subC (codeOf Tryz.f129) [1, 1, 0, 1, 0, 0]) (ρ := Int ⊕ Unit) (palingref11_kind_L1 a1)
    (fun v2 : Int => ([(0, .v (.string a1)), (2, .z), (3, .os 0 (List.length [(⟨#[]⟩ : ByteArray), (⟨#[100, 101, 118, 105, 99, 101]⟩ : ByteArray), (⟨#[112, 111, 114, 116]⟩ : ByteArray), (⟨#[108, 105, 110, 107]⟩ : ByteArray), (⟨#[115, 116, 97, 116, 105, 99]⟩ : ByteArray), (⟨#[118, 116, 101, 112]⟩ : ByteArray), (⟨#[118, 110, 105]⟩ : ByteArray), (⟨#[102, 108, 111, 111, 100]⟩ : ByteArray), (⟨#[118, 114, 102]⟩ : ByteArray), (⟨#[105, 114, 98]⟩ : ByteArray)])), (4, .j v2)] : Fr DD)) (fun v2 : Int => ([.w 9 [(⟨#[]⟩ : ByteArray), (⟨#[100, 101, 118, 105, 99, 101]⟩ : ByteArray), (⟨#[112, 111, 114, 116]⟩ : ByteArray), (⟨#[108, 105, 110, 107]⟩ : ByteArray), (⟨#[115, 116, 97, 116, 105, 99]⟩ : ByteArray), (⟨#[118, 116, 101, 112]⟩ : ByteArray), (⟨#[118, 110, 105]⟩ : ByteArray), (⟨#[102, 108, 111, 111, 100]⟩ : ByteArray), (⟨#[118, 114, 102]⟩ : ByteArray), (⟨#[105, 114, 98]⟩ : ByteArray)]] : Heap DD)) (fun r => match r with | Sum.inl v9 => .ret | Sum.inr _ => .exit 0) (fun r => match r with | Sum.inl v9 => [(2, .j v9)] | Sum.inr _ => [(2, .z)]) (fun r => match r with | Sum.inl v9 => [] | Sum.inr _ => []) := by
  refine loop_sound3 (fun s q h => ?_) (fun r => ?_)
  · replace h : palingref11_kind_L1 a1 s = some q := h; revert h; revert s; intro v2 h
    unfold palingref11_kind_L1 at h
    obtain ⟨h3, h⟩|⟨h3, h⟩ := ite_out h
    · obtain ⟨h4, h⟩|⟨h4, h⟩ := ite_out h
      · obtain ⟨x5, h6, h⟩ := bo h
        obtain ⟨h7, h⟩|⟨h7, h⟩ := ite_out h
        · injection h with h; subst h; exact rl [2] [] [.t, .row (c9 x5), .t] (pc (rn (List.length [(⟨#[]⟩ : ByteArray), (⟨#[100, 101, 118, 105, 99, 101]⟩ : ByteArray), (⟨#[112, 111, 114, 116]⟩ : ByteArray), (⟨#[108, 105, 110, 107]⟩ : ByteArray), (⟨#[115, 116, 97, 116, 105, 99]⟩ : ByteArray), (⟨#[118, 116, 101, 112]⟩ : ByteArray), (⟨#[118, 110, 105]⟩ : ByteArray), (⟨#[102, 108, 111, 111, 100]⟩ : ByteArray), (⟨#[118, 114, 102]⟩ : ByteArray), (⟨#[105, 114, 98]⟩ : ByteArray)]))<|pc h3<|pc (an (List.length [(⟨#[]⟩ : ByteArray), (⟨#[100, 101, 118, 105, 99, 101]⟩ : ByteArray), (⟨#[112, 111, 114, 116]⟩ : ByteArray), (⟨#[108, 105, 110, 107]⟩ : ByteArray), (⟨#[115, 116, 97, 116, 105, 99]⟩ : ByteArray), (⟨#[118, 116, 101, 112]⟩ : ByteArray), (⟨#[118, 110, 105]⟩ : ByteArray), (⟨#[102, 108, 111, 111, 100]⟩ : ByteArray), (⟨#[118, 114, 102]⟩ : ByteArray), (⟨#[105, 114, 98]⟩ : ByteArray)]) (lin_ob h4))<|pc (an (List.length [(⟨#[]⟩ : ByteArray), (⟨#[100, 101, 118, 105, 99, 101]⟩ : ByteArray), (⟨#[112, 111, 114, 116]⟩ : ByteArray), (⟨#[108, 105, 110, 107]⟩ : ByteArray), (⟨#[115, 116, 97, 116, 105, 99]⟩ : ByteArray), (⟨#[118, 116, 101, 112]⟩ : ByteArray), (⟨#[118, 110, 105]⟩ : ByteArray), (⟨#[102, 108, 111, 111, 100]⟩ : ByteArray), (⟨#[118, 114, 102]⟩ : ByteArray), (⟨#[105, 114, 98]⟩ : ByteArray)]) (obn9 h6))<|pc h7<|pn)
        · injection h with h; subst h; exact rl [0, 2, 3, 4] [0] [.t, .row (c9 x5), .f] (pc (rn (List.length [(⟨#[]⟩ : ByteArray), (⟨#[100, 101, 118, 105, 99, 101]⟩ : ByteArray), (⟨#[112, 111, 114, 116]⟩ : ByteArray), (⟨#[108, 105, 110, 107]⟩ : ByteArray), (⟨#[115, 116, 97, 116, 105, 99]⟩ : ByteArray), (⟨#[118, 116, 101, 112]⟩ : ByteArray), (⟨#[118, 110, 105]⟩ : ByteArray), (⟨#[102, 108, 111, 111, 100]⟩ : ByteArray), (⟨#[118, 114, 102]⟩ : ByteArray), (⟨#[105, 114, 98]⟩ : ByteArray)]))<|pc h3<|pc (an (List.length [(⟨#[]⟩ : ByteArray), (⟨#[100, 101, 118, 105, 99, 101]⟩ : ByteArray), (⟨#[112, 111, 114, 116]⟩ : ByteArray), (⟨#[108, 105, 110, 107]⟩ : ByteArray), (⟨#[115, 116, 97, 116, 105, 99]⟩ : ByteArray), (⟨#[118, 116, 101, 112]⟩ : ByteArray), (⟨#[118, 110, 105]⟩ : ByteArray), (⟨#[102, 108, 111, 111, 100]⟩ : ByteArray), (⟨#[118, 114, 102]⟩ : ByteArray), (⟨#[105, 114, 98]⟩ : ByteArray)]) (lin_ob h4))<|pc (an (List.length [(⟨#[]⟩ : ByteArray), (⟨#[100, 101, 118, 105, 99, 101]⟩ : ByteArray), (⟨#[112, 111, 114, 116]⟩ : ByteArray), (⟨#[108, 105, 110, 107]⟩ : ByteArray), (⟨#[115, 116, 97, 116, 105, 99]⟩ : ByteArray), (⟨#[118, 116, 101, 112]⟩ : ByteArray), (⟨#[118, 110, 105]⟩ : ByteArray), (⟨#[102, 108, 111, 111, 100]⟩ : ByteArray), (⟨#[118, 114, 102]⟩ : ByteArray), (⟨#[105, 114, 98]⟩ : ByteArray)]) (obn9 h6))<|pc h7<|pn)
      · cases h
    · injection h with h; subst h; exact rl [2] [] [.f] (pc (rn (List.length [(⟨#[]⟩ : ByteArray), (⟨#[100, 101, 118, 105, 99, 101]⟩ : ByteArray), (⟨#[112, 111, 114, 116]⟩ : ByteArray), (⟨#[108, 105, 110, 107]⟩ : ByteArray), (⟨#[115, 116, 97, 116, 105, 99]⟩ : ByteArray), (⟨#[118, 116, 101, 112]⟩ : ByteArray), (⟨#[118, 110, 105]⟩ : ByteArray), (⟨#[102, 108, 111, 111, 100]⟩ : ByteArray), (⟨#[118, 114, 102]⟩ : ByteArray), (⟨#[105, 114, 98]⟩ : ByteArray)]))<|pc h3<|pn)
  · rcases r with _ | _ <;> exact Ex.noConfusion

theorem k_palingref11_kind {a1 : ByteArray} {r : Int} (h : palingref11_kind a1 = some r) :
    CallsOK Tryz.prog UU 129 [.v (.string a1)] [] (.j r) [] := by
  unfold palingref11_kind at h
  obtain ⟨r11, h10, h⟩ := bo h
  rcases r11 with v9 | _
  · injection h with h; subst h; exact rf Tryz.func129 none [.obj [] (.w 9 [(⟨#[]⟩ : ByteArray), (⟨#[100, 101, 118, 105, 99, 101]⟩ : ByteArray), (⟨#[112, 111, 114, 116]⟩ : ByteArray), (⟨#[108, 105, 110, 107]⟩ : ByteArray), (⟨#[115, 116, 97, 116, 105, 99]⟩ : ByteArray), (⟨#[118, 116, 101, 112]⟩ : ByteArray), (⟨#[118, 110, 105]⟩ : ByteArray), (⟨#[102, 108, 111, 111, 100]⟩ : ByteArray), (⟨#[118, 114, 102]⟩ : ByteArray), (⟨#[105, 114, 98]⟩ : ByteArray)]), .sum [0, 2, 3, 4] [0] .ret [(2, .j v9)] []] (pc (bs_ob 9 [(⟨#[]⟩ : ByteArray), (⟨#[100, 101, 118, 105, 99, 101]⟩ : ByteArray), (⟨#[112, 111, 114, 116]⟩ : ByteArray), (⟨#[108, 105, 110, 107]⟩ : ByteArray), (⟨#[115, 116, 97, 116, 105, 99]⟩ : ByteArray), (⟨#[118, 116, 101, 112]⟩ : ByteArray), (⟨#[118, 110, 105]⟩ : ByteArray), (⟨#[102, 108, 111, 111, 100]⟩ : ByteArray), (⟨#[118, 114, 102]⟩ : ByteArray), (⟨#[105, 114, 98]⟩ : ByteArray)])<|pc (k_palingref11_kind_L1 _ _ h10)<|pn)
  · injection h with h; subst h; exact rf Tryz.func129 none [.obj [] (.w 9 [(⟨#[]⟩ : ByteArray), (⟨#[100, 101, 118, 105, 99, 101]⟩ : ByteArray), (⟨#[112, 111, 114, 116]⟩ : ByteArray), (⟨#[108, 105, 110, 107]⟩ : ByteArray), (⟨#[115, 116, 97, 116, 105, 99]⟩ : ByteArray), (⟨#[118, 116, 101, 112]⟩ : ByteArray), (⟨#[118, 110, 105]⟩ : ByteArray), (⟨#[102, 108, 111, 111, 100]⟩ : ByteArray), (⟨#[118, 114, 102]⟩ : ByteArray), (⟨#[105, 114, 98]⟩ : ByteArray)]), .sum [0, 2, 3, 4] [0] (.exit 0) [(2, .z)] []] (pc (bs_ob 9 [(⟨#[]⟩ : ByteArray), (⟨#[100, 101, 118, 105, 99, 101]⟩ : ByteArray), (⟨#[112, 111, 114, 116]⟩ : ByteArray), (⟨#[108, 105, 110, 107]⟩ : ByteArray), (⟨#[115, 116, 97, 116, 105, 99]⟩ : ByteArray), (⟨#[118, 116, 101, 112]⟩ : ByteArray), (⟨#[118, 110, 105]⟩ : ByteArray), (⟨#[102, 108, 111, 111, 100]⟩ : ByteArray), (⟨#[118, 114, 102]⟩ : ByteArray), (⟨#[105, 114, 98]⟩ : ByteArray)])<|pc (k_palingref11_kind_L1 _ _ h10)<|pn)

theorem k_palingref03_Name_L1 {a1 : ByteArray} : LoopOK Tryz.prog UU 0 50 (subC (codeOf Tryz.f149) [1, 1, 0, 1, 0, 0]) (ρ := Unit ⊕ Unit) (palingref03_Name_L1 a1)
    (fun v7 : Int => ([(0, .v (.string a1)), (2, .v (.bool false)), (3, .j v7)] : Fr DD)) (fun v7 : Int => ([] : Heap DD)) (fun r => match r with | Sum.inl _ => .ret | Sum.inr _ => .exit 0) (fun r => match r with | Sum.inl _ => [(2, .v (.bool false))] | Sum.inr _ => [(2, .v (.bool false))]) (fun r => match r with | Sum.inl _ => [] | Sum.inr _ => []) := by
  refine loop_sound3 (fun s q h => ?_) (fun r => ?_)
  · replace h : palingref03_Name_L1 a1 s = some q := h; revert h; revert s; intro v7 h
    unfold palingref03_Name_L1 at h
    obtain ⟨h8, h⟩|⟨h8, h⟩ := ite_out h
    · obtain ⟨h9, h⟩|⟨h9, h⟩ := ite_out h
      · obtain ⟨h10, h⟩|⟨h10, h⟩ := ite_out h
        · obtain ⟨h11, h⟩|⟨h11, h⟩ := ite_out h
          · injection h with h; subst h; exact rl [2] [] [.t, .t, .t] (pc h8<|pc (of_decide_eq_true h9)<|pc h10<|pc (of_decide_eq_true h9)<|pc h11<|pn)
          · obtain ⟨h12, h⟩|⟨h12, h⟩ := ite_out h
            · injection h with h; subst h; exact rl [2] [] [.t, .t, .f, .t] (pc h8<|pc (of_decide_eq_true h9)<|pc h10<|pc (of_decide_eq_true h9)<|pc h11<|pc (of_decide_eq_true h9)<|pc h12<|pn)
            · injection h with h; subst h; exact rl [0, 2, 3] [] [.t, .t, .f, .f] (pc h8<|pc (of_decide_eq_true h9)<|pc h10<|pc (of_decide_eq_true h9)<|pc h11<|pc (of_decide_eq_true h9)<|pc h12<|pn)
        · obtain ⟨h13, h⟩|⟨h13, h⟩ := ite_out h
          · obtain ⟨h14, h⟩|⟨h14, h⟩ := ite_out h
            · injection h with h; subst h; exact rl [2] [] [.t, .f, .t, .t] (pc h8<|pc (of_decide_eq_true h9)<|pc h10<|pc (of_decide_eq_true h9)<|pc h13<|pc (of_decide_eq_true h9)<|pc h14<|pn)
            · obtain ⟨h15, h⟩|⟨h15, h⟩ := ite_out h
              · injection h with h; subst h; exact rl [2] [] [.t, .f, .t, .f, .t] (pc h8<|pc (of_decide_eq_true h9)<|pc h10<|pc (of_decide_eq_true h9)<|pc h13<|pc (of_decide_eq_true h9)<|pc h14<|pc (of_decide_eq_true h9)<|pc h15<|pn)
              · injection h with h; subst h; exact rl [0, 2, 3] [] [.t, .f, .t, .f, .f] (pc h8<|pc (of_decide_eq_true h9)<|pc h10<|pc (of_decide_eq_true h9)<|pc h13<|pc (of_decide_eq_true h9)<|pc h14<|pc (of_decide_eq_true h9)<|pc h15<|pn)
          · injection h with h; subst h; exact rl [0, 2, 3] [] [.t, .f, .f] (pc h8<|pc (of_decide_eq_true h9)<|pc h10<|pc (of_decide_eq_true h9)<|pc h13<|pn)
      · cases h
    · injection h with h; subst h; exact rl [2] [] [.f] (pc h8<|pn)
  · rcases r with _ | _ <;> exact Ex.noConfusion

theorem k_palingref03_Name {a1 : ByteArray} {r : Bool} (h : palingref03_Name a1 = some r) :
    CallsOK Tryz.prog UU 149 [.v (.string a1)] [] (.v (.bool r)) [] := by
  unfold palingref03_Name at h
  obtain ⟨h2, h⟩|⟨h2, h⟩ := ite_out h
  · injection h with h; subst h; exact rf Tryz.func149 none [.t] (pc h2<|pn)
  · obtain ⟨h3, h⟩|⟨h3, h⟩ := ite_out h
    · injection h with h; subst h; exact rf Tryz.func149 none [.f, .t] (pc h2<|pc h3<|pn)
    · obtain ⟨h4, h⟩|⟨h4, h⟩ := ite_out h
      · obtain ⟨h5, h⟩|⟨h5, h⟩ := ite_out h
        · injection h with h; subst h; exact rf Tryz.func149 none [.f, .f, .t] (pc h2<|pc h3<|pc (of_decide_eq_true h4)<|pc h5<|pn)
        · obtain ⟨h6, h⟩|⟨h6, h⟩ := ite_out h
          · injection h with h; subst h; exact rf Tryz.func149 none [.f, .f, .f, .t] (pc h2<|pc h3<|pc (of_decide_eq_true h4)<|pc h5<|pc (of_decide_eq_true h4)<|pc h6<|pn)
          · obtain ⟨r17, h16, h⟩ := bo h
            rcases r17 with _ | _
            · injection h with h; subst h; exact rf Tryz.func149 none [.f, .f, .f, .f, .sum [0, 2, 3] [] .ret [(2, .v (.bool false))] []] (pc h2<|pc h3<|pc (of_decide_eq_true h4)<|pc h5<|pc (of_decide_eq_true h4)<|pc h6<|pc (k_palingref03_Name_L1 _ _ h16)<|pn)
            · injection h with h; subst h; exact rf Tryz.func149 none [.f, .f, .f, .f, .sum [0, 2, 3] [] (.exit 0) [(2, .v (.bool false))] []] (pc h2<|pc h3<|pc (of_decide_eq_true h4)<|pc h5<|pc (of_decide_eq_true h4)<|pc h6<|pc (k_palingref03_Name_L1 _ _ h16)<|pn)
      · cases h

end Go.Eng
