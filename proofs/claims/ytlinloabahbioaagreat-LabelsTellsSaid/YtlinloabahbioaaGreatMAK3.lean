/- Part of the proof of LabelsTells: printed mirrors of the functions, or their contracts. No conditions. -/
import Derived.Test.YtlinloabahbioaaGreatMAK2
set_option linter.unusedVariables false
set_option maxRecDepth 100000
namespace Go.Eng
open Go Go.Proofs
theorem k_labels_Ports_L2 {a1 : Api_Net} {a2 : List Int} {l5 : List Labels_Label} {n6 : Nat} {v11 : Int} {x14 : Labels_Label} {l18 : List Int} : LoopOK Tryz.prog UU 0 59 (subC (codeOf Tryz.f12) [1, 1, 1, 1, 0, 1, 0, 0, 1, 1, 0, 0, 1, 1, 0, 0]) (fun s : (List Int) × Int => match s with | (l19, v20) => labels_Ports_L2 a1 a2 l5 n6 v11 x14 l18 l19 v20)
    (fun s : (List Int) × Int => (match s with | (l19, v20) => [(1, .sl 3 a2), (2, .op 0 1 0 0), (4, .os 1 0), (5, .v (.bool false)), (8, .os 2 (Int.toNat (a1.ports.length : Int))), (10, .op 3 1 0 0), (25, .os 4 n6), (26, .v (.int .i64 (n6 : Int))), (27, .v (.int .i64 v11)), (34, .os 5 (List.length l18)), (35, .v (.int .i64 ((List.length l18) : Int))), (36, .v (.int .i64 v20))] : Fr DD)) (fun s : (List Int) × Int => (match s with | (l19, v20) => [.box 31 (c31 a1) false, .n 3, .arr 3 l19 (Int.toNat (a1.ports.length : Int)) false, .box 43 (c43 x14) false, .arr 43 l5 n6 false, .arr 3 l18 (List.length l18) false] : Heap DD)) (fun r => match r with | l41 => .exit 2) (fun r => match r with | l41 => [(1, .sl 3 a2), (2, .op 0 1 0 0), (4, .os 1 0), (5, .v (.bool false)), (8, .os 2 (Int.toNat (a1.ports.length : Int))), (25, .os 3 n6), (26, .v (.int .i64 (n6 : Int))), (27, .v (.int .i64 v11))]) (fun r => match r with | l41 => [.box 31 (c31 a1) false, .n 3, .arr 3 l41 (Int.toNat (a1.ports.length : Int)) false, .arr 43 l5 n6 false]) := by
  refine loop_sound3 (fun s q h => ?_) (fun r => ?_)
  · obtain ⟨l19, v20⟩ := s; replace h : labels_Ports_L2 a1 a2 l5 n6 v11 x14 l18 l19 v20 = some q := h
    unfold labels_Ports_L2 at h
    rcases ite_out h with ⟨h21, h⟩ | ⟨h21, h⟩
    · rcases ite_out h with ⟨h22, h⟩ | ⟨h22, h⟩
      · obtain ⟨x23, h24, h⟩ := bind_out h
        obtain ⟨x25, h26, h⟩ := bind_out h
        rcases ite_out h with ⟨h27, h⟩ | ⟨h27, h⟩
        · rcases ite_out h with ⟨h28, h⟩ | ⟨h28, h⟩
          · obtain ⟨x29, h30, h⟩ := bind_out h
            obtain ⟨x31, h32, h⟩ := bind_out h
            injection h with h; subst h; exact runLp_sound mixedOrders (live := [1, 2, 4, 5, 8, 10, 25, 26, 27, 34, 35, 36]) (ids := [0, 1, 2, 3, 4, 5]) (π := [.dec true, .row (c3 x23), .row (c3 x25), .dec true, .row (c3 x29), .row (c3 x31), .obj [] (.arr 3 (List.set l19 (Int.toNat x23) (bits_or .i64 x29 (bits_or .i64 x14.plain x14.led) : Int)) (Int.toNat (a1.ports.length : Int)) false)]) (hx := by kernel_rfl) (hps := pc (h21) <| pc (And.intro (rfl : ((List.length l18) : Nat) = (List.length l18)) (lin_ob h22)) <| pc (And.intro (rfl : ((List.length l18) : Nat) = (List.length l18)) (obn3 h24)) <| pc (ob3 h26) <| pc (h27) <| pc (And.intro (rfl : ((Int.toNat (a1.ports.length : Int)) : Nat) = (Int.toNat (a1.ports.length : Int))) (lin_ob h28)) <| pc (And.intro (rfl : ((Int.toNat (a1.ports.length : Int)) : Nat) = (Int.toNat (a1.ports.length : Int))) (obn3 h30)) <| pc (And.intro (rfl : ((Int.toNat (a1.ports.length : Int)) : Nat) = (Int.toNat (a1.ports.length : Int))) (lin_ob h28)) <| pc (st_ob (e := 3) (n := (Int.toNat (a1.ports.length : Int))) (l := l19) (i := (Int.toNat x23)) (bits_or .i64 x29 (bits_or .i64 x14.plain x14.led) : Int) [.v (.int .i64 (bits_or .i64 x29 (bits_or .i64 x14.plain x14.led)))] (obn3 h32) rfl) <| pn)
          · cases h
        · injection h with h; subst h; exact runLp_sound mixedOrders (live := [1, 2, 4, 5, 8, 10, 25, 26, 27, 34, 35, 36]) (ids := [0, 1, 2, 3, 4, 5]) (π := [.dec true, .row (c3 x23), .row (c3 x25), .dec false]) (hx := by kernel_rfl) (hps := pc (h21) <| pc (And.intro (rfl : ((List.length l18) : Nat) = (List.length l18)) (lin_ob h22)) <| pc (And.intro (rfl : ((List.length l18) : Nat) = (List.length l18)) (obn3 h24)) <| pc (ob3 h26) <| pc (h27) <| pn)
      · cases h
    · injection h with h; subst h; exact runLp_sound mixedOrders (live := [1, 2, 4, 5, 8, 25, 26, 27]) (ids := [0, 1, 2, 4]) (π := [.dec false]) (hx := by kernel_rfl) (hps := pc (h21) <| pn)
  · exact Ex.noConfusion

theorem k_labels_Ports_L1 {a1 : Api_Net} {a2 : List Int} {l5 : List Labels_Label} {n6 : Nat} : LoopOK Tryz.prog UU 0 59 (subC (codeOf Tryz.f12) [1, 1, 1, 1, 0, 1, 0, 0]) (fun s : (List Int) × Int => match s with | (l10, v11) => labels_Ports_L1 a1 a2 l5 n6 l10 v11)
    (fun s : (List Int) × Int => (match s with | (l10, v11) => [(1, .sl 3 a2), (2, .op 0 1 0 0), (4, .os 1 0), (5, .v (.bool false)), (8, .os 2 (Int.toNat (a1.ports.length : Int))), (25, .os 3 n6), (26, .v (.int .i64 (n6 : Int))), (27, .v (.int .i64 v11))] : Fr DD)) (fun s : (List Int) × Int => (match s with | (l10, v11) => [.box 31 (c31 a1) false, .n 3, .arr 3 l10 (Int.toNat (a1.ports.length : Int)) false, .arr 43 l5 n6 false] : Heap DD)) (fun r => match r with | l47 => .exit 0) (fun r => match r with | l47 => [(4, .os 0 0), (5, .v (.bool false)), (8, .os 1 (Int.toNat (a1.ports.length : Int)))]) (fun r => match r with | l47 => [.n 3, .arr 3 l47 (Int.toNat (a1.ports.length : Int)) false]) := by
  refine loop_sound3 (fun s q h => ?_) (fun r => ?_)
  · obtain ⟨l10, v11⟩ := s; replace h : labels_Ports_L1 a1 a2 l5 n6 l10 v11 = some q := h
    unfold labels_Ports_L1 at h
    rcases ite_out h with ⟨h12, h⟩ | ⟨h12, h⟩
    · rcases ite_out h with ⟨h13, h⟩ | ⟨h13, h⟩
      · obtain ⟨x14, h15, h⟩ := bind_out h
        obtain ⟨l18, h17, h⟩ := bind_out h
        obtain ⟨l41, h42, h⟩ := bind_out h
        injection h with h; subst h; exact runLp_sound mixedOrders (live := [1, 2, 4, 5, 8, 25, 26, 27]) (ids := [0, 1, 2, 3]) (π := [.dec true, .row (c43 x14), .callo (.os 0 (List.length l18)) [.arr 3 l18 (List.length l18) false], .sum [1, 2, 4, 5, 8, 10, 25, 26, 27, 34, 35, 36] [0, 1, 2, 4, 3, 5] (.exit 2) [(1, .sl 3 a2), (2, .op 0 1 0 0), (4, .os 1 0), (5, .v (.bool false)), (8, .os 2 (Int.toNat (a1.ports.length : Int))), (25, .os 3 n6), (26, .v (.int .i64 (n6 : Int))), (27, .v (.int .i64 v11))] [.box 31 (c31 a1) false, .n 3, .arr 3 l41 (Int.toNat (a1.ports.length : Int)) false, .arr 43 l5 n6 false]]) (hx := by kernel_rfl) (hps := pc (h12) <| pc (And.intro (rfl : (n6 : Nat) = n6) (lin_ob h13)) <| pc (And.intro (rfl : (n6 : Nat) = n6) (obn43 h15)) <| pc (k_names_Members h17) <| pc (im3 l18) <| pc ((rfl : ((List.length l18) : Nat) = (List.length l18))) <| pc (k_labels_Ports_L2 _ _ h42) <| pn)
      · cases h
    · injection h with h; subst h; exact runLp_sound mixedOrders (live := [4, 5, 8]) (ids := [1, 2]) (π := [.dec false]) (hx := by kernel_rfl) (hps := pc (h12) <| pn)
  · exact Ex.noConfusion

theorem k_labels_Ports {a1 : Api_Net} {a2 : List Int} {r : ((List Int) × Nat × Bool)} (h : labels_Ports a1 a2 = some r) :
    CallsOK Tryz.prog UU 12 [.agg (c31 a1), .sl 3 a2] [] ((fun r => match r with | (l50, n51, v52) => .tup [.os 0 n51, .v (.bool v52)]) r) ((fun r => match r with | (l50, n51, v52) => [.arr 3 l50 n51 false]) r) := by
  unfold labels_Ports at h
  obtain ⟨r3, h4, h⟩ := bind_out h
  obtain ⟨l5, n6, v7⟩ := r3
  rcases ite_out h with ⟨h8, h⟩ | ⟨h8, h⟩
  · injection h with h; subst h; exact runFn_sound mixedOrders Tryz.func12 rfl (keep := some [3]) (π := [.callo (.tup [.os 0 n6, .v (.bool v7)]) [.arr 43 l5 n6 false], .dec true]) (hrun := by kernel_rfl) (hps := pc (k_labels_All h4) <| pc (im43 l5) <| pc (h8) <| pn)
  · rcases ite_out h with ⟨h9, h⟩ | ⟨h9, h⟩
    · obtain ⟨l47, h48, h⟩ := bind_out h
      injection h with h; subst h; exact runFn_sound mixedOrders Tryz.func12 rfl (keep := some [1]) (π := [.callo (.tup [.os 0 n6, .v (.bool v7)]) [.arr 43 l5 n6 false], .dec false, .obj [] (.arr 3 (List.replicate (Int.toNat (a1.ports.length : Int)) (0 : Int)) (Int.toNat (a1.ports.length : Int)) false), .sum [1, 2, 4, 5, 8, 25, 26, 27] [0, 1, 3, 2] (.exit 0) [(4, .os 0 0), (5, .v (.bool false)), (8, .os 1 (Int.toNat (a1.ports.length : Int)))] [.n 3, .arr 3 l47 (Int.toNat (a1.ports.length : Int)) false]]) (hrun := by kernel_rfl) (hps := pc (k_labels_All h4) <| pc (im43 l5) <| pc (h8) <| pc (mk_ob 3 (0 : Int) h9) <| pc ((rfl : ((Int.toNat (a1.ports.length : Int)) : Nat) = (Int.toNat (a1.ports.length : Int)))) <| pc ((rfl : (n6 : Nat) = n6)) <| pc (k_labels_Ports_L1 _ _ h48) <| pn)
    · cases h

theorem k_labels_has {a1 : Int} {a2 : Int} {r : Bool} (h : labels_has a1 a2 = some r) :
    CallsOK Tryz.prog UU 48 [.v (.int .i64 a1), .v (.int .i64 a2)] [] (.v (.bool r)) [] := by
  unfold labels_has at h
  rcases ite_out h with ⟨h3, h⟩ | ⟨h3, h⟩
  · rcases ite_out h with ⟨h4, h⟩ | ⟨h4, h⟩
    · rcases ite_out h with ⟨h5, h⟩ | ⟨h5, h⟩
      · injection h with h; subst h; exact runFn_sound mixedOrders Tryz.func48 rfl (keep := none) (π := [.dec true, .dec true]) (hrun := by kernel_rfl) (hps := pc (h3) <| pc (h4) <| pc (of_decide_eq_true h5) <| pn)
      · cases h
    · injection h with h; subst h; exact runFn_sound mixedOrders Tryz.func48 rfl (keep := none) (π := [.dec true, .dec false]) (hrun := by kernel_rfl) (hps := pc (h3) <| pc (h4) <| pn)
  · injection h with h; subst h; exact runFn_sound mixedOrders Tryz.func48 rfl (keep := none) (π := [.dec false]) (hrun := by kernel_rfl) (hps := pc (h3) <| pn)

theorem k_labels_Names_L1 {a1 : Int} : LoopOK Tryz.prog UU 0 17 (subC (codeOf Tryz.f17) [1, 1, 0, 1, 0, 0]) (fun s : (List Int) × Int => match s with | (l2, v3) => labels_Names_L1 a1 l2 v3)
    (fun s : (List Int) × Int => (match s with | (l2, v3) => [(0, .v (.int .i64 a1)), (2, .os 0 0), (3, .os 1 (List.length l2)), (5, .v (.int .i64 v3))] : Fr DD)) (fun s : (List Int) × Int => (match s with | (l2, v3) => [.n 3, .arr 3 l2 (List.length l2) false] : Heap DD)) (fun r => match r with | l11 => .exit 0) (fun r => match r with | l11 => [(2, .os 0 0), (3, .os 1 (List.length l11))]) (fun r => match r with | l11 => [.n 3, .arr 3 l11 (List.length l11) false]) := by
  refine loop_sound3 (fun s q h => ?_) (fun r => ?_)
  · obtain ⟨l2, v3⟩ := s; replace h : labels_Names_L1 a1 l2 v3 = some q := h
    unfold labels_Names_L1 at h
    rcases ite_out h with ⟨h4, h⟩ | ⟨h4, h⟩
    · obtain ⟨r5, h6, h⟩ := bind_out h
      rcases ite_out h with ⟨h7, h⟩ | ⟨h7, h⟩
      · rcases ite_out h with ⟨h8, h⟩ | ⟨h8, h⟩
        · injection h with h; subst h; exact runLp_sound mixedOrders (live := [0, 2, 3, 5]) (ids := [0, 1]) (π := [.dec true, .callv (.v (.bool r5)), .dec true, .obj [] (.arr 3 [v3] (List.length [v3]) false), .obj [] (.arr 3 (l2 ++ [v3]) (List.length (l2 ++ [v3])) false)]) (hx := by kernel_rfl) (hps := pc (h4) <| pc (k_labels_has h6) <| pc (h7) <| pc (bs_ob 3 [v3]) <| pc (app_ob 3 (n := (List.length l2)) (l := l2) (xs := [v3]) h8) <| pc ((rfl : ((List.length [v3]) : Nat) = (List.length [v3]))) <| pn)
        · cases h
      · injection h with h; subst h; exact runLp_sound mixedOrders (live := [0, 2, 3, 5]) (ids := [0, 1]) (π := [.dec true, .callv (.v (.bool r5)), .dec false]) (hx := by kernel_rfl) (hps := pc (h4) <| pc (k_labels_has h6) <| pc (h7) <| pn)
    · injection h with h; subst h; exact runLp_sound mixedOrders (live := [2, 3]) (ids := [0, 1]) (π := [.dec false]) (hx := by kernel_rfl) (hps := pc (h4) <| pn)
  · exact Ex.noConfusion

theorem k_labels_Names {a1 : Int} {r : ((List Int))} (h : labels_Names a1 = some r) :
    CallsOK Tryz.prog UU 17 [.v (.int .i64 a1)] [] ((fun r => match r with | l14 => .os 0 (List.length l14)) r) ((fun r => match r with | l14 => [.arr 3 l14 (List.length l14) false]) r) := by
  unfold labels_Names at h
  obtain ⟨l11, h12, h⟩ := bind_out h
  injection h with h; subst h; exact runFn_sound mixedOrders Tryz.func17 rfl (keep := some [1]) (π := [.sum [0, 2, 3, 5] [0, 1] (.exit 0) [(2, .os 0 0), (3, .os 1 (List.length l11))] [.n 3, .arr 3 l11 (List.length l11) false]]) (hrun := by kernel_rfl) (hps := pc (k_labels_Names_L1 _ _ h12) <| pn)

theorem k_palinglaw42_works {r : Bool} (h : palinglaw42_works = some r) :
    CallsOK Tryz.prog UU 9 [] [] (.v (.bool r)) [] := by
  unfold palinglaw42_works at h
  obtain ⟨r1, h2, h⟩ := bind_out h
  obtain ⟨l3, n4, v5⟩ := r1
  obtain ⟨r6, h7, h⟩ := bind_out h
  obtain ⟨l8, n9, v10⟩ := r6
  rcases ite_out h with ⟨h11, h⟩ | ⟨h11, h⟩
  · rcases ite_out h with ⟨h12, h⟩ | ⟨h12, h⟩
    · rcases ite_out h with ⟨h13, h⟩ | ⟨h13, h⟩
      · obtain ⟨x14, h15, h⟩ := bind_out h
        rcases ite_out h with ⟨h16, h⟩ | ⟨h16, h⟩
        · rcases ite_out h with ⟨h17, h⟩ | ⟨h17, h⟩
          · obtain ⟨x18, h19, h⟩ := bind_out h
            rcases ite_out h with ⟨h20, h⟩ | ⟨h20, h⟩
            · rcases ite_out h with ⟨h21, h⟩ | ⟨h21, h⟩
              · obtain ⟨x22, h23, h⟩ := bind_out h
                rcases ite_out h with ⟨h24, h⟩ | ⟨h24, h⟩
                · rcases ite_out h with ⟨h25, h⟩ | ⟨h25, h⟩
                  · obtain ⟨l28, h27, h⟩ := bind_out h
                    injection h with h; subst h; exact runFn_sound mixedOrders Tryz.func9 rfl (keep := none) (π := [.obj [] (.arr 73 [(⟨0, 0, (⟨#[97]⟩ : ByteArray), 0, 0⟩ : Api_Device)] (List.length [(⟨0, 0, (⟨#[97]⟩ : ByteArray), 0, 0⟩ : Api_Device)]) false), .obj [] (.arr 65 [(⟨0, 0, 10, 0, (-1), (⟨#[112]⟩ : ByteArray), []⟩ : Api_Port), (⟨0, 0, 10, 0, (-1), (⟨#[113]⟩ : ByteArray), []⟩ : Api_Port), (⟨0, 0, 20, 0, (-1), (⟨#[114]⟩ : ByteArray), []⟩ : Api_Port)] (List.length [(⟨0, 0, 10, 0, (-1), (⟨#[112]⟩ : ByteArray), []⟩ : Api_Port), (⟨0, 0, 10, 0, (-1), (⟨#[113]⟩ : ByteArray), []⟩ : Api_Port), (⟨0, 0, 20, 0, (-1), (⟨#[114]⟩ : ByteArray), []⟩ : Api_Port)]) false), .obj [] (.arr 67 [(⟨0, 10, 0, (-1), 0, []⟩ : Api_Domain), (⟨0, 20, 0, (-1), 0, []⟩ : Api_Domain)] (List.length [(⟨0, 10, 0, (-1), 0, []⟩ : Api_Domain), (⟨0, 20, 0, (-1), 0, []⟩ : Api_Domain)]) false), .obj [] (.arr 3 [(0 : Int), (1 : Int), (2 : Int)] (List.length [(0 : Int), (1 : Int), (2 : Int)]) false), .callo (.tup [.os 0 n4, .v (.bool v5)]) [.arr 3 l3 n4 false], .obj [] (.arr 3 [(0 : Int), (1 : Int)] (List.length [(0 : Int), (1 : Int)]) false), .callo (.tup [.os 0 n9, .v (.bool v10)]) [.arr 3 l8 n9 false], .dec true, .dec true, .row (c3 x14), .dec true, .row (c3 x18), .dec true, .row (c3 x22), .dec true, .dec true, .callo (.os 0 (List.length l28)) [.arr 3 l28 (List.length l28) false]]) (hrun := by kernel_rfl) (hps := pc (bs_ob 73 [(⟨0, 0, (⟨#[97]⟩ : ByteArray), 0, 0⟩ : Api_Device)]) <| pc (bs_ob 65 [(⟨0, 0, 10, 0, (-1), (⟨#[112]⟩ : ByteArray), []⟩ : Api_Port), (⟨0, 0, 10, 0, (-1), (⟨#[113]⟩ : ByteArray), []⟩ : Api_Port), (⟨0, 0, 20, 0, (-1), (⟨#[114]⟩ : ByteArray), []⟩ : Api_Port)]) <| pc (bs_ob 67 [(⟨0, 10, 0, (-1), 0, []⟩ : Api_Domain), (⟨0, 20, 0, (-1), 0, []⟩ : Api_Domain)]) <| pc (bs_ob 3 [(0 : Int), (1 : Int), (2 : Int)]) <| pc (k_labels_Ports h2) <| pc (im3 l3) <| pc ((rfl : ((List.length [(⟨0, 0, (⟨#[97]⟩ : ByteArray), 0, 0⟩ : Api_Device)]) : Nat) = (List.length [(⟨0, 0, (⟨#[97]⟩ : ByteArray), 0, 0⟩ : Api_Device)]))) <| pc ((rfl : ((List.length [(⟨0, 0, 10, 0, (-1), (⟨#[112]⟩ : ByteArray), []⟩ : Api_Port), (⟨0, 0, 10, 0, (-1), (⟨#[113]⟩ : ByteArray), []⟩ : Api_Port), (⟨0, 0, 20, 0, (-1), (⟨#[114]⟩ : ByteArray), []⟩ : Api_Port)]) : Nat) = (List.length [(⟨0, 0, 10, 0, (-1), (⟨#[112]⟩ : ByteArray), []⟩ : Api_Port), (⟨0, 0, 10, 0, (-1), (⟨#[113]⟩ : ByteArray), []⟩ : Api_Port), (⟨0, 0, 20, 0, (-1), (⟨#[114]⟩ : ByteArray), []⟩ : Api_Port)]))) <| pc ((rfl : (0 : Nat) = 0)) <| pc ((rfl : ((List.length [(⟨0, 10, 0, (-1), 0, []⟩ : Api_Domain), (⟨0, 20, 0, (-1), 0, []⟩ : Api_Domain)]) : Nat) = (List.length [(⟨0, 10, 0, (-1), 0, []⟩ : Api_Domain), (⟨0, 20, 0, (-1), 0, []⟩ : Api_Domain)]))) <| pc ((rfl : (0 : Nat) = 0)) <| pc ((rfl : (0 : Nat) = 0)) <| pc ((rfl : (0 : Nat) = 0)) <| pc ((rfl : (0 : Nat) = 0)) <| pc ((rfl : ((List.length [(0 : Int), (1 : Int), (2 : Int)]) : Nat) = (List.length [(0 : Int), (1 : Int), (2 : Int)]))) <| pc (bs_ob 3 [(0 : Int), (1 : Int)]) <| pc (k_labels_Ports h7) <| pc (im3 l8) <| pc ((rfl : ((List.length [(⟨0, 0, (⟨#[97]⟩ : ByteArray), 0, 0⟩ : Api_Device)]) : Nat) = (List.length [(⟨0, 0, (⟨#[97]⟩ : ByteArray), 0, 0⟩ : Api_Device)]))) <| pc ((rfl : ((List.length [(⟨0, 0, 10, 0, (-1), (⟨#[112]⟩ : ByteArray), []⟩ : Api_Port), (⟨0, 0, 10, 0, (-1), (⟨#[113]⟩ : ByteArray), []⟩ : Api_Port), (⟨0, 0, 20, 0, (-1), (⟨#[114]⟩ : ByteArray), []⟩ : Api_Port)]) : Nat) = (List.length [(⟨0, 0, 10, 0, (-1), (⟨#[112]⟩ : ByteArray), []⟩ : Api_Port), (⟨0, 0, 10, 0, (-1), (⟨#[113]⟩ : ByteArray), []⟩ : Api_Port), (⟨0, 0, 20, 0, (-1), (⟨#[114]⟩ : ByteArray), []⟩ : Api_Port)]))) <| pc ((rfl : (0 : Nat) = 0)) <| pc ((rfl : ((List.length [(⟨0, 10, 0, (-1), 0, []⟩ : Api_Domain), (⟨0, 20, 0, (-1), 0, []⟩ : Api_Domain)]) : Nat) = (List.length [(⟨0, 10, 0, (-1), 0, []⟩ : Api_Domain), (⟨0, 20, 0, (-1), 0, []⟩ : Api_Domain)]))) <| pc ((rfl : (0 : Nat) = 0)) <| pc ((rfl : (0 : Nat) = 0)) <| pc ((rfl : (0 : Nat) = 0)) <| pc ((rfl : (0 : Nat) = 0)) <| pc ((rfl : ((List.length [(0 : Int), (1 : Int)]) : Nat) = (List.length [(0 : Int), (1 : Int)]))) <| pc (h11) <| pc ((rfl : (n4 : Nat) = n4)) <| pc (h12) <| pc (And.intro (rfl : (n4 : Nat) = n4) (lin_ob h13)) <| pc (And.intro (rfl : (n4 : Nat) = n4) (obn3 h15)) <| pc (h16) <| pc (And.intro (rfl : (n4 : Nat) = n4) (lin_ob h17)) <| pc (And.intro (rfl : (n4 : Nat) = n4) (obn3 h19)) <| pc (h20) <| pc (And.intro (rfl : (n4 : Nat) = n4) (lin_ob h21)) <| pc (And.intro (rfl : (n4 : Nat) = n4) (obn3 h23)) <| pc (h24) <| pc (h25) <| pc (k_labels_Names h27) <| pc (im3 l28) <| pc ((rfl : ((List.length l28) : Nat) = (List.length l28))) <| pn)
                  · injection h with h; subst h; exact runFn_sound mixedOrders Tryz.func9 rfl (keep := none) (π := [.obj [] (.arr 73 [(⟨0, 0, (⟨#[97]⟩ : ByteArray), 0, 0⟩ : Api_Device)] (List.length [(⟨0, 0, (⟨#[97]⟩ : ByteArray), 0, 0⟩ : Api_Device)]) false), .obj [] (.arr 65 [(⟨0, 0, 10, 0, (-1), (⟨#[112]⟩ : ByteArray), []⟩ : Api_Port), (⟨0, 0, 10, 0, (-1), (⟨#[113]⟩ : ByteArray), []⟩ : Api_Port), (⟨0, 0, 20, 0, (-1), (⟨#[114]⟩ : ByteArray), []⟩ : Api_Port)] (List.length [(⟨0, 0, 10, 0, (-1), (⟨#[112]⟩ : ByteArray), []⟩ : Api_Port), (⟨0, 0, 10, 0, (-1), (⟨#[113]⟩ : ByteArray), []⟩ : Api_Port), (⟨0, 0, 20, 0, (-1), (⟨#[114]⟩ : ByteArray), []⟩ : Api_Port)]) false), .obj [] (.arr 67 [(⟨0, 10, 0, (-1), 0, []⟩ : Api_Domain), (⟨0, 20, 0, (-1), 0, []⟩ : Api_Domain)] (List.length [(⟨0, 10, 0, (-1), 0, []⟩ : Api_Domain), (⟨0, 20, 0, (-1), 0, []⟩ : Api_Domain)]) false), .obj [] (.arr 3 [(0 : Int), (1 : Int), (2 : Int)] (List.length [(0 : Int), (1 : Int), (2 : Int)]) false), .callo (.tup [.os 0 n4, .v (.bool v5)]) [.arr 3 l3 n4 false], .obj [] (.arr 3 [(0 : Int), (1 : Int)] (List.length [(0 : Int), (1 : Int)]) false), .callo (.tup [.os 0 n9, .v (.bool v10)]) [.arr 3 l8 n9 false], .dec true, .dec true, .row (c3 x14), .dec true, .row (c3 x18), .dec true, .row (c3 x22), .dec true, .dec false]) (hrun := by kernel_rfl) (hps := pc (bs_ob 73 [(⟨0, 0, (⟨#[97]⟩ : ByteArray), 0, 0⟩ : Api_Device)]) <| pc (bs_ob 65 [(⟨0, 0, 10, 0, (-1), (⟨#[112]⟩ : ByteArray), []⟩ : Api_Port), (⟨0, 0, 10, 0, (-1), (⟨#[113]⟩ : ByteArray), []⟩ : Api_Port), (⟨0, 0, 20, 0, (-1), (⟨#[114]⟩ : ByteArray), []⟩ : Api_Port)]) <| pc (bs_ob 67 [(⟨0, 10, 0, (-1), 0, []⟩ : Api_Domain), (⟨0, 20, 0, (-1), 0, []⟩ : Api_Domain)]) <| pc (bs_ob 3 [(0 : Int), (1 : Int), (2 : Int)]) <| pc (k_labels_Ports h2) <| pc (im3 l3) <| pc ((rfl : ((List.length [(⟨0, 0, (⟨#[97]⟩ : ByteArray), 0, 0⟩ : Api_Device)]) : Nat) = (List.length [(⟨0, 0, (⟨#[97]⟩ : ByteArray), 0, 0⟩ : Api_Device)]))) <| pc ((rfl : ((List.length [(⟨0, 0, 10, 0, (-1), (⟨#[112]⟩ : ByteArray), []⟩ : Api_Port), (⟨0, 0, 10, 0, (-1), (⟨#[113]⟩ : ByteArray), []⟩ : Api_Port), (⟨0, 0, 20, 0, (-1), (⟨#[114]⟩ : ByteArray), []⟩ : Api_Port)]) : Nat) = (List.length [(⟨0, 0, 10, 0, (-1), (⟨#[112]⟩ : ByteArray), []⟩ : Api_Port), (⟨0, 0, 10, 0, (-1), (⟨#[113]⟩ : ByteArray), []⟩ : Api_Port), (⟨0, 0, 20, 0, (-1), (⟨#[114]⟩ : ByteArray), []⟩ : Api_Port)]))) <| pc ((rfl : (0 : Nat) = 0)) <| pc ((rfl : ((List.length [(⟨0, 10, 0, (-1), 0, []⟩ : Api_Domain), (⟨0, 20, 0, (-1), 0, []⟩ : Api_Domain)]) : Nat) = (List.length [(⟨0, 10, 0, (-1), 0, []⟩ : Api_Domain), (⟨0, 20, 0, (-1), 0, []⟩ : Api_Domain)]))) <| pc ((rfl : (0 : Nat) = 0)) <| pc ((rfl : (0 : Nat) = 0)) <| pc ((rfl : (0 : Nat) = 0)) <| pc ((rfl : (0 : Nat) = 0)) <| pc ((rfl : ((List.length [(0 : Int), (1 : Int), (2 : Int)]) : Nat) = (List.length [(0 : Int), (1 : Int), (2 : Int)]))) <| pc (bs_ob 3 [(0 : Int), (1 : Int)]) <| pc (k_labels_Ports h7) <| pc (im3 l8) <| pc ((rfl : ((List.length [(⟨0, 0, (⟨#[97]⟩ : ByteArray), 0, 0⟩ : Api_Device)]) : Nat) = (List.length [(⟨0, 0, (⟨#[97]⟩ : ByteArray), 0, 0⟩ : Api_Device)]))) <| pc ((rfl : ((List.length [(⟨0, 0, 10, 0, (-1), (⟨#[112]⟩ : ByteArray), []⟩ : Api_Port), (⟨0, 0, 10, 0, (-1), (⟨#[113]⟩ : ByteArray), []⟩ : Api_Port), (⟨0, 0, 20, 0, (-1), (⟨#[114]⟩ : ByteArray), []⟩ : Api_Port)]) : Nat) = (List.length [(⟨0, 0, 10, 0, (-1), (⟨#[112]⟩ : ByteArray), []⟩ : Api_Port), (⟨0, 0, 10, 0, (-1), (⟨#[113]⟩ : ByteArray), []⟩ : Api_Port), (⟨0, 0, 20, 0, (-1), (⟨#[114]⟩ : ByteArray), []⟩ : Api_Port)]))) <| pc ((rfl : (0 : Nat) = 0)) <| pc ((rfl : ((List.length [(⟨0, 10, 0, (-1), 0, []⟩ : Api_Domain), (⟨0, 20, 0, (-1), 0, []⟩ : Api_Domain)]) : Nat) = (List.length [(⟨0, 10, 0, (-1), 0, []⟩ : Api_Domain), (⟨0, 20, 0, (-1), 0, []⟩ : Api_Domain)]))) <| pc ((rfl : (0 : Nat) = 0)) <| pc ((rfl : (0 : Nat) = 0)) <| pc ((rfl : (0 : Nat) = 0)) <| pc ((rfl : (0 : Nat) = 0)) <| pc ((rfl : ((List.length [(0 : Int), (1 : Int)]) : Nat) = (List.length [(0 : Int), (1 : Int)]))) <| pc (h11) <| pc ((rfl : (n4 : Nat) = n4)) <| pc (h12) <| pc (And.intro (rfl : (n4 : Nat) = n4) (lin_ob h13)) <| pc (And.intro (rfl : (n4 : Nat) = n4) (obn3 h15)) <| pc (h16) <| pc (And.intro (rfl : (n4 : Nat) = n4) (lin_ob h17)) <| pc (And.intro (rfl : (n4 : Nat) = n4) (obn3 h19)) <| pc (h20) <| pc (And.intro (rfl : (n4 : Nat) = n4) (lin_ob h21)) <| pc (And.intro (rfl : (n4 : Nat) = n4) (obn3 h23)) <| pc (h24) <| pc (h25) <| pn)
                · injection h with h; subst h; exact runFn_sound mixedOrders Tryz.func9 rfl (keep := none) (π := [.obj [] (.arr 73 [(⟨0, 0, (⟨#[97]⟩ : ByteArray), 0, 0⟩ : Api_Device)] (List.length [(⟨0, 0, (⟨#[97]⟩ : ByteArray), 0, 0⟩ : Api_Device)]) false), .obj [] (.arr 65 [(⟨0, 0, 10, 0, (-1), (⟨#[112]⟩ : ByteArray), []⟩ : Api_Port), (⟨0, 0, 10, 0, (-1), (⟨#[113]⟩ : ByteArray), []⟩ : Api_Port), (⟨0, 0, 20, 0, (-1), (⟨#[114]⟩ : ByteArray), []⟩ : Api_Port)] (List.length [(⟨0, 0, 10, 0, (-1), (⟨#[112]⟩ : ByteArray), []⟩ : Api_Port), (⟨0, 0, 10, 0, (-1), (⟨#[113]⟩ : ByteArray), []⟩ : Api_Port), (⟨0, 0, 20, 0, (-1), (⟨#[114]⟩ : ByteArray), []⟩ : Api_Port)]) false), .obj [] (.arr 67 [(⟨0, 10, 0, (-1), 0, []⟩ : Api_Domain), (⟨0, 20, 0, (-1), 0, []⟩ : Api_Domain)] (List.length [(⟨0, 10, 0, (-1), 0, []⟩ : Api_Domain), (⟨0, 20, 0, (-1), 0, []⟩ : Api_Domain)]) false), .obj [] (.arr 3 [(0 : Int), (1 : Int), (2 : Int)] (List.length [(0 : Int), (1 : Int), (2 : Int)]) false), .callo (.tup [.os 0 n4, .v (.bool v5)]) [.arr 3 l3 n4 false], .obj [] (.arr 3 [(0 : Int), (1 : Int)] (List.length [(0 : Int), (1 : Int)]) false), .callo (.tup [.os 0 n9, .v (.bool v10)]) [.arr 3 l8 n9 false], .dec true, .dec true, .row (c3 x14), .dec true, .row (c3 x18), .dec true, .row (c3 x22), .dec false]) (hrun := by kernel_rfl) (hps := pc (bs_ob 73 [(⟨0, 0, (⟨#[97]⟩ : ByteArray), 0, 0⟩ : Api_Device)]) <| pc (bs_ob 65 [(⟨0, 0, 10, 0, (-1), (⟨#[112]⟩ : ByteArray), []⟩ : Api_Port), (⟨0, 0, 10, 0, (-1), (⟨#[113]⟩ : ByteArray), []⟩ : Api_Port), (⟨0, 0, 20, 0, (-1), (⟨#[114]⟩ : ByteArray), []⟩ : Api_Port)]) <| pc (bs_ob 67 [(⟨0, 10, 0, (-1), 0, []⟩ : Api_Domain), (⟨0, 20, 0, (-1), 0, []⟩ : Api_Domain)]) <| pc (bs_ob 3 [(0 : Int), (1 : Int), (2 : Int)]) <| pc (k_labels_Ports h2) <| pc (im3 l3) <| pc ((rfl : ((List.length [(⟨0, 0, (⟨#[97]⟩ : ByteArray), 0, 0⟩ : Api_Device)]) : Nat) = (List.length [(⟨0, 0, (⟨#[97]⟩ : ByteArray), 0, 0⟩ : Api_Device)]))) <| pc ((rfl : ((List.length [(⟨0, 0, 10, 0, (-1), (⟨#[112]⟩ : ByteArray), []⟩ : Api_Port), (⟨0, 0, 10, 0, (-1), (⟨#[113]⟩ : ByteArray), []⟩ : Api_Port), (⟨0, 0, 20, 0, (-1), (⟨#[114]⟩ : ByteArray), []⟩ : Api_Port)]) : Nat) = (List.length [(⟨0, 0, 10, 0, (-1), (⟨#[112]⟩ : ByteArray), []⟩ : Api_Port), (⟨0, 0, 10, 0, (-1), (⟨#[113]⟩ : ByteArray), []⟩ : Api_Port), (⟨0, 0, 20, 0, (-1), (⟨#[114]⟩ : ByteArray), []⟩ : Api_Port)]))) <| pc ((rfl : (0 : Nat) = 0)) <| pc ((rfl : ((List.length [(⟨0, 10, 0, (-1), 0, []⟩ : Api_Domain), (⟨0, 20, 0, (-1), 0, []⟩ : Api_Domain)]) : Nat) = (List.length [(⟨0, 10, 0, (-1), 0, []⟩ : Api_Domain), (⟨0, 20, 0, (-1), 0, []⟩ : Api_Domain)]))) <| pc ((rfl : (0 : Nat) = 0)) <| pc ((rfl : (0 : Nat) = 0)) <| pc ((rfl : (0 : Nat) = 0)) <| pc ((rfl : (0 : Nat) = 0)) <| pc ((rfl : ((List.length [(0 : Int), (1 : Int), (2 : Int)]) : Nat) = (List.length [(0 : Int), (1 : Int), (2 : Int)]))) <| pc (bs_ob 3 [(0 : Int), (1 : Int)]) <| pc (k_labels_Ports h7) <| pc (im3 l8) <| pc ((rfl : ((List.length [(⟨0, 0, (⟨#[97]⟩ : ByteArray), 0, 0⟩ : Api_Device)]) : Nat) = (List.length [(⟨0, 0, (⟨#[97]⟩ : ByteArray), 0, 0⟩ : Api_Device)]))) <| pc ((rfl : ((List.length [(⟨0, 0, 10, 0, (-1), (⟨#[112]⟩ : ByteArray), []⟩ : Api_Port), (⟨0, 0, 10, 0, (-1), (⟨#[113]⟩ : ByteArray), []⟩ : Api_Port), (⟨0, 0, 20, 0, (-1), (⟨#[114]⟩ : ByteArray), []⟩ : Api_Port)]) : Nat) = (List.length [(⟨0, 0, 10, 0, (-1), (⟨#[112]⟩ : ByteArray), []⟩ : Api_Port), (⟨0, 0, 10, 0, (-1), (⟨#[113]⟩ : ByteArray), []⟩ : Api_Port), (⟨0, 0, 20, 0, (-1), (⟨#[114]⟩ : ByteArray), []⟩ : Api_Port)]))) <| pc ((rfl : (0 : Nat) = 0)) <| pc ((rfl : ((List.length [(⟨0, 10, 0, (-1), 0, []⟩ : Api_Domain), (⟨0, 20, 0, (-1), 0, []⟩ : Api_Domain)]) : Nat) = (List.length [(⟨0, 10, 0, (-1), 0, []⟩ : Api_Domain), (⟨0, 20, 0, (-1), 0, []⟩ : Api_Domain)]))) <| pc ((rfl : (0 : Nat) = 0)) <| pc ((rfl : (0 : Nat) = 0)) <| pc ((rfl : (0 : Nat) = 0)) <| pc ((rfl : (0 : Nat) = 0)) <| pc ((rfl : ((List.length [(0 : Int), (1 : Int)]) : Nat) = (List.length [(0 : Int), (1 : Int)]))) <| pc (h11) <| pc ((rfl : (n4 : Nat) = n4)) <| pc (h12) <| pc (And.intro (rfl : (n4 : Nat) = n4) (lin_ob h13)) <| pc (And.intro (rfl : (n4 : Nat) = n4) (obn3 h15)) <| pc (h16) <| pc (And.intro (rfl : (n4 : Nat) = n4) (lin_ob h17)) <| pc (And.intro (rfl : (n4 : Nat) = n4) (obn3 h19)) <| pc (h20) <| pc (And.intro (rfl : (n4 : Nat) = n4) (lin_ob h21)) <| pc (And.intro (rfl : (n4 : Nat) = n4) (obn3 h23)) <| pc (h24) <| pn)
              · cases h
            · injection h with h; subst h; exact runFn_sound mixedOrders Tryz.func9 rfl (keep := none) (π := [.obj [] (.arr 73 [(⟨0, 0, (⟨#[97]⟩ : ByteArray), 0, 0⟩ : Api_Device)] (List.length [(⟨0, 0, (⟨#[97]⟩ : ByteArray), 0, 0⟩ : Api_Device)]) false), .obj [] (.arr 65 [(⟨0, 0, 10, 0, (-1), (⟨#[112]⟩ : ByteArray), []⟩ : Api_Port), (⟨0, 0, 10, 0, (-1), (⟨#[113]⟩ : ByteArray), []⟩ : Api_Port), (⟨0, 0, 20, 0, (-1), (⟨#[114]⟩ : ByteArray), []⟩ : Api_Port)] (List.length [(⟨0, 0, 10, 0, (-1), (⟨#[112]⟩ : ByteArray), []⟩ : Api_Port), (⟨0, 0, 10, 0, (-1), (⟨#[113]⟩ : ByteArray), []⟩ : Api_Port), (⟨0, 0, 20, 0, (-1), (⟨#[114]⟩ : ByteArray), []⟩ : Api_Port)]) false), .obj [] (.arr 67 [(⟨0, 10, 0, (-1), 0, []⟩ : Api_Domain), (⟨0, 20, 0, (-1), 0, []⟩ : Api_Domain)] (List.length [(⟨0, 10, 0, (-1), 0, []⟩ : Api_Domain), (⟨0, 20, 0, (-1), 0, []⟩ : Api_Domain)]) false), .obj [] (.arr 3 [(0 : Int), (1 : Int), (2 : Int)] (List.length [(0 : Int), (1 : Int), (2 : Int)]) false), .callo (.tup [.os 0 n4, .v (.bool v5)]) [.arr 3 l3 n4 false], .obj [] (.arr 3 [(0 : Int), (1 : Int)] (List.length [(0 : Int), (1 : Int)]) false), .callo (.tup [.os 0 n9, .v (.bool v10)]) [.arr 3 l8 n9 false], .dec true, .dec true, .row (c3 x14), .dec true, .row (c3 x18), .dec false]) (hrun := by kernel_rfl) (hps := pc (bs_ob 73 [(⟨0, 0, (⟨#[97]⟩ : ByteArray), 0, 0⟩ : Api_Device)]) <| pc (bs_ob 65 [(⟨0, 0, 10, 0, (-1), (⟨#[112]⟩ : ByteArray), []⟩ : Api_Port), (⟨0, 0, 10, 0, (-1), (⟨#[113]⟩ : ByteArray), []⟩ : Api_Port), (⟨0, 0, 20, 0, (-1), (⟨#[114]⟩ : ByteArray), []⟩ : Api_Port)]) <| pc (bs_ob 67 [(⟨0, 10, 0, (-1), 0, []⟩ : Api_Domain), (⟨0, 20, 0, (-1), 0, []⟩ : Api_Domain)]) <| pc (bs_ob 3 [(0 : Int), (1 : Int), (2 : Int)]) <| pc (k_labels_Ports h2) <| pc (im3 l3) <| pc ((rfl : ((List.length [(⟨0, 0, (⟨#[97]⟩ : ByteArray), 0, 0⟩ : Api_Device)]) : Nat) = (List.length [(⟨0, 0, (⟨#[97]⟩ : ByteArray), 0, 0⟩ : Api_Device)]))) <| pc ((rfl : ((List.length [(⟨0, 0, 10, 0, (-1), (⟨#[112]⟩ : ByteArray), []⟩ : Api_Port), (⟨0, 0, 10, 0, (-1), (⟨#[113]⟩ : ByteArray), []⟩ : Api_Port), (⟨0, 0, 20, 0, (-1), (⟨#[114]⟩ : ByteArray), []⟩ : Api_Port)]) : Nat) = (List.length [(⟨0, 0, 10, 0, (-1), (⟨#[112]⟩ : ByteArray), []⟩ : Api_Port), (⟨0, 0, 10, 0, (-1), (⟨#[113]⟩ : ByteArray), []⟩ : Api_Port), (⟨0, 0, 20, 0, (-1), (⟨#[114]⟩ : ByteArray), []⟩ : Api_Port)]))) <| pc ((rfl : (0 : Nat) = 0)) <| pc ((rfl : ((List.length [(⟨0, 10, 0, (-1), 0, []⟩ : Api_Domain), (⟨0, 20, 0, (-1), 0, []⟩ : Api_Domain)]) : Nat) = (List.length [(⟨0, 10, 0, (-1), 0, []⟩ : Api_Domain), (⟨0, 20, 0, (-1), 0, []⟩ : Api_Domain)]))) <| pc ((rfl : (0 : Nat) = 0)) <| pc ((rfl : (0 : Nat) = 0)) <| pc ((rfl : (0 : Nat) = 0)) <| pc ((rfl : (0 : Nat) = 0)) <| pc ((rfl : ((List.length [(0 : Int), (1 : Int), (2 : Int)]) : Nat) = (List.length [(0 : Int), (1 : Int), (2 : Int)]))) <| pc (bs_ob 3 [(0 : Int), (1 : Int)]) <| pc (k_labels_Ports h7) <| pc (im3 l8) <| pc ((rfl : ((List.length [(⟨0, 0, (⟨#[97]⟩ : ByteArray), 0, 0⟩ : Api_Device)]) : Nat) = (List.length [(⟨0, 0, (⟨#[97]⟩ : ByteArray), 0, 0⟩ : Api_Device)]))) <| pc ((rfl : ((List.length [(⟨0, 0, 10, 0, (-1), (⟨#[112]⟩ : ByteArray), []⟩ : Api_Port), (⟨0, 0, 10, 0, (-1), (⟨#[113]⟩ : ByteArray), []⟩ : Api_Port), (⟨0, 0, 20, 0, (-1), (⟨#[114]⟩ : ByteArray), []⟩ : Api_Port)]) : Nat) = (List.length [(⟨0, 0, 10, 0, (-1), (⟨#[112]⟩ : ByteArray), []⟩ : Api_Port), (⟨0, 0, 10, 0, (-1), (⟨#[113]⟩ : ByteArray), []⟩ : Api_Port), (⟨0, 0, 20, 0, (-1), (⟨#[114]⟩ : ByteArray), []⟩ : Api_Port)]))) <| pc ((rfl : (0 : Nat) = 0)) <| pc ((rfl : ((List.length [(⟨0, 10, 0, (-1), 0, []⟩ : Api_Domain), (⟨0, 20, 0, (-1), 0, []⟩ : Api_Domain)]) : Nat) = (List.length [(⟨0, 10, 0, (-1), 0, []⟩ : Api_Domain), (⟨0, 20, 0, (-1), 0, []⟩ : Api_Domain)]))) <| pc ((rfl : (0 : Nat) = 0)) <| pc ((rfl : (0 : Nat) = 0)) <| pc ((rfl : (0 : Nat) = 0)) <| pc ((rfl : (0 : Nat) = 0)) <| pc ((rfl : ((List.length [(0 : Int), (1 : Int)]) : Nat) = (List.length [(0 : Int), (1 : Int)]))) <| pc (h11) <| pc ((rfl : (n4 : Nat) = n4)) <| pc (h12) <| pc (And.intro (rfl : (n4 : Nat) = n4) (lin_ob h13)) <| pc (And.intro (rfl : (n4 : Nat) = n4) (obn3 h15)) <| pc (h16) <| pc (And.intro (rfl : (n4 : Nat) = n4) (lin_ob h17)) <| pc (And.intro (rfl : (n4 : Nat) = n4) (obn3 h19)) <| pc (h20) <| pn)
          · cases h
        · injection h with h; subst h; exact runFn_sound mixedOrders Tryz.func9 rfl (keep := none) (π := [.obj [] (.arr 73 [(⟨0, 0, (⟨#[97]⟩ : ByteArray), 0, 0⟩ : Api_Device)] (List.length [(⟨0, 0, (⟨#[97]⟩ : ByteArray), 0, 0⟩ : Api_Device)]) false), .obj [] (.arr 65 [(⟨0, 0, 10, 0, (-1), (⟨#[112]⟩ : ByteArray), []⟩ : Api_Port), (⟨0, 0, 10, 0, (-1), (⟨#[113]⟩ : ByteArray), []⟩ : Api_Port), (⟨0, 0, 20, 0, (-1), (⟨#[114]⟩ : ByteArray), []⟩ : Api_Port)] (List.length [(⟨0, 0, 10, 0, (-1), (⟨#[112]⟩ : ByteArray), []⟩ : Api_Port), (⟨0, 0, 10, 0, (-1), (⟨#[113]⟩ : ByteArray), []⟩ : Api_Port), (⟨0, 0, 20, 0, (-1), (⟨#[114]⟩ : ByteArray), []⟩ : Api_Port)]) false), .obj [] (.arr 67 [(⟨0, 10, 0, (-1), 0, []⟩ : Api_Domain), (⟨0, 20, 0, (-1), 0, []⟩ : Api_Domain)] (List.length [(⟨0, 10, 0, (-1), 0, []⟩ : Api_Domain), (⟨0, 20, 0, (-1), 0, []⟩ : Api_Domain)]) false), .obj [] (.arr 3 [(0 : Int), (1 : Int), (2 : Int)] (List.length [(0 : Int), (1 : Int), (2 : Int)]) false), .callo (.tup [.os 0 n4, .v (.bool v5)]) [.arr 3 l3 n4 false], .obj [] (.arr 3 [(0 : Int), (1 : Int)] (List.length [(0 : Int), (1 : Int)]) false), .callo (.tup [.os 0 n9, .v (.bool v10)]) [.arr 3 l8 n9 false], .dec true, .dec true, .row (c3 x14), .dec false]) (hrun := by kernel_rfl) (hps := pc (bs_ob 73 [(⟨0, 0, (⟨#[97]⟩ : ByteArray), 0, 0⟩ : Api_Device)]) <| pc (bs_ob 65 [(⟨0, 0, 10, 0, (-1), (⟨#[112]⟩ : ByteArray), []⟩ : Api_Port), (⟨0, 0, 10, 0, (-1), (⟨#[113]⟩ : ByteArray), []⟩ : Api_Port), (⟨0, 0, 20, 0, (-1), (⟨#[114]⟩ : ByteArray), []⟩ : Api_Port)]) <| pc (bs_ob 67 [(⟨0, 10, 0, (-1), 0, []⟩ : Api_Domain), (⟨0, 20, 0, (-1), 0, []⟩ : Api_Domain)]) <| pc (bs_ob 3 [(0 : Int), (1 : Int), (2 : Int)]) <| pc (k_labels_Ports h2) <| pc (im3 l3) <| pc ((rfl : ((List.length [(⟨0, 0, (⟨#[97]⟩ : ByteArray), 0, 0⟩ : Api_Device)]) : Nat) = (List.length [(⟨0, 0, (⟨#[97]⟩ : ByteArray), 0, 0⟩ : Api_Device)]))) <| pc ((rfl : ((List.length [(⟨0, 0, 10, 0, (-1), (⟨#[112]⟩ : ByteArray), []⟩ : Api_Port), (⟨0, 0, 10, 0, (-1), (⟨#[113]⟩ : ByteArray), []⟩ : Api_Port), (⟨0, 0, 20, 0, (-1), (⟨#[114]⟩ : ByteArray), []⟩ : Api_Port)]) : Nat) = (List.length [(⟨0, 0, 10, 0, (-1), (⟨#[112]⟩ : ByteArray), []⟩ : Api_Port), (⟨0, 0, 10, 0, (-1), (⟨#[113]⟩ : ByteArray), []⟩ : Api_Port), (⟨0, 0, 20, 0, (-1), (⟨#[114]⟩ : ByteArray), []⟩ : Api_Port)]))) <| pc ((rfl : (0 : Nat) = 0)) <| pc ((rfl : ((List.length [(⟨0, 10, 0, (-1), 0, []⟩ : Api_Domain), (⟨0, 20, 0, (-1), 0, []⟩ : Api_Domain)]) : Nat) = (List.length [(⟨0, 10, 0, (-1), 0, []⟩ : Api_Domain), (⟨0, 20, 0, (-1), 0, []⟩ : Api_Domain)]))) <| pc ((rfl : (0 : Nat) = 0)) <| pc ((rfl : (0 : Nat) = 0)) <| pc ((rfl : (0 : Nat) = 0)) <| pc ((rfl : (0 : Nat) = 0)) <| pc ((rfl : ((List.length [(0 : Int), (1 : Int), (2 : Int)]) : Nat) = (List.length [(0 : Int), (1 : Int), (2 : Int)]))) <| pc (bs_ob 3 [(0 : Int), (1 : Int)]) <| pc (k_labels_Ports h7) <| pc (im3 l8) <| pc ((rfl : ((List.length [(⟨0, 0, (⟨#[97]⟩ : ByteArray), 0, 0⟩ : Api_Device)]) : Nat) = (List.length [(⟨0, 0, (⟨#[97]⟩ : ByteArray), 0, 0⟩ : Api_Device)]))) <| pc ((rfl : ((List.length [(⟨0, 0, 10, 0, (-1), (⟨#[112]⟩ : ByteArray), []⟩ : Api_Port), (⟨0, 0, 10, 0, (-1), (⟨#[113]⟩ : ByteArray), []⟩ : Api_Port), (⟨0, 0, 20, 0, (-1), (⟨#[114]⟩ : ByteArray), []⟩ : Api_Port)]) : Nat) = (List.length [(⟨0, 0, 10, 0, (-1), (⟨#[112]⟩ : ByteArray), []⟩ : Api_Port), (⟨0, 0, 10, 0, (-1), (⟨#[113]⟩ : ByteArray), []⟩ : Api_Port), (⟨0, 0, 20, 0, (-1), (⟨#[114]⟩ : ByteArray), []⟩ : Api_Port)]))) <| pc ((rfl : (0 : Nat) = 0)) <| pc ((rfl : ((List.length [(⟨0, 10, 0, (-1), 0, []⟩ : Api_Domain), (⟨0, 20, 0, (-1), 0, []⟩ : Api_Domain)]) : Nat) = (List.length [(⟨0, 10, 0, (-1), 0, []⟩ : Api_Domain), (⟨0, 20, 0, (-1), 0, []⟩ : Api_Domain)]))) <| pc ((rfl : (0 : Nat) = 0)) <| pc ((rfl : (0 : Nat) = 0)) <| pc ((rfl : (0 : Nat) = 0)) <| pc ((rfl : (0 : Nat) = 0)) <| pc ((rfl : ((List.length [(0 : Int), (1 : Int)]) : Nat) = (List.length [(0 : Int), (1 : Int)]))) <| pc (h11) <| pc ((rfl : (n4 : Nat) = n4)) <| pc (h12) <| pc (And.intro (rfl : (n4 : Nat) = n4) (lin_ob h13)) <| pc (And.intro (rfl : (n4 : Nat) = n4) (obn3 h15)) <| pc (h16) <| pn)
      · cases h
    · injection h with h; subst h; exact runFn_sound mixedOrders Tryz.func9 rfl (keep := none) (π := [.obj [] (.arr 73 [(⟨0, 0, (⟨#[97]⟩ : ByteArray), 0, 0⟩ : Api_Device)] (List.length [(⟨0, 0, (⟨#[97]⟩ : ByteArray), 0, 0⟩ : Api_Device)]) false), .obj [] (.arr 65 [(⟨0, 0, 10, 0, (-1), (⟨#[112]⟩ : ByteArray), []⟩ : Api_Port), (⟨0, 0, 10, 0, (-1), (⟨#[113]⟩ : ByteArray), []⟩ : Api_Port), (⟨0, 0, 20, 0, (-1), (⟨#[114]⟩ : ByteArray), []⟩ : Api_Port)] (List.length [(⟨0, 0, 10, 0, (-1), (⟨#[112]⟩ : ByteArray), []⟩ : Api_Port), (⟨0, 0, 10, 0, (-1), (⟨#[113]⟩ : ByteArray), []⟩ : Api_Port), (⟨0, 0, 20, 0, (-1), (⟨#[114]⟩ : ByteArray), []⟩ : Api_Port)]) false), .obj [] (.arr 67 [(⟨0, 10, 0, (-1), 0, []⟩ : Api_Domain), (⟨0, 20, 0, (-1), 0, []⟩ : Api_Domain)] (List.length [(⟨0, 10, 0, (-1), 0, []⟩ : Api_Domain), (⟨0, 20, 0, (-1), 0, []⟩ : Api_Domain)]) false), .obj [] (.arr 3 [(0 : Int), (1 : Int), (2 : Int)] (List.length [(0 : Int), (1 : Int), (2 : Int)]) false), .callo (.tup [.os 0 n4, .v (.bool v5)]) [.arr 3 l3 n4 false], .obj [] (.arr 3 [(0 : Int), (1 : Int)] (List.length [(0 : Int), (1 : Int)]) false), .callo (.tup [.os 0 n9, .v (.bool v10)]) [.arr 3 l8 n9 false], .dec true, .dec false]) (hrun := by kernel_rfl) (hps := pc (bs_ob 73 [(⟨0, 0, (⟨#[97]⟩ : ByteArray), 0, 0⟩ : Api_Device)]) <| pc (bs_ob 65 [(⟨0, 0, 10, 0, (-1), (⟨#[112]⟩ : ByteArray), []⟩ : Api_Port), (⟨0, 0, 10, 0, (-1), (⟨#[113]⟩ : ByteArray), []⟩ : Api_Port), (⟨0, 0, 20, 0, (-1), (⟨#[114]⟩ : ByteArray), []⟩ : Api_Port)]) <| pc (bs_ob 67 [(⟨0, 10, 0, (-1), 0, []⟩ : Api_Domain), (⟨0, 20, 0, (-1), 0, []⟩ : Api_Domain)]) <| pc (bs_ob 3 [(0 : Int), (1 : Int), (2 : Int)]) <| pc (k_labels_Ports h2) <| pc (im3 l3) <| pc ((rfl : ((List.length [(⟨0, 0, (⟨#[97]⟩ : ByteArray), 0, 0⟩ : Api_Device)]) : Nat) = (List.length [(⟨0, 0, (⟨#[97]⟩ : ByteArray), 0, 0⟩ : Api_Device)]))) <| pc ((rfl : ((List.length [(⟨0, 0, 10, 0, (-1), (⟨#[112]⟩ : ByteArray), []⟩ : Api_Port), (⟨0, 0, 10, 0, (-1), (⟨#[113]⟩ : ByteArray), []⟩ : Api_Port), (⟨0, 0, 20, 0, (-1), (⟨#[114]⟩ : ByteArray), []⟩ : Api_Port)]) : Nat) = (List.length [(⟨0, 0, 10, 0, (-1), (⟨#[112]⟩ : ByteArray), []⟩ : Api_Port), (⟨0, 0, 10, 0, (-1), (⟨#[113]⟩ : ByteArray), []⟩ : Api_Port), (⟨0, 0, 20, 0, (-1), (⟨#[114]⟩ : ByteArray), []⟩ : Api_Port)]))) <| pc ((rfl : (0 : Nat) = 0)) <| pc ((rfl : ((List.length [(⟨0, 10, 0, (-1), 0, []⟩ : Api_Domain), (⟨0, 20, 0, (-1), 0, []⟩ : Api_Domain)]) : Nat) = (List.length [(⟨0, 10, 0, (-1), 0, []⟩ : Api_Domain), (⟨0, 20, 0, (-1), 0, []⟩ : Api_Domain)]))) <| pc ((rfl : (0 : Nat) = 0)) <| pc ((rfl : (0 : Nat) = 0)) <| pc ((rfl : (0 : Nat) = 0)) <| pc ((rfl : (0 : Nat) = 0)) <| pc ((rfl : ((List.length [(0 : Int), (1 : Int), (2 : Int)]) : Nat) = (List.length [(0 : Int), (1 : Int), (2 : Int)]))) <| pc (bs_ob 3 [(0 : Int), (1 : Int)]) <| pc (k_labels_Ports h7) <| pc (im3 l8) <| pc ((rfl : ((List.length [(⟨0, 0, (⟨#[97]⟩ : ByteArray), 0, 0⟩ : Api_Device)]) : Nat) = (List.length [(⟨0, 0, (⟨#[97]⟩ : ByteArray), 0, 0⟩ : Api_Device)]))) <| pc ((rfl : ((List.length [(⟨0, 0, 10, 0, (-1), (⟨#[112]⟩ : ByteArray), []⟩ : Api_Port), (⟨0, 0, 10, 0, (-1), (⟨#[113]⟩ : ByteArray), []⟩ : Api_Port), (⟨0, 0, 20, 0, (-1), (⟨#[114]⟩ : ByteArray), []⟩ : Api_Port)]) : Nat) = (List.length [(⟨0, 0, 10, 0, (-1), (⟨#[112]⟩ : ByteArray), []⟩ : Api_Port), (⟨0, 0, 10, 0, (-1), (⟨#[113]⟩ : ByteArray), []⟩ : Api_Port), (⟨0, 0, 20, 0, (-1), (⟨#[114]⟩ : ByteArray), []⟩ : Api_Port)]))) <| pc ((rfl : (0 : Nat) = 0)) <| pc ((rfl : ((List.length [(⟨0, 10, 0, (-1), 0, []⟩ : Api_Domain), (⟨0, 20, 0, (-1), 0, []⟩ : Api_Domain)]) : Nat) = (List.length [(⟨0, 10, 0, (-1), 0, []⟩ : Api_Domain), (⟨0, 20, 0, (-1), 0, []⟩ : Api_Domain)]))) <| pc ((rfl : (0 : Nat) = 0)) <| pc ((rfl : (0 : Nat) = 0)) <| pc ((rfl : (0 : Nat) = 0)) <| pc ((rfl : (0 : Nat) = 0)) <| pc ((rfl : ((List.length [(0 : Int), (1 : Int)]) : Nat) = (List.length [(0 : Int), (1 : Int)]))) <| pc (h11) <| pc ((rfl : (n4 : Nat) = n4)) <| pc (h12) <| pn)
  · injection h with h; subst h; exact runFn_sound mixedOrders Tryz.func9 rfl (keep := none) (π := [.obj [] (.arr 73 [(⟨0, 0, (⟨#[97]⟩ : ByteArray), 0, 0⟩ : Api_Device)] (List.length [(⟨0, 0, (⟨#[97]⟩ : ByteArray), 0, 0⟩ : Api_Device)]) false), .obj [] (.arr 65 [(⟨0, 0, 10, 0, (-1), (⟨#[112]⟩ : ByteArray), []⟩ : Api_Port), (⟨0, 0, 10, 0, (-1), (⟨#[113]⟩ : ByteArray), []⟩ : Api_Port), (⟨0, 0, 20, 0, (-1), (⟨#[114]⟩ : ByteArray), []⟩ : Api_Port)] (List.length [(⟨0, 0, 10, 0, (-1), (⟨#[112]⟩ : ByteArray), []⟩ : Api_Port), (⟨0, 0, 10, 0, (-1), (⟨#[113]⟩ : ByteArray), []⟩ : Api_Port), (⟨0, 0, 20, 0, (-1), (⟨#[114]⟩ : ByteArray), []⟩ : Api_Port)]) false), .obj [] (.arr 67 [(⟨0, 10, 0, (-1), 0, []⟩ : Api_Domain), (⟨0, 20, 0, (-1), 0, []⟩ : Api_Domain)] (List.length [(⟨0, 10, 0, (-1), 0, []⟩ : Api_Domain), (⟨0, 20, 0, (-1), 0, []⟩ : Api_Domain)]) false), .obj [] (.arr 3 [(0 : Int), (1 : Int), (2 : Int)] (List.length [(0 : Int), (1 : Int), (2 : Int)]) false), .callo (.tup [.os 0 n4, .v (.bool v5)]) [.arr 3 l3 n4 false], .obj [] (.arr 3 [(0 : Int), (1 : Int)] (List.length [(0 : Int), (1 : Int)]) false), .callo (.tup [.os 0 n9, .v (.bool v10)]) [.arr 3 l8 n9 false], .dec false]) (hrun := by kernel_rfl) (hps := pc (bs_ob 73 [(⟨0, 0, (⟨#[97]⟩ : ByteArray), 0, 0⟩ : Api_Device)]) <| pc (bs_ob 65 [(⟨0, 0, 10, 0, (-1), (⟨#[112]⟩ : ByteArray), []⟩ : Api_Port), (⟨0, 0, 10, 0, (-1), (⟨#[113]⟩ : ByteArray), []⟩ : Api_Port), (⟨0, 0, 20, 0, (-1), (⟨#[114]⟩ : ByteArray), []⟩ : Api_Port)]) <| pc (bs_ob 67 [(⟨0, 10, 0, (-1), 0, []⟩ : Api_Domain), (⟨0, 20, 0, (-1), 0, []⟩ : Api_Domain)]) <| pc (bs_ob 3 [(0 : Int), (1 : Int), (2 : Int)]) <| pc (k_labels_Ports h2) <| pc (im3 l3) <| pc ((rfl : ((List.length [(⟨0, 0, (⟨#[97]⟩ : ByteArray), 0, 0⟩ : Api_Device)]) : Nat) = (List.length [(⟨0, 0, (⟨#[97]⟩ : ByteArray), 0, 0⟩ : Api_Device)]))) <| pc ((rfl : ((List.length [(⟨0, 0, 10, 0, (-1), (⟨#[112]⟩ : ByteArray), []⟩ : Api_Port), (⟨0, 0, 10, 0, (-1), (⟨#[113]⟩ : ByteArray), []⟩ : Api_Port), (⟨0, 0, 20, 0, (-1), (⟨#[114]⟩ : ByteArray), []⟩ : Api_Port)]) : Nat) = (List.length [(⟨0, 0, 10, 0, (-1), (⟨#[112]⟩ : ByteArray), []⟩ : Api_Port), (⟨0, 0, 10, 0, (-1), (⟨#[113]⟩ : ByteArray), []⟩ : Api_Port), (⟨0, 0, 20, 0, (-1), (⟨#[114]⟩ : ByteArray), []⟩ : Api_Port)]))) <| pc ((rfl : (0 : Nat) = 0)) <| pc ((rfl : ((List.length [(⟨0, 10, 0, (-1), 0, []⟩ : Api_Domain), (⟨0, 20, 0, (-1), 0, []⟩ : Api_Domain)]) : Nat) = (List.length [(⟨0, 10, 0, (-1), 0, []⟩ : Api_Domain), (⟨0, 20, 0, (-1), 0, []⟩ : Api_Domain)]))) <| pc ((rfl : (0 : Nat) = 0)) <| pc ((rfl : (0 : Nat) = 0)) <| pc ((rfl : (0 : Nat) = 0)) <| pc ((rfl : (0 : Nat) = 0)) <| pc ((rfl : ((List.length [(0 : Int), (1 : Int), (2 : Int)]) : Nat) = (List.length [(0 : Int), (1 : Int), (2 : Int)]))) <| pc (bs_ob 3 [(0 : Int), (1 : Int)]) <| pc (k_labels_Ports h7) <| pc (im3 l8) <| pc ((rfl : ((List.length [(⟨0, 0, (⟨#[97]⟩ : ByteArray), 0, 0⟩ : Api_Device)]) : Nat) = (List.length [(⟨0, 0, (⟨#[97]⟩ : ByteArray), 0, 0⟩ : Api_Device)]))) <| pc ((rfl : ((List.length [(⟨0, 0, 10, 0, (-1), (⟨#[112]⟩ : ByteArray), []⟩ : Api_Port), (⟨0, 0, 10, 0, (-1), (⟨#[113]⟩ : ByteArray), []⟩ : Api_Port), (⟨0, 0, 20, 0, (-1), (⟨#[114]⟩ : ByteArray), []⟩ : Api_Port)]) : Nat) = (List.length [(⟨0, 0, 10, 0, (-1), (⟨#[112]⟩ : ByteArray), []⟩ : Api_Port), (⟨0, 0, 10, 0, (-1), (⟨#[113]⟩ : ByteArray), []⟩ : Api_Port), (⟨0, 0, 20, 0, (-1), (⟨#[114]⟩ : ByteArray), []⟩ : Api_Port)]))) <| pc ((rfl : (0 : Nat) = 0)) <| pc ((rfl : ((List.length [(⟨0, 10, 0, (-1), 0, []⟩ : Api_Domain), (⟨0, 20, 0, (-1), 0, []⟩ : Api_Domain)]) : Nat) = (List.length [(⟨0, 10, 0, (-1), 0, []⟩ : Api_Domain), (⟨0, 20, 0, (-1), 0, []⟩ : Api_Domain)]))) <| pc ((rfl : (0 : Nat) = 0)) <| pc ((rfl : (0 : Nat) = 0)) <| pc ((rfl : (0 : Nat) = 0)) <| pc ((rfl : (0 : Nat) = 0)) <| pc ((rfl : ((List.length [(0 : Int), (1 : Int)]) : Nat) = (List.length [(0 : Int), (1 : Int)]))) <| pc (h11) <| pn)

theorem k_palingref15_Place {a1 : Int} {a2 : Int} {r : Bool} (h : palingref15_Place a1 a2 = some r) :
    CallsOK Tryz.prog UU 92 [.v (.int .i64 a1), .v (.int .i64 a2)] [] (.v (.bool r)) [] := by
  unfold palingref15_Place at h
  rcases ite_out h with ⟨h3, h⟩ | ⟨h3, h⟩
  · injection h with h; subst h; exact runFn_sound mixedOrders Tryz.func92 rfl (keep := none) (π := [.dec true]) (hrun := by kernel_rfl) (hps := pc (h3) <| pn)
  · injection h with h; subst h; exact runFn_sound mixedOrders Tryz.func92 rfl (keep := none) (π := [.dec false]) (hrun := by kernel_rfl) (hps := pc (h3) <| pn)

theorem k_palingref15_At_L1 {a1 : Api_Net} {a2 : Int} {a3 : Int} : LoopOK Tryz.prog UU 0 34 (subC (codeOf Tryz.f71) [1, 0, 1, 0, 0]) (ρ := Int ⊕ Unit) (palingref15_At_L1 a1 a2 a3)
    (fun v4 : Int => ([(1, .v (.int .i64 a2)), (2, .v (.int .i64 a3)), (3, .op 0 1 0 0), (6, .z), (7, .v (.int .i64 v4))] : Fr DD)) (fun v4 : Int => ([.box 31 (c31 a1) false] : Heap DD)) (fun r => match r with | Sum.inl v13 => .ret | Sum.inr _ => .exit 0) (fun r => match r with | Sum.inl v13 => [(6, .v (.int .i64 v13))] | Sum.inr _ => [(6, .z)]) (fun r => match r with | Sum.inl v13 => [] | Sum.inr _ => []) := by
  refine loop_sound3 (fun s q h => ?_) (fun r => ?_)
  · replace h : palingref15_At_L1 a1 a2 a3 s = some q := h; revert h; revert s; intro v4 h
    unfold palingref15_At_L1 at h
    rcases ite_out h with ⟨h5, h⟩ | ⟨h5, h⟩
    · obtain ⟨x6, h7, h⟩ := bind_out h
      rcases ite_out h with ⟨h8, h⟩ | ⟨h8, h⟩
      · obtain ⟨x9, h10, h⟩ := bind_out h
        rcases ite_out h with ⟨h11, h⟩ | ⟨h11, h⟩
        · injection h with h; subst h; exact runLp_sound mixedOrders (live := [6]) (ids := []) (π := [.dec true, .row (c67 x6), .dec true, .row (c67 x9), .dec true]) (hx := by kernel_rfl) (hps := pc (h5) <| pc (ob67 h7) <| pc (h8) <| pc (ob67 h10) <| pc (h11) <| pn)
        · injection h with h; subst h; exact runLp_sound mixedOrders (live := [1, 2, 3, 6, 7]) (ids := [0]) (π := [.dec true, .row (c67 x6), .dec true, .row (c67 x9), .dec false]) (hx := by kernel_rfl) (hps := pc (h5) <| pc (ob67 h7) <| pc (h8) <| pc (ob67 h10) <| pc (h11) <| pn)
      · injection h with h; subst h; exact runLp_sound mixedOrders (live := [1, 2, 3, 6, 7]) (ids := [0]) (π := [.dec true, .row (c67 x6), .dec false]) (hx := by kernel_rfl) (hps := pc (h5) <| pc (ob67 h7) <| pc (h8) <| pn)
    · injection h with h; subst h; exact runLp_sound mixedOrders (live := [6]) (ids := []) (π := [.dec false]) (hx := by kernel_rfl) (hps := pc (h5) <| pn)
  · rcases r with _ | _ <;> exact Ex.noConfusion

theorem k_palingref15_At {a1 : Api_Net} {a2 : Int} {a3 : Int} {r : Int} (h : palingref15_At a1 a2 a3 = some r) :
    CallsOK Tryz.prog UU 71 [.agg (c31 a1), .v (.int .i64 a2), .v (.int .i64 a3)] [] (.v (.int .i64 r)) [] := by
  unfold palingref15_At at h
  obtain ⟨r15, h14, h⟩ := bind_out h
  rcases r15 with v13 | _
  · injection h with h; subst h; exact runFn_sound mixedOrders Tryz.func71 rfl (keep := none) (π := [.sum [1, 2, 3, 6, 7] [0] .ret [(6, .v (.int .i64 v13))] []]) (hrun := by kernel_rfl) (hps := pc (k_palingref15_At_L1 _ _ h14) <| pn)
  · injection h with h; subst h; exact runFn_sound mixedOrders Tryz.func71 rfl (keep := none) (π := [.sum [1, 2, 3, 6, 7] [0] (.exit 0) [(6, .z)] []]) (hrun := by kernel_rfl) (hps := pc (k_palingref15_At_L1 _ _ h14) <| pn)

theorem k_palingref15_In_L1 {a1 : List Int} {a2 : Int} : LoopOK Tryz.prog UU 0 18 (subC (codeOf Tryz.f45) [1, 0, 1, 0, 0]) (ρ := Unit ⊕ Unit) (palingref15_In_L1 a1 a2)
    (fun v3 : Int => ([(0, .sl 3 a1), (1, .v (.int .i64 a2)), (4, .v (.bool false)), (5, .v (.int .i64 v3))] : Fr DD)) (fun v3 : Int => ([] : Heap DD)) (fun r => match r with | Sum.inl _ => .ret | Sum.inr _ => .exit 0) (fun r => match r with | Sum.inl _ => [(4, .v (.bool true))] | Sum.inr _ => [(4, .v (.bool false))]) (fun r => match r with | Sum.inl _ => [] | Sum.inr _ => []) := by
  refine loop_sound3 (fun s q h => ?_) (fun r => ?_)
  · replace h : palingref15_In_L1 a1 a2 s = some q := h; revert h; revert s; intro v3 h
    unfold palingref15_In_L1 at h
    rcases ite_out h with ⟨h4, h⟩ | ⟨h4, h⟩
    · obtain ⟨x5, h6, h⟩ := bind_out h
      rcases ite_out h with ⟨h7, h⟩ | ⟨h7, h⟩
      · injection h with h; subst h; exact runLp_sound mixedOrders (live := [4]) (ids := []) (π := [.dec true, .row (c3 x5), .dec true]) (hx := by kernel_rfl) (hps := pc (h4) <| pc (ob3 h6) <| pc (h7) <| pn)
      · injection h with h; subst h; exact runLp_sound mixedOrders (live := [0, 1, 4, 5]) (ids := []) (π := [.dec true, .row (c3 x5), .dec false]) (hx := by kernel_rfl) (hps := pc (h4) <| pc (ob3 h6) <| pc (h7) <| pn)
    · injection h with h; subst h; exact runLp_sound mixedOrders (live := [4]) (ids := []) (π := [.dec false]) (hx := by kernel_rfl) (hps := pc (h4) <| pn)
  · rcases r with _ | _ <;> exact Ex.noConfusion

theorem k_palingref15_In {a1 : List Int} {a2 : Int} {r : Bool} (h : palingref15_In a1 a2 = some r) :
    CallsOK Tryz.prog UU 45 [.sl 3 a1, .v (.int .i64 a2)] [] (.v (.bool r)) [] := by
  unfold palingref15_In at h
  obtain ⟨r9, h8, h⟩ := bind_out h
  rcases r9 with _ | _
  · injection h with h; subst h; exact runFn_sound mixedOrders Tryz.func45 rfl (keep := none) (π := [.sum [0, 1, 4, 5] [] .ret [(4, .v (.bool true))] []]) (hrun := by kernel_rfl) (hps := pc (k_palingref15_In_L1 _ _ h8) <| pn)
  · injection h with h; subst h; exact runFn_sound mixedOrders Tryz.func45 rfl (keep := none) (π := [.sum [0, 1, 4, 5] [] (.exit 0) [(4, .v (.bool false))] []]) (hrun := by kernel_rfl) (hps := pc (k_palingref15_In_L1 _ _ h8) <| pn)

theorem k_palingref15_peer {a1 : Api_Net} {a2 : Int} {a3 : Int} {r : Bool} (h : palingref15_peer a1 a2 a3 = some r) :
    CallsOK Tryz.prog UU 173 [.agg (c31 a1), .v (.int .i64 a2), .v (.int .i64 a3)] [] (.v (.bool r)) [] := by
  unfold palingref15_peer at h
  obtain ⟨r4, h5, h⟩ := bind_out h
  rcases ite_out h with ⟨h6, h⟩ | ⟨h6, h⟩
  · injection h with h; subst h; exact runFn_sound mixedOrders Tryz.func173 rfl (keep := none) (π := [.callv (.v (.bool r4)), .dec true]) (hrun := by kernel_rfl) (hps := pc (k_palingref15_Place h5) <| pc (h6) <| pn)
  · rcases ite_out h with ⟨h7, h⟩ | ⟨h7, h⟩
    · injection h with h; subst h; exact runFn_sound mixedOrders Tryz.func173 rfl (keep := none) (π := [.callv (.v (.bool r4)), .dec false, .dec true]) (hrun := by kernel_rfl) (hps := pc (k_palingref15_Place h5) <| pc (h6) <| pc (h7) <| pn)
    · obtain ⟨x8, h9, h⟩ := bind_out h
      obtain ⟨x10, h11, h⟩ := bind_out h
      rcases ite_out h with ⟨h12, h⟩ | ⟨h12, h⟩
      · rcases ite_out h with ⟨h13, h⟩ | ⟨h13, h⟩
        · rcases ite_out h with ⟨h14, h⟩ | ⟨h14, h⟩
          · obtain ⟨x15, h16, h⟩ := bind_out h
            rcases ite_out h with ⟨h17, h⟩ | ⟨h17, h⟩
            · obtain ⟨x18, h19, h⟩ := bind_out h
              rcases ite_out h with ⟨h20, h⟩ | ⟨h20, h⟩
              · obtain ⟨r21, h22, h⟩ := bind_out h
                injection h with h; subst h; exact runFn_sound mixedOrders Tryz.func173 rfl (keep := none) (π := [.callv (.v (.bool r4)), .dec false, .dec false, .row (c67 x8), .row (c67 x10), .dec true, .dec true, .dec true, .row (c73 x15), .dec true, .row (c73 x18), .dec true, .callv (.v (.bool r21))]) (hrun := by kernel_rfl) (hps := pc (k_palingref15_Place h5) <| pc (h6) <| pc (h7) <| pc (ob67 h9) <| pc (ob67 h11) <| pc (h12) <| pc (h13) <| pc (h14) <| pc (ob73 h16) <| pc (h17) <| pc (ob73 h19) <| pc (h20) <| pc (k_palingref15_In h22) <| pn)
              · injection h with h; subst h; exact runFn_sound mixedOrders Tryz.func173 rfl (keep := none) (π := [.callv (.v (.bool r4)), .dec false, .dec false, .row (c67 x8), .row (c67 x10), .dec true, .dec true, .dec true, .row (c73 x15), .dec true, .row (c73 x18), .dec false]) (hrun := by kernel_rfl) (hps := pc (k_palingref15_Place h5) <| pc (h6) <| pc (h7) <| pc (ob67 h9) <| pc (ob67 h11) <| pc (h12) <| pc (h13) <| pc (h14) <| pc (ob73 h16) <| pc (h17) <| pc (ob73 h19) <| pc (h20) <| pn)
            · injection h with h; subst h; exact runFn_sound mixedOrders Tryz.func173 rfl (keep := none) (π := [.callv (.v (.bool r4)), .dec false, .dec false, .row (c67 x8), .row (c67 x10), .dec true, .dec true, .dec true, .row (c73 x15), .dec false]) (hrun := by kernel_rfl) (hps := pc (k_palingref15_Place h5) <| pc (h6) <| pc (h7) <| pc (ob67 h9) <| pc (ob67 h11) <| pc (h12) <| pc (h13) <| pc (h14) <| pc (ob73 h16) <| pc (h17) <| pn)
          · injection h with h; subst h; exact runFn_sound mixedOrders Tryz.func173 rfl (keep := none) (π := [.callv (.v (.bool r4)), .dec false, .dec false, .row (c67 x8), .row (c67 x10), .dec true, .dec true, .dec false]) (hrun := by kernel_rfl) (hps := pc (k_palingref15_Place h5) <| pc (h6) <| pc (h7) <| pc (ob67 h9) <| pc (ob67 h11) <| pc (h12) <| pc (h13) <| pc (h14) <| pn)
        · injection h with h; subst h; exact runFn_sound mixedOrders Tryz.func173 rfl (keep := none) (π := [.callv (.v (.bool r4)), .dec false, .dec false, .row (c67 x8), .row (c67 x10), .dec true, .dec false]) (hrun := by kernel_rfl) (hps := pc (k_palingref15_Place h5) <| pc (h6) <| pc (h7) <| pc (ob67 h9) <| pc (ob67 h11) <| pc (h12) <| pc (h13) <| pn)
      · injection h with h; subst h; exact runFn_sound mixedOrders Tryz.func173 rfl (keep := none) (π := [.callv (.v (.bool r4)), .dec false, .dec false, .row (c67 x8), .row (c67 x10), .dec false]) (hrun := by kernel_rfl) (hps := pc (k_palingref15_Place h5) <| pc (h6) <| pc (h7) <| pc (ob67 h9) <| pc (ob67 h11) <| pc (h12) <| pn)

theorem k_palingref15_domains_L1 {a1 : Api_Net} : LoopOK Tryz.prog UU 0 120 (subC (codeOf Tryz.f143) [1, 0, 1, 0, 0]) (ρ := Unit ⊕ Unit) (palingref15_domains_L1 a1)
    (fun v2 : Int => ([(1, .op 0 1 0 0), (2, .v (.bool false)), (3, .v (.int .i64 v2))] : Fr DD)) (fun v2 : Int => ([.box 31 (c31 a1) false] : Heap DD)) (fun r => match r with | Sum.inl _ => .ret | Sum.inr _ => .exit 0) (fun r => match r with | Sum.inl _ => [(2, .v (.bool false))] | Sum.inr _ => [(1, .op 0 1 0 0), (2, .v (.bool false))]) (fun r => match r with | Sum.inl _ => [] | Sum.inr _ => [.box 31 (c31 a1) false]) := by
  refine loop_sound3 (fun s q h => ?_) (fun r => ?_)
  · replace h : palingref15_domains_L1 a1 s = some q := h; revert h; revert s; intro v2 h
    unfold palingref15_domains_L1 at h
    rcases ite_out h with ⟨h3, h⟩ | ⟨h3, h⟩
    · obtain ⟨x4, h5, h⟩ := bind_out h
      obtain ⟨r6, h7, h⟩ := bind_out h
      rcases ite_out h with ⟨h8, h⟩ | ⟨h8, h⟩
      · injection h with h; subst h; exact runLp_sound mixedOrders (live := [2]) (ids := []) (π := [.dec true, .row (c67 x4), .callv (.v (.bool r6)), .dec true]) (hx := by kernel_rfl) (hps := pc (h3) <| pc (ob67 h5) <| pc (k_palingref15_Place h7) <| pc (h8) <| pn)
      · rcases ite_out h with ⟨h9, h⟩ | ⟨h9, h⟩
        · injection h with h; subst h; exact runLp_sound mixedOrders (live := [2]) (ids := []) (π := [.dec true, .row (c67 x4), .callv (.v (.bool r6)), .dec false, .dec true]) (hx := by kernel_rfl) (hps := pc (h3) <| pc (ob67 h5) <| pc (k_palingref15_Place h7) <| pc (h8) <| pc (h9) <| pn)
        · rcases ite_out h with ⟨h10, h⟩ | ⟨h10, h⟩
          · injection h with h; subst h; exact runLp_sound mixedOrders (live := [2]) (ids := []) (π := [.dec true, .row (c67 x4), .callv (.v (.bool r6)), .dec false, .dec false, .dec true]) (hx := by kernel_rfl) (hps := pc (h3) <| pc (ob67 h5) <| pc (k_palingref15_Place h7) <| pc (h8) <| pc (h9) <| pc (h10) <| pn)
          · rcases ite_out h with ⟨h11, h⟩ | ⟨h11, h⟩
            · injection h with h; subst h; exact runLp_sound mixedOrders (live := [2]) (ids := []) (π := [.dec true, .row (c67 x4), .callv (.v (.bool r6)), .dec false, .dec false, .dec false, .dec true]) (hx := by kernel_rfl) (hps := pc (h3) <| pc (ob67 h5) <| pc (k_palingref15_Place h7) <| pc (h8) <| pc (h9) <| pc (h10) <| pc (h11) <| pn)
            · rcases ite_out h with ⟨h12, h⟩ | ⟨h12, h⟩
              · injection h with h; subst h; exact runLp_sound mixedOrders (live := [2]) (ids := []) (π := [.dec true, .row (c67 x4), .callv (.v (.bool r6)), .dec false, .dec false, .dec false, .dec false, .dec true]) (hx := by kernel_rfl) (hps := pc (h3) <| pc (ob67 h5) <| pc (k_palingref15_Place h7) <| pc (h8) <| pc (h9) <| pc (h10) <| pc (h11) <| pc (h12) <| pn)
              · obtain ⟨r13, h14, h⟩ := bind_out h
                rcases ite_out h with ⟨h15, h⟩ | ⟨h15, h⟩
                · injection h with h; subst h; exact runLp_sound mixedOrders (live := [2]) (ids := []) (π := [.dec true, .row (c67 x4), .callv (.v (.bool r6)), .dec false, .dec false, .dec false, .dec false, .dec false, .callv (.v (.int .i64 r13)), .dec true]) (hx := by kernel_rfl) (hps := pc (h3) <| pc (ob67 h5) <| pc (k_palingref15_Place h7) <| pc (h8) <| pc (h9) <| pc (h10) <| pc (h11) <| pc (h12) <| pc (k_palingref15_At h14) <| pc (h15) <| pn)
                · rcases ite_out h with ⟨h16, h⟩ | ⟨h16, h⟩
                  · obtain ⟨r17, h18, h⟩ := bind_out h
                    rcases ite_out h with ⟨h19, h⟩ | ⟨h19, h⟩
                    · injection h with h; subst h; exact runLp_sound mixedOrders (live := [2]) (ids := []) (π := [.dec true, .row (c67 x4), .callv (.v (.bool r6)), .dec false, .dec false, .dec false, .dec false, .dec false, .callv (.v (.int .i64 r13)), .dec false, .dec true, .callv (.v (.bool r17)), .dec true]) (hx := by kernel_rfl) (hps := pc (h3) <| pc (ob67 h5) <| pc (k_palingref15_Place h7) <| pc (h8) <| pc (h9) <| pc (h10) <| pc (h11) <| pc (h12) <| pc (k_palingref15_At h14) <| pc (h15) <| pc (h16) <| pc (k_palingref15_Place h18) <| pc (h19) <| pn)
                    · obtain ⟨x20, h21, h⟩ := bind_out h
                      rcases ite_out h with ⟨h22, h⟩ | ⟨h22, h⟩
                      · injection h with h; subst h; exact runLp_sound mixedOrders (live := [2]) (ids := []) (π := [.dec true, .row (c67 x4), .callv (.v (.bool r6)), .dec false, .dec false, .dec false, .dec false, .dec false, .callv (.v (.int .i64 r13)), .dec false, .dec true, .callv (.v (.bool r17)), .dec false, .row (c165 x20), .dec true]) (hx := by kernel_rfl) (hps := pc (h3) <| pc (ob67 h5) <| pc (k_palingref15_Place h7) <| pc (h8) <| pc (h9) <| pc (h10) <| pc (h11) <| pc (h12) <| pc (k_palingref15_At h14) <| pc (h15) <| pc (h16) <| pc (k_palingref15_Place h18) <| pc (h19) <| pc (ob165 h21) <| pc (h22) <| pn)
                      · injection h with h; subst h; exact runLp_sound mixedOrders (live := [1, 2, 3]) (ids := [0]) (π := [.dec true, .row (c67 x4), .callv (.v (.bool r6)), .dec false, .dec false, .dec false, .dec false, .dec false, .callv (.v (.int .i64 r13)), .dec false, .dec true, .callv (.v (.bool r17)), .dec false, .row (c165 x20), .dec false]) (hx := by kernel_rfl) (hps := pc (h3) <| pc (ob67 h5) <| pc (k_palingref15_Place h7) <| pc (h8) <| pc (h9) <| pc (h10) <| pc (h11) <| pc (h12) <| pc (k_palingref15_At h14) <| pc (h15) <| pc (h16) <| pc (k_palingref15_Place h18) <| pc (h19) <| pc (ob165 h21) <| pc (h22) <| pn)
                  · injection h with h; subst h; exact runLp_sound mixedOrders (live := [1, 2, 3]) (ids := [0]) (π := [.dec true, .row (c67 x4), .callv (.v (.bool r6)), .dec false, .dec false, .dec false, .dec false, .dec false, .callv (.v (.int .i64 r13)), .dec false, .dec false]) (hx := by kernel_rfl) (hps := pc (h3) <| pc (ob67 h5) <| pc (k_palingref15_Place h7) <| pc (h8) <| pc (h9) <| pc (h10) <| pc (h11) <| pc (h12) <| pc (k_palingref15_At h14) <| pc (h15) <| pc (h16) <| pn)
    · injection h with h; subst h; exact runLp_sound mixedOrders (live := [1, 2]) (ids := [0]) (π := [.dec false]) (hx := by kernel_rfl) (hps := pc (h3) <| pn)
  · rcases r with _ | _ <;> exact Ex.noConfusion

theorem k_palingref15_domains_L3 {a1 : Api_Net} {v25 : Int} {x27 : Api_Domain} : LoopOK Tryz.prog UU 0 120 (subC (codeOf Tryz.f143) [1, 1, 0, 1, 0, 0, 1, 0, 0, 1, 1, 0, 0]) (ρ := Unit ⊕ Unit) (palingref15_domains_L3 a1 v25 x27)
    (fun v29 : Int => ([(1, .op 0 1 0 0), (2, .v (.bool false)), (5, .v (.int .i64 v25)), (6, .op 1 1 0 0), (7, .v (.int .i64 v29))] : Fr DD)) (fun v29 : Int => ([.box 31 (c31 a1) false, .box 67 (c67 x27) false] : Heap DD)) (fun r => match r with | Sum.inl _ => .ret | Sum.inr _ => .exit 4) (fun r => match r with | Sum.inl _ => [(2, .v (.bool false))] | Sum.inr _ => [(1, .op 0 1 0 0), (2, .v (.bool false)), (5, .v (.int .i64 v25))]) (fun r => match r with | Sum.inl _ => [] | Sum.inr _ => [.box 31 (c31 a1) false]) := by
  refine loop_sound3 (fun s q h => ?_) (fun r => ?_)
  · replace h : palingref15_domains_L3 a1 v25 x27 s = some q := h; revert h; revert s; intro v29 h
    unfold palingref15_domains_L3 at h
    rcases ite_out h with ⟨h30, h⟩ | ⟨h30, h⟩
    · obtain ⟨x31, h32, h⟩ := bind_out h
      obtain ⟨r33, h34, h⟩ := bind_out h
      rcases ite_out h with ⟨h35, h⟩ | ⟨h35, h⟩
      · injection h with h; subst h; exact runLp_sound mixedOrders (live := [2]) (ids := []) (π := [.dec true, .row (c3 x31), .callv (.v (.bool r33)), .dec true]) (hx := by kernel_rfl) (hps := pc (h30) <| pc (ob3 h32) <| pc (k_palingref15_peer h34) <| pc (h35) <| pn)
      · rcases ite_out h with ⟨h36, h⟩ | ⟨h36, h⟩
        · obtain ⟨x37, h38, h⟩ := bind_out h
          obtain ⟨r39, h40, h⟩ := bind_out h
          rcases ite_out h with ⟨h41, h⟩ | ⟨h41, h⟩
          · injection h with h; subst h; exact runLp_sound mixedOrders (live := [2]) (ids := []) (π := [.dec true, .row (c3 x31), .callv (.v (.bool r33)), .dec false, .row (c3 x37), .callv (.v (.bool r39)), .dec true]) (hx := by kernel_rfl) (hps := pc (h30) <| pc (ob3 h32) <| pc (k_palingref15_peer h34) <| pc (h35) <| pc (sl_ob h36) <| pc (ob3 h38) <| pc (k_palingref15_In h40) <| pc (h41) <| pn)
          · injection h with h; subst h; exact runLp_sound mixedOrders (live := [1, 2, 5, 6, 7]) (ids := [0, 1]) (π := [.dec true, .row (c3 x31), .callv (.v (.bool r33)), .dec false, .row (c3 x37), .callv (.v (.bool r39)), .dec false]) (hx := by kernel_rfl) (hps := pc (h30) <| pc (ob3 h32) <| pc (k_palingref15_peer h34) <| pc (h35) <| pc (sl_ob h36) <| pc (ob3 h38) <| pc (k_palingref15_In h40) <| pc (h41) <| pn)
        · cases h
    · injection h with h; subst h; exact runLp_sound mixedOrders (live := [1, 2, 5]) (ids := [0]) (π := [.dec false]) (hx := by kernel_rfl) (hps := pc (h30) <| pn)
  · rcases r with _ | _ <;> exact Ex.noConfusion

theorem k_palingref15_domains_L2 {a1 : Api_Net} : LoopOK Tryz.prog UU 0 120 (subC (codeOf Tryz.f143) [1, 1, 0, 1, 0, 0]) (ρ := Unit ⊕ Unit) (palingref15_domains_L2 a1)
    (fun v25 : Int => ([(1, .op 0 1 0 0), (2, .v (.bool false)), (5, .v (.int .i64 v25))] : Fr DD)) (fun v25 : Int => ([.box 31 (c31 a1) false] : Heap DD)) (fun r => match r with | Sum.inl _ => .ret | Sum.inr _ => .exit 2) (fun r => match r with | Sum.inl _ => [(2, .v (.bool false))] | Sum.inr _ => [(2, .v (.bool false))]) (fun r => match r with | Sum.inl _ => [] | Sum.inr _ => []) := by
  refine loop_sound3 (fun s q h => ?_) (fun r => ?_)
  · replace h : palingref15_domains_L2 a1 s = some q := h; revert h; revert s; intro v25 h
    unfold palingref15_domains_L2 at h
    rcases ite_out h with ⟨h26, h⟩ | ⟨h26, h⟩
    · obtain ⟨x27, h28, h⟩ := bind_out h
      obtain ⟨r43, h42, h⟩ := bind_out h
      rcases r43 with _ | _
      · injection h with h; subst h; exact runLp_sound mixedOrders (live := [2]) (ids := []) (π := [.dec true, .row (c67 x27), .sum [1, 2, 5, 6, 7] [0, 2] .ret [(2, .v (.bool false))] []]) (hx := by kernel_rfl) (hps := pc (h26) <| pc (ob67 h28) <| pc (k_palingref15_domains_L3 _ _ h42) <| pn)
      · injection h with h; subst h; exact runLp_sound mixedOrders (live := [1, 2, 5]) (ids := [0]) (π := [.dec true, .row (c67 x27), .sum [1, 2, 5, 6, 7] [0, 2] (.exit 4) [(1, .op 0 1 0 0), (2, .v (.bool false)), (5, .v (.int .i64 v25))] [.box 31 (c31 a1) false]]) (hx := by kernel_rfl) (hps := pc (h26) <| pc (ob67 h28) <| pc (k_palingref15_domains_L3 _ _ h42) <| pn)
    · injection h with h; subst h; exact runLp_sound mixedOrders (live := [2]) (ids := []) (π := [.dec false]) (hx := by kernel_rfl) (hps := pc (h26) <| pn)
  · rcases r with _ | _ <;> exact Ex.noConfusion

theorem k_palingref15_domains {a1 : Api_Net} {r : Bool} (h : palingref15_domains a1 = some r) :
    CallsOK Tryz.prog UU 143 [.agg (c31 a1)] [] (.v (.bool r)) [] := by
  unfold palingref15_domains at h
  obtain ⟨r24, h23, h⟩ := bind_out h
  rcases r24 with _ | _
  · injection h with h; subst h; exact runFn_sound mixedOrders Tryz.func143 rfl (keep := none) (π := [.sum [1, 2, 3] [0] .ret [(2, .v (.bool false))] []]) (hrun := by kernel_rfl) (hps := pc (k_palingref15_domains_L1 _ _ h23) <| pn)
  · obtain ⟨r45, h44, h⟩ := bind_out h
    rcases r45 with _ | _
    · injection h with h; subst h; exact runFn_sound mixedOrders Tryz.func143 rfl (keep := none) (π := [.sum [1, 2, 3] [0] (.exit 0) [(1, .op 0 1 0 0), (2, .v (.bool false))] [.box 31 (c31 a1) false], .sum [1, 2, 5] [0] .ret [(2, .v (.bool false))] []]) (hrun := by kernel_rfl) (hps := pc (k_palingref15_domains_L1 _ _ h23) <| pc (k_palingref15_domains_L2 _ _ h44) <| pn)
    · injection h with h; subst h; exact runFn_sound mixedOrders Tryz.func143 rfl (keep := none) (π := [.sum [1, 2, 3] [0] (.exit 0) [(1, .op 0 1 0 0), (2, .v (.bool false))] [.box 31 (c31 a1) false], .sum [1, 2, 5] [0] (.exit 2) [(2, .v (.bool false))] []]) (hrun := by kernel_rfl) (hps := pc (k_palingref15_domains_L1 _ _ h23) <| pc (k_palingref15_domains_L2 _ _ h44) <| pn)

theorem k_palingref03_Rising_L1 {a1 : List Int} {a2 : Int} {a3 : Int} : LoopOK Tryz.prog UU 0 52 (subC (codeOf Tryz.f199) [1, 1, 0, 1, 0, 0]) (ρ := Unit ⊕ Unit) (palingref03_Rising_L1 a1 a2 a3)
    (fun v6 : Int => ([(0, .sl 3 a1), (1, .v (.int .i64 a2)), (2, .v (.int .i64 a3)), (6, .v (.bool false)), (7, .v (.int .i64 v6))] : Fr DD)) (fun v6 : Int => ([] : Heap DD)) (fun r => match r with | Sum.inl _ => .ret | Sum.inr _ => .exit 0) (fun r => match r with | Sum.inl _ => [(6, .v (.bool false))] | Sum.inr _ => [(6, .v (.bool false))]) (fun r => match r with | Sum.inl _ => [] | Sum.inr _ => []) := by
  refine loop_sound3 (fun s q h => ?_) (fun r => ?_)
  · replace h : palingref03_Rising_L1 a1 a2 a3 s = some q := h; revert h; revert s; intro v6 h
    unfold palingref03_Rising_L1 at h
    rcases ite_out h with ⟨h7, h⟩ | ⟨h7, h⟩
    · obtain ⟨x8, h9, h⟩ := bind_out h
      rcases ite_out h with ⟨h10, h⟩ | ⟨h10, h⟩
      · injection h with h; subst h; exact runLp_sound mixedOrders (live := [6]) (ids := []) (π := [.dec true, .row (c3 x8), .dec true]) (hx := by kernel_rfl) (hps := pc (h7) <| pc (ob3 h9) <| pc (h10) <| pn)
      · obtain ⟨x11, h12, h⟩ := bind_out h
        rcases ite_out h with ⟨h13, h⟩ | ⟨h13, h⟩
        · injection h with h; subst h; exact runLp_sound mixedOrders (live := [6]) (ids := []) (π := [.dec true, .row (c3 x8), .dec false, .row (c3 x11), .dec true]) (hx := by kernel_rfl) (hps := pc (h7) <| pc (ob3 h9) <| pc (h10) <| pc (ob3 h12) <| pc (h13) <| pn)
        · rcases ite_out h with ⟨h14, h⟩ | ⟨h14, h⟩
          · obtain ⟨x15, h16, h⟩ := bind_out h
            obtain ⟨x17, h18, h⟩ := bind_out h
            rcases ite_out h with ⟨h19, h⟩ | ⟨h19, h⟩
            · injection h with h; subst h; exact runLp_sound mixedOrders (live := [6]) (ids := []) (π := [.dec true, .row (c3 x8), .dec false, .row (c3 x11), .dec false, .dec true, .row (c3 x15), .row (c3 x17), .dec true]) (hx := by kernel_rfl) (hps := pc (h7) <| pc (ob3 h9) <| pc (h10) <| pc (ob3 h12) <| pc (h13) <| pc (h14) <| pc (ob3 h16) <| pc (ob3 h18) <| pc (h19) <| pn)
            · injection h with h; subst h; exact runLp_sound mixedOrders (live := [0, 1, 2, 6, 7]) (ids := []) (π := [.dec true, .row (c3 x8), .dec false, .row (c3 x11), .dec false, .dec true, .row (c3 x15), .row (c3 x17), .dec false]) (hx := by kernel_rfl) (hps := pc (h7) <| pc (ob3 h9) <| pc (h10) <| pc (ob3 h12) <| pc (h13) <| pc (h14) <| pc (ob3 h16) <| pc (ob3 h18) <| pc (h19) <| pn)
          · injection h with h; subst h; exact runLp_sound mixedOrders (live := [0, 1, 2, 6, 7]) (ids := []) (π := [.dec true, .row (c3 x8), .dec false, .row (c3 x11), .dec false, .dec false]) (hx := by kernel_rfl) (hps := pc (h7) <| pc (ob3 h9) <| pc (h10) <| pc (ob3 h12) <| pc (h13) <| pc (h14) <| pn)
    · injection h with h; subst h; exact runLp_sound mixedOrders (live := [6]) (ids := []) (π := [.dec false]) (hx := by kernel_rfl) (hps := pc (h7) <| pn)
  · rcases r with _ | _ <;> exact Ex.noConfusion

theorem k_palingref03_Rising {a1 : List Int} {a2 : Int} {a3 : Int} {r : Bool} (h : palingref03_Rising a1 a2 a3 = some r) :
    CallsOK Tryz.prog UU 199 [.sl 3 a1, .v (.int .i64 a2), .v (.int .i64 a3)] [] (.v (.bool r)) [] := by
  unfold palingref03_Rising at h
  rcases ite_out h with ⟨h4, h⟩ | ⟨h4, h⟩
  · injection h with h; subst h; exact runFn_sound mixedOrders Tryz.func199 rfl (keep := none) (π := [.dec true]) (hrun := by kernel_rfl) (hps := pc (h4) <| pn)
  · rcases ite_out h with ⟨h5, h⟩ | ⟨h5, h⟩
    · injection h with h; subst h; exact runFn_sound mixedOrders Tryz.func199 rfl (keep := none) (π := [.dec false, .dec true]) (hrun := by kernel_rfl) (hps := pc (h4) <| pc (h5) <| pn)
    · obtain ⟨r21, h20, h⟩ := bind_out h
      rcases r21 with _ | _
      · injection h with h; subst h; exact runFn_sound mixedOrders Tryz.func199 rfl (keep := none) (π := [.dec false, .dec false, .sum [0, 1, 2, 6, 7] [] .ret [(6, .v (.bool false))] []]) (hrun := by kernel_rfl) (hps := pc (h4) <| pc (h5) <| pc (k_palingref03_Rising_L1 _ _ h20) <| pn)
      · injection h with h; subst h; exact runFn_sound mixedOrders Tryz.func199 rfl (keep := none) (π := [.dec false, .dec false, .sum [0, 1, 2, 6, 7] [] (.exit 0) [(6, .v (.bool false))] []]) (hrun := by kernel_rfl) (hps := pc (h4) <| pc (h5) <| pc (k_palingref03_Rising_L1 _ _ h20) <| pn)

theorem k_palingref15_rising {a1 : List Int} {a2 : Int} {r : Bool} (h : palingref15_rising a1 a2 = some r) :
    CallsOK Tryz.prog UU 174 [.sl 3 a1, .v (.int .i64 a2)] [] (.v (.bool r)) [] := by
  unfold palingref15_rising at h
  rcases ite_out h with ⟨h3, h⟩ | ⟨h3, h⟩
  · injection h with h; subst h; exact runFn_sound mixedOrders Tryz.func174 rfl (keep := none) (π := [.dec true]) (hrun := by kernel_rfl) (hps := pc (h3) <| pn)
  · obtain ⟨r4, h5, h⟩ := bind_out h
    injection h with h; subst h; exact runFn_sound mixedOrders Tryz.func174 rfl (keep := none) (π := [.dec false, .callv (.v (.bool r4))]) (hrun := by kernel_rfl) (hps := pc (h3) <| pc (k_palingref03_Rising h5) <| pn)

theorem k_palingref15_ports_J2 {a1 : Api_Net} {v2 : Int} {x4 : Api_Port} {r : Unit ⊕ Unit} (h : palingref15_ports_J2 a1 v2 x4 = some r) :
    ExecOK Tryz.prog UU 0 120 (subC (codeOf Tryz.f144) [1, 0, 1, 0, 0, 1, 0, 0, 1, 1, 0]) [(1, .op 0 1 0 0), (2, .v (.bool false)), (3, .v (.int .i64 v2)), (4, .op 1 1 0 0)] [.box 31 (c31 a1) false, .box 65 (c65 x4) false] ((fun r => match r with | Sum.inl _ => .ret | Sum.inr _ => .nor) r) ((fun r => match r with | Sum.inl _ => [(2, .v (.bool false))] | Sum.inr _ => [(1, .op 0 1 0 0), (2, .v (.bool false)), (3, .v (.int .i64 v2)), (4, .op 1 1 0 0)]) r) ((fun r => match r with | Sum.inl _ => [] | Sum.inr _ => [.box 31 (c31 a1) false, .box 65 (c65 x4) false]) r) := by
  unfold palingref15_ports_J2 at h
  rcases ite_out h with ⟨h17, h⟩ | ⟨h17, h⟩
  · rcases ite_out h with ⟨h18, h⟩ | ⟨h18, h⟩
    · injection h with h; subst h; exact runLp_sound mixedOrders (live := [2]) (ids := []) (π := [.dec true, .dec true]) (hx := by kernel_rfl) (hps := pc (h17) <| pc (h18) <| pn)
    · rcases ite_out h with ⟨h19, h⟩ | ⟨h19, h⟩
      · obtain ⟨r20, h21, h⟩ := bind_out h
        rcases ite_out h with ⟨h22, h⟩ | ⟨h22, h⟩
        · injection h with h; subst h; exact runLp_sound mixedOrders (live := [2]) (ids := []) (π := [.dec true, .dec false, .dec true, .callv (.v (.int .i64 r20)), .dec true]) (hx := by kernel_rfl) (hps := pc (h17) <| pc (h18) <| pc (h19) <| pc (k_palingref15_At h21) <| pc (h22) <| pn)
        · injection h with h; subst h; exact runLp_sound mixedOrders (live := [1, 2, 3, 4]) (ids := [0, 1]) (π := [.dec true, .dec false, .dec true, .callv (.v (.int .i64 r20)), .dec false]) (hx := by kernel_rfl) (hps := pc (h17) <| pc (h18) <| pc (h19) <| pc (k_palingref15_At h21) <| pc (h22) <| pn)
      · injection h with h; subst h; exact runLp_sound mixedOrders (live := [1, 2, 3, 4]) (ids := [0, 1]) (π := [.dec true, .dec false, .dec false]) (hx := by kernel_rfl) (hps := pc (h17) <| pc (h18) <| pc (h19) <| pn)
  · rcases ite_out h with ⟨h23, h⟩ | ⟨h23, h⟩
    · obtain ⟨r24, h25, h⟩ := bind_out h
      rcases ite_out h with ⟨h26, h⟩ | ⟨h26, h⟩
      · injection h with h; subst h; exact runLp_sound mixedOrders (live := [2]) (ids := []) (π := [.dec false, .dec true, .callv (.v (.int .i64 r24)), .dec true]) (hx := by kernel_rfl) (hps := pc (h17) <| pc (h23) <| pc (k_palingref15_At h25) <| pc (h26) <| pn)
      · injection h with h; subst h; exact runLp_sound mixedOrders (live := [1, 2, 3, 4]) (ids := [0, 1]) (π := [.dec false, .dec true, .callv (.v (.int .i64 r24)), .dec false]) (hx := by kernel_rfl) (hps := pc (h17) <| pc (h23) <| pc (k_palingref15_At h25) <| pc (h26) <| pn)
    · injection h with h; subst h; exact runLp_sound mixedOrders (live := [1, 2, 3, 4]) (ids := [0, 1]) (π := [.dec false, .dec false]) (hx := by kernel_rfl) (hps := pc (h17) <| pc (h23) <| pn)

theorem k_palingref15_ports_L3 {a1 : Api_Net} {v2 : Int} {x4 : Api_Port} : LoopOK Tryz.prog UU 0 120 (subC (codeOf Tryz.f144) [1, 0, 1, 0, 0, 1, 0, 0, 1, 1, 1, 0, 1, 0, 0]) (ρ := Unit ⊕ Unit) (palingref15_ports_L3 a1 v2 x4)
    (fun v29 : Int => ([(1, .op 0 1 0 0), (2, .v (.bool false)), (3, .v (.int .i64 v2)), (4, .op 1 1 0 0), (5, .v (.int .i64 v29))] : Fr DD)) (fun v29 : Int => ([.box 31 (c31 a1) false, .box 65 (c65 x4) false] : Heap DD)) (fun r => match r with | Sum.inl _ => .ret | Sum.inr _ => .exit 2) (fun r => match r with | Sum.inl _ => [(2, .v (.bool false))] | Sum.inr _ => [(1, .op 0 1 0 0), (2, .v (.bool false)), (3, .v (.int .i64 v2)), (4, .op 1 1 0 0)]) (fun r => match r with | Sum.inl _ => [] | Sum.inr _ => [.box 31 (c31 a1) false, .box 65 (c65 x4) false]) := by
  refine loop_sound3 (fun s q h => ?_) (fun r => ?_)
  · replace h : palingref15_ports_L3 a1 v2 x4 s = some q := h; revert h; revert s; intro v29 h
    unfold palingref15_ports_L3 at h
    rcases ite_out h with ⟨h30, h⟩ | ⟨h30, h⟩
    · obtain ⟨x31, h32, h⟩ := bind_out h
      obtain ⟨r33, h34, h⟩ := bind_out h
      rcases ite_out h with ⟨h35, h⟩ | ⟨h35, h⟩
      · injection h with h; subst h; exact runLp_sound mixedOrders (live := [2]) (ids := []) (π := [.dec true, .row (c3 x31), .callv (.v (.int .i64 r33)), .dec true]) (hx := by kernel_rfl) (hps := pc (h30) <| pc (ob3 h32) <| pc (k_palingref15_At h34) <| pc (h35) <| pn)
      · injection h with h; subst h; exact runLp_sound mixedOrders (live := [1, 2, 3, 4, 5]) (ids := [0, 1]) (π := [.dec true, .row (c3 x31), .callv (.v (.int .i64 r33)), .dec false]) (hx := by kernel_rfl) (hps := pc (h30) <| pc (ob3 h32) <| pc (k_palingref15_At h34) <| pc (h35) <| pn)
    · injection h with h; subst h; exact runLp_sound mixedOrders (live := [1, 2, 3, 4]) (ids := [0, 1]) (π := [.dec false]) (hx := by kernel_rfl) (hps := pc (h30) <| pn)
  · rcases r with _ | _ <;> exact Ex.noConfusion

theorem k_palingref15_ports_L1 {a1 : Api_Net} : LoopOK Tryz.prog UU 0 120 (subC (codeOf Tryz.f144) [1, 0, 1, 0, 0]) (ρ := Unit ⊕ Unit) (palingref15_ports_L1 a1)
    (fun v2 : Int => ([(1, .op 0 1 0 0), (2, .v (.bool false)), (3, .v (.int .i64 v2))] : Fr DD)) (fun v2 : Int => ([.box 31 (c31 a1) false] : Heap DD)) (fun r => match r with | Sum.inl _ => .ret | Sum.inr _ => .exit 0) (fun r => match r with | Sum.inl _ => [(2, .v (.bool false))] | Sum.inr _ => [(2, .v (.bool false))]) (fun r => match r with | Sum.inl _ => [] | Sum.inr _ => []) := by
  refine loop_sound3 (fun s q h => ?_) (fun r => ?_)
  · replace h : palingref15_ports_L1 a1 s = some q := h; revert h; revert s; intro v2 h
    unfold palingref15_ports_L1 at h
    rcases ite_out h with ⟨h3, h⟩ | ⟨h3, h⟩
    · obtain ⟨x4, h5, h⟩ := bind_out h
      obtain ⟨r6, h7, h⟩ := bind_out h
      rcases ite_out h with ⟨h8, h⟩ | ⟨h8, h⟩
      · injection h with h; subst h; exact runLp_sound mixedOrders (live := [2]) (ids := []) (π := [.dec true, .row (c65 x4), .callv (.v (.bool r6)), .dec true]) (hx := by kernel_rfl) (hps := pc (h3) <| pc (ob65 h5) <| pc (k_palingref15_Place h7) <| pc (h8) <| pn)
      · rcases ite_out h with ⟨h9, h⟩ | ⟨h9, h⟩
        · injection h with h; subst h; exact runLp_sound mixedOrders (live := [2]) (ids := []) (π := [.dec true, .row (c65 x4), .callv (.v (.bool r6)), .dec false, .dec true]) (hx := by kernel_rfl) (hps := pc (h3) <| pc (ob65 h5) <| pc (k_palingref15_Place h7) <| pc (h8) <| pc (h9) <| pn)
        · rcases ite_out h with ⟨h10, h⟩ | ⟨h10, h⟩
          · injection h with h; subst h; exact runLp_sound mixedOrders (live := [2]) (ids := []) (π := [.dec true, .row (c65 x4), .callv (.v (.bool r6)), .dec false, .dec false, .dec true]) (hx := by kernel_rfl) (hps := pc (h3) <| pc (ob65 h5) <| pc (k_palingref15_Place h7) <| pc (h8) <| pc (h9) <| pc (h10) <| pn)
          · obtain ⟨r11, h12, h⟩ := bind_out h
            rcases ite_out h with ⟨h13, h⟩ | ⟨h13, h⟩
            · injection h with h; subst h; exact runLp_sound mixedOrders (live := [2]) (ids := []) (π := [.dec true, .row (c65 x4), .callv (.v (.bool r6)), .dec false, .dec false, .dec false, .callv (.v (.bool r11)), .dec true]) (hx := by kernel_rfl) (hps := pc (h3) <| pc (ob65 h5) <| pc (k_palingref15_Place h7) <| pc (h8) <| pc (h9) <| pc (h10) <| pc (k_palingref15_rising h12) <| pc (h13) <| pn)
            · obtain ⟨r14, h15, h⟩ := bind_out h
              rcases ite_out h with ⟨h16, h⟩ | ⟨h16, h⟩
              · injection h with h; subst h; exact runLp_sound mixedOrders (live := [2]) (ids := []) (π := [.dec true, .row (c65 x4), .callv (.v (.bool r6)), .dec false, .dec false, .dec false, .callv (.v (.bool r11)), .dec false, .callv (.v (.bool r14)), .dec true]) (hx := by kernel_rfl) (hps := pc (h3) <| pc (ob65 h5) <| pc (k_palingref15_Place h7) <| pc (h8) <| pc (h9) <| pc (h10) <| pc (k_palingref15_rising h12) <| pc (h13) <| pc (k_palingref15_In h15) <| pc (h16) <| pn)
              · obtain ⟨r28, h27, h⟩ := bind_out h
                rcases r28 with _ | _
                · injection h with h; subst h; exact runLp_sound mixedOrders (live := [2]) (ids := []) (π := [.dec true, .row (c65 x4), .callv (.v (.bool r6)), .dec false, .dec false, .dec false, .callv (.v (.bool r11)), .dec false, .callv (.v (.bool r14)), .dec false, .cut [1, 2, 3, 4] [0, 2] .ret [(2, .v (.bool false))] []]) (hx := by kernel_rfl) (hps := pc (h3) <| pc (ob65 h5) <| pc (k_palingref15_Place h7) <| pc (h8) <| pc (h9) <| pc (h10) <| pc (k_palingref15_rising h12) <| pc (h13) <| pc (k_palingref15_In h15) <| pc (h16) <| pc (k_palingref15_ports_J2 h27) <| pn)
                · obtain ⟨r37, h36, h⟩ := bind_out h
                  rcases r37 with _ | _
                  · injection h with h; subst h; exact runLp_sound mixedOrders (live := [2]) (ids := []) (π := [.dec true, .row (c65 x4), .callv (.v (.bool r6)), .dec false, .dec false, .dec false, .callv (.v (.bool r11)), .dec false, .callv (.v (.bool r14)), .dec false, .cut [1, 2, 3, 4] [0, 2] .nor [(1, .op 0 1 0 0), (2, .v (.bool false)), (3, .v (.int .i64 v2)), (4, .op 1 1 0 0)] [.box 31 (c31 a1) false, .box 65 (c65 x4) false], .sum [1, 2, 3, 4, 5] [0, 1] .ret [(2, .v (.bool false))] []]) (hx := by kernel_rfl) (hps := pc (h3) <| pc (ob65 h5) <| pc (k_palingref15_Place h7) <| pc (h8) <| pc (h9) <| pc (h10) <| pc (k_palingref15_rising h12) <| pc (h13) <| pc (k_palingref15_In h15) <| pc (h16) <| pc (k_palingref15_ports_J2 h27) <| pc (k_palingref15_ports_L3 _ _ h36) <| pn)
                  · rcases ite_out h with ⟨h38, h⟩ | ⟨h38, h⟩
                    · injection h with h; subst h; exact runLp_sound mixedOrders (live := [1, 2, 3]) (ids := [0]) (π := [.dec true, .row (c65 x4), .callv (.v (.bool r6)), .dec false, .dec false, .dec false, .callv (.v (.bool r11)), .dec false, .callv (.v (.bool r14)), .dec false, .cut [1, 2, 3, 4] [0, 2] .nor [(1, .op 0 1 0 0), (2, .v (.bool false)), (3, .v (.int .i64 v2)), (4, .op 1 1 0 0)] [.box 31 (c31 a1) false, .box 65 (c65 x4) false], .sum [1, 2, 3, 4, 5] [0, 1] (.exit 2) [(1, .op 0 1 0 0), (2, .v (.bool false)), (3, .v (.int .i64 v2)), (4, .op 1 1 0 0)] [.box 31 (c31 a1) false, .box 65 (c65 x4) false], .dec true]) (hx := by kernel_rfl) (hps := pc (h3) <| pc (ob65 h5) <| pc (k_palingref15_Place h7) <| pc (h8) <| pc (h9) <| pc (h10) <| pc (k_palingref15_rising h12) <| pc (h13) <| pc (k_palingref15_In h15) <| pc (h16) <| pc (k_palingref15_ports_J2 h27) <| pc (k_palingref15_ports_L3 _ _ h36) <| pc (h38) <| pn)
                    · obtain ⟨r39, h40, h⟩ := bind_out h
                      rcases ite_out h with ⟨h41, h⟩ | ⟨h41, h⟩
                      · injection h with h; subst h; exact runLp_sound mixedOrders (live := [2]) (ids := []) (π := [.dec true, .row (c65 x4), .callv (.v (.bool r6)), .dec false, .dec false, .dec false, .callv (.v (.bool r11)), .dec false, .callv (.v (.bool r14)), .dec false, .cut [1, 2, 3, 4] [0, 2] .nor [(1, .op 0 1 0 0), (2, .v (.bool false)), (3, .v (.int .i64 v2)), (4, .op 1 1 0 0)] [.box 31 (c31 a1) false, .box 65 (c65 x4) false], .sum [1, 2, 3, 4, 5] [0, 1] (.exit 2) [(1, .op 0 1 0 0), (2, .v (.bool false)), (3, .v (.int .i64 v2)), (4, .op 1 1 0 0)] [.box 31 (c31 a1) false, .box 65 (c65 x4) false], .dec false, .callv (.v (.bool r39)), .dec true]) (hx := by kernel_rfl) (hps := pc (h3) <| pc (ob65 h5) <| pc (k_palingref15_Place h7) <| pc (h8) <| pc (h9) <| pc (h10) <| pc (k_palingref15_rising h12) <| pc (h13) <| pc (k_palingref15_In h15) <| pc (h16) <| pc (k_palingref15_ports_J2 h27) <| pc (k_palingref15_ports_L3 _ _ h36) <| pc (h38) <| pc (k_palingref15_Place h40) <| pc (h41) <| pn)
                      · obtain ⟨x42, h43, h⟩ := bind_out h
                        rcases ite_out h with ⟨h44, h⟩ | ⟨h44, h⟩
                        · obtain ⟨x45, h46, h⟩ := bind_out h
                          rcases ite_out h with ⟨h47, h⟩ | ⟨h47, h⟩
                          · injection h with h; subst h; exact runLp_sound mixedOrders (live := [2]) (ids := []) (π := [.dec true, .row (c65 x4), .callv (.v (.bool r6)), .dec false, .dec false, .dec false, .callv (.v (.bool r11)), .dec false, .callv (.v (.bool r14)), .dec false, .cut [1, 2, 3, 4] [0, 2] .nor [(1, .op 0 1 0 0), (2, .v (.bool false)), (3, .v (.int .i64 v2)), (4, .op 1 1 0 0)] [.box 31 (c31 a1) false, .box 65 (c65 x4) false], .sum [1, 2, 3, 4, 5] [0, 1] (.exit 2) [(1, .op 0 1 0 0), (2, .v (.bool false)), (3, .v (.int .i64 v2)), (4, .op 1 1 0 0)] [.box 31 (c31 a1) false, .box 65 (c65 x4) false], .dec false, .callv (.v (.bool r39)), .dec false, .row (c92 x42), .dec true, .row (c92 x45), .dec true]) (hx := by kernel_rfl) (hps := pc (h3) <| pc (ob65 h5) <| pc (k_palingref15_Place h7) <| pc (h8) <| pc (h9) <| pc (h10) <| pc (k_palingref15_rising h12) <| pc (h13) <| pc (k_palingref15_In h15) <| pc (h16) <| pc (k_palingref15_ports_J2 h27) <| pc (k_palingref15_ports_L3 _ _ h36) <| pc (h38) <| pc (k_palingref15_Place h40) <| pc (h41) <| pc (ob92 h43) <| pc (h44) <| pc (ob92 h46) <| pc (h47) <| pn)
                          · injection h with h; subst h; exact runLp_sound mixedOrders (live := [1, 2, 3]) (ids := [0]) (π := [.dec true, .row (c65 x4), .callv (.v (.bool r6)), .dec false, .dec false, .dec false, .callv (.v (.bool r11)), .dec false, .callv (.v (.bool r14)), .dec false, .cut [1, 2, 3, 4] [0, 2] .nor [(1, .op 0 1 0 0), (2, .v (.bool false)), (3, .v (.int .i64 v2)), (4, .op 1 1 0 0)] [.box 31 (c31 a1) false, .box 65 (c65 x4) false], .sum [1, 2, 3, 4, 5] [0, 1] (.exit 2) [(1, .op 0 1 0 0), (2, .v (.bool false)), (3, .v (.int .i64 v2)), (4, .op 1 1 0 0)] [.box 31 (c31 a1) false, .box 65 (c65 x4) false], .dec false, .callv (.v (.bool r39)), .dec false, .row (c92 x42), .dec true, .row (c92 x45), .dec false]) (hx := by kernel_rfl) (hps := pc (h3) <| pc (ob65 h5) <| pc (k_palingref15_Place h7) <| pc (h8) <| pc (h9) <| pc (h10) <| pc (k_palingref15_rising h12) <| pc (h13) <| pc (k_palingref15_In h15) <| pc (h16) <| pc (k_palingref15_ports_J2 h27) <| pc (k_palingref15_ports_L3 _ _ h36) <| pc (h38) <| pc (k_palingref15_Place h40) <| pc (h41) <| pc (ob92 h43) <| pc (h44) <| pc (ob92 h46) <| pc (h47) <| pn)
                        · injection h with h; subst h; exact runLp_sound mixedOrders (live := [1, 2, 3]) (ids := [0]) (π := [.dec true, .row (c65 x4), .callv (.v (.bool r6)), .dec false, .dec false, .dec false, .callv (.v (.bool r11)), .dec false, .callv (.v (.bool r14)), .dec false, .cut [1, 2, 3, 4] [0, 2] .nor [(1, .op 0 1 0 0), (2, .v (.bool false)), (3, .v (.int .i64 v2)), (4, .op 1 1 0 0)] [.box 31 (c31 a1) false, .box 65 (c65 x4) false], .sum [1, 2, 3, 4, 5] [0, 1] (.exit 2) [(1, .op 0 1 0 0), (2, .v (.bool false)), (3, .v (.int .i64 v2)), (4, .op 1 1 0 0)] [.box 31 (c31 a1) false, .box 65 (c65 x4) false], .dec false, .callv (.v (.bool r39)), .dec false, .row (c92 x42), .dec false]) (hx := by kernel_rfl) (hps := pc (h3) <| pc (ob65 h5) <| pc (k_palingref15_Place h7) <| pc (h8) <| pc (h9) <| pc (h10) <| pc (k_palingref15_rising h12) <| pc (h13) <| pc (k_palingref15_In h15) <| pc (h16) <| pc (k_palingref15_ports_J2 h27) <| pc (k_palingref15_ports_L3 _ _ h36) <| pc (h38) <| pc (k_palingref15_Place h40) <| pc (h41) <| pc (ob92 h43) <| pc (h44) <| pn)
    · injection h with h; subst h; exact runLp_sound mixedOrders (live := [2]) (ids := []) (π := [.dec false]) (hx := by kernel_rfl) (hps := pc (h3) <| pn)
  · rcases r with _ | _ <;> exact Ex.noConfusion

theorem k_palingref15_ports {a1 : Api_Net} {r : Bool} (h : palingref15_ports a1 = some r) :
    CallsOK Tryz.prog UU 144 [.agg (c31 a1)] [] (.v (.bool r)) [] := by
  unfold palingref15_ports at h
  obtain ⟨r49, h48, h⟩ := bind_out h
  rcases r49 with _ | _
  · injection h with h; subst h; exact runFn_sound mixedOrders Tryz.func144 rfl (keep := none) (π := [.sum [1, 2, 3] [0] .ret [(2, .v (.bool false))] []]) (hrun := by kernel_rfl) (hps := pc (k_palingref15_ports_L1 _ _ h48) <| pn)
  · injection h with h; subst h; exact runFn_sound mixedOrders Tryz.func144 rfl (keep := none) (π := [.sum [1, 2, 3] [0] (.exit 0) [(2, .v (.bool false))] []]) (hrun := by kernel_rfl) (hps := pc (k_palingref15_ports_L1 _ _ h48) <| pn)

theorem k_palingref15_links_L1 {a1 : Api_Net} : LoopOK Tryz.prog UU 0 70 (subC (codeOf Tryz.f145) [1, 0, 1, 0, 0]) (ρ := Unit ⊕ Unit) (palingref15_links_L1 a1)
    (fun v2 : Int => ([(1, .op 0 1 0 0), (2, .v (.bool false)), (3, .v (.int .i64 v2))] : Fr DD)) (fun v2 : Int => ([.box 31 (c31 a1) false] : Heap DD)) (fun r => match r with | Sum.inl _ => .ret | Sum.inr _ => .exit 0) (fun r => match r with | Sum.inl _ => [(2, .v (.bool false))] | Sum.inr _ => [(2, .v (.bool false))]) (fun r => match r with | Sum.inl _ => [] | Sum.inr _ => []) := by
  refine loop_sound3 (fun s q h => ?_) (fun r => ?_)
  · replace h : palingref15_links_L1 a1 s = some q := h; revert h; revert s; intro v2 h
    unfold palingref15_links_L1 at h
    rcases ite_out h with ⟨h3, h⟩ | ⟨h3, h⟩
    · obtain ⟨x4, h5, h⟩ := bind_out h
      obtain ⟨r6, h7, h⟩ := bind_out h
      rcases ite_out h with ⟨h8, h⟩ | ⟨h8, h⟩
      · injection h with h; subst h; exact runLp_sound mixedOrders (live := [2]) (ids := []) (π := [.dec true, .row (c92 x4), .callv (.v (.bool r6)), .dec true]) (hx := by kernel_rfl) (hps := pc (h3) <| pc (ob92 h5) <| pc (k_palingref15_Place h7) <| pc (h8) <| pn)
      · obtain ⟨r9, h10, h⟩ := bind_out h
        rcases ite_out h with ⟨h11, h⟩ | ⟨h11, h⟩
        · injection h with h; subst h; exact runLp_sound mixedOrders (live := [2]) (ids := []) (π := [.dec true, .row (c92 x4), .callv (.v (.bool r6)), .dec false, .callv (.v (.bool r9)), .dec true]) (hx := by kernel_rfl) (hps := pc (h3) <| pc (ob92 h5) <| pc (k_palingref15_Place h7) <| pc (h8) <| pc (k_palingref15_Place h10) <| pc (h11) <| pn)
        · obtain ⟨x12, h13, h⟩ := bind_out h
          obtain ⟨x14, h15, h⟩ := bind_out h
          rcases ite_out h with ⟨h16, h⟩ | ⟨h16, h⟩
          · injection h with h; subst h; exact runLp_sound mixedOrders (live := [2]) (ids := []) (π := [.dec true, .row (c92 x4), .callv (.v (.bool r6)), .dec false, .callv (.v (.bool r9)), .dec false, .row (c65 x12), .row (c65 x14), .dec true]) (hx := by kernel_rfl) (hps := pc (h3) <| pc (ob92 h5) <| pc (k_palingref15_Place h7) <| pc (h8) <| pc (k_palingref15_Place h10) <| pc (h11) <| pc (ob65 h13) <| pc (ob65 h15) <| pc (h16) <| pn)
          · obtain ⟨x17, h18, h⟩ := bind_out h
            rcases ite_out h with ⟨h19, h⟩ | ⟨h19, h⟩
            · injection h with h; subst h; exact runLp_sound mixedOrders (live := [2]) (ids := []) (π := [.dec true, .row (c92 x4), .callv (.v (.bool r6)), .dec false, .callv (.v (.bool r9)), .dec false, .row (c65 x12), .row (c65 x14), .dec false, .row (c65 x17), .dec true]) (hx := by kernel_rfl) (hps := pc (h3) <| pc (ob92 h5) <| pc (k_palingref15_Place h7) <| pc (h8) <| pc (k_palingref15_Place h10) <| pc (h11) <| pc (ob65 h13) <| pc (ob65 h15) <| pc (h16) <| pc (ob65 h18) <| pc (h19) <| pn)
            · obtain ⟨x20, h21, h⟩ := bind_out h
              rcases ite_out h with ⟨h22, h⟩ | ⟨h22, h⟩
              · injection h with h; subst h; exact runLp_sound mixedOrders (live := [2]) (ids := []) (π := [.dec true, .row (c92 x4), .callv (.v (.bool r6)), .dec false, .callv (.v (.bool r9)), .dec false, .row (c65 x12), .row (c65 x14), .dec false, .row (c65 x17), .dec false, .row (c65 x20), .dec true]) (hx := by kernel_rfl) (hps := pc (h3) <| pc (ob92 h5) <| pc (k_palingref15_Place h7) <| pc (h8) <| pc (k_palingref15_Place h10) <| pc (h11) <| pc (ob65 h13) <| pc (ob65 h15) <| pc (h16) <| pc (ob65 h18) <| pc (h19) <| pc (ob65 h21) <| pc (h22) <| pn)
              · injection h with h; subst h; exact runLp_sound mixedOrders (live := [1, 2, 3]) (ids := [0]) (π := [.dec true, .row (c92 x4), .callv (.v (.bool r6)), .dec false, .callv (.v (.bool r9)), .dec false, .row (c65 x12), .row (c65 x14), .dec false, .row (c65 x17), .dec false, .row (c65 x20), .dec false]) (hx := by kernel_rfl) (hps := pc (h3) <| pc (ob92 h5) <| pc (k_palingref15_Place h7) <| pc (h8) <| pc (k_palingref15_Place h10) <| pc (h11) <| pc (ob65 h13) <| pc (ob65 h15) <| pc (h16) <| pc (ob65 h18) <| pc (h19) <| pc (ob65 h21) <| pc (h22) <| pn)
    · injection h with h; subst h; exact runLp_sound mixedOrders (live := [2]) (ids := []) (π := [.dec false]) (hx := by kernel_rfl) (hps := pc (h3) <| pn)
  · rcases r with _ | _ <;> exact Ex.noConfusion

theorem k_palingref15_links {a1 : Api_Net} {r : Bool} (h : palingref15_links a1 = some r) :
    CallsOK Tryz.prog UU 145 [.agg (c31 a1)] [] (.v (.bool r)) [] := by
  unfold palingref15_links at h
  obtain ⟨r24, h23, h⟩ := bind_out h
  rcases r24 with _ | _
  · injection h with h; subst h; exact runFn_sound mixedOrders Tryz.func145 rfl (keep := none) (π := [.sum [1, 2, 3] [0] .ret [(2, .v (.bool false))] []]) (hrun := by kernel_rfl) (hps := pc (k_palingref15_links_L1 _ _ h23) <| pn)
  · injection h with h; subst h; exact runFn_sound mixedOrders Tryz.func145 rfl (keep := none) (π := [.sum [1, 2, 3] [0] (.exit 0) [(2, .v (.bool false))] []]) (hrun := by kernel_rfl) (hps := pc (k_palingref15_links_L1 _ _ h23) <| pn)

theorem k_palingref15_Member {a1 : Api_Port} {a2 : Int} {r : Bool} (h : palingref15_Member a1 a2 = some r) :
    CallsOK Tryz.prog UU 93 [.agg (c65 a1), .v (.int .i64 a2)] [] (.v (.bool r)) [] := by
  unfold palingref15_Member at h
  rcases ite_out h with ⟨h3, h⟩ | ⟨h3, h⟩
  · rcases ite_out h with ⟨h4, h⟩ | ⟨h4, h⟩
    · injection h with h; subst h; exact runFn_sound mixedOrders Tryz.func93 rfl (keep := none) (π := [.dec true, .dec true]) (hrun := by kernel_rfl) (hps := pc (h3) <| pc (h4) <| pn)
    · obtain ⟨r5, h6, h⟩ := bind_out h
      injection h with h; subst h; exact runFn_sound mixedOrders Tryz.func93 rfl (keep := none) (π := [.dec true, .dec false, .callv (.v (.bool r5))]) (hrun := by kernel_rfl) (hps := pc (h3) <| pc (h4) <| pc (k_palingref15_In h6) <| pn)
  · injection h with h; subst h; exact runFn_sound mixedOrders Tryz.func93 rfl (keep := none) (π := [.dec false]) (hrun := by kernel_rfl) (hps := pc (h3) <| pn)

theorem k_palingref15_rest_L1 {a1 : Api_Net} : LoopOK Tryz.prog UU 0 192 (subC (codeOf Tryz.f146) [1, 0, 1, 0, 0]) (ρ := Unit ⊕ Unit) (palingref15_rest_L1 a1)
    (fun v2 : Int => ([(1, .op 0 1 0 0), (2, .v (.bool false)), (3, .v (.int .i64 v2))] : Fr DD)) (fun v2 : Int => ([.box 31 (c31 a1) false] : Heap DD)) (fun r => match r with | Sum.inl _ => .ret | Sum.inr _ => .exit 0) (fun r => match r with | Sum.inl _ => [(2, .v (.bool false))] | Sum.inr _ => [(1, .op 0 1 0 0), (2, .v (.bool false))]) (fun r => match r with | Sum.inl _ => [] | Sum.inr _ => [.box 31 (c31 a1) false]) := by
  refine loop_sound3 (fun s q h => ?_) (fun r => ?_)
  · replace h : palingref15_rest_L1 a1 s = some q := h; revert h; revert s; intro v2 h
    unfold palingref15_rest_L1 at h
    rcases ite_out h with ⟨h3, h⟩ | ⟨h3, h⟩
    · obtain ⟨x4, h5, h⟩ := bind_out h
      obtain ⟨r6, h7, h⟩ := bind_out h
      rcases ite_out h with ⟨h8, h⟩ | ⟨h8, h⟩
      · injection h with h; subst h; exact runLp_sound mixedOrders (live := [2]) (ids := []) (π := [.dec true, .row (c154 x4), .callv (.v (.bool r6)), .dec true]) (hx := by kernel_rfl) (hps := pc (h3) <| pc (ob154 h5) <| pc (k_palingref15_Place h7) <| pc (h8) <| pn)
      · obtain ⟨r9, h10, h⟩ := bind_out h
        rcases ite_out h with ⟨h11, h⟩ | ⟨h11, h⟩
        · injection h with h; subst h; exact runLp_sound mixedOrders (live := [2]) (ids := []) (π := [.dec true, .row (c154 x4), .callv (.v (.bool r6)), .dec false, .callv (.v (.bool r9)), .dec true]) (hx := by kernel_rfl) (hps := pc (h3) <| pc (ob154 h5) <| pc (k_palingref15_Place h7) <| pc (h8) <| pc (k_palingref15_Place h10) <| pc (h11) <| pn)
        · obtain ⟨x12, h13, h⟩ := bind_out h
          obtain ⟨x14, h15, h⟩ := bind_out h
          rcases ite_out h with ⟨h16, h⟩ | ⟨h16, h⟩
          · injection h with h; subst h; exact runLp_sound mixedOrders (live := [2]) (ids := []) (π := [.dec true, .row (c154 x4), .callv (.v (.bool r6)), .dec false, .callv (.v (.bool r9)), .dec false, .row (c67 x12), .row (c65 x14), .dec true]) (hx := by kernel_rfl) (hps := pc (h3) <| pc (ob154 h5) <| pc (k_palingref15_Place h7) <| pc (h8) <| pc (k_palingref15_Place h10) <| pc (h11) <| pc (ob67 h13) <| pc (ob65 h15) <| pc (h16) <| pn)
          · obtain ⟨x17, h18, h⟩ := bind_out h
            obtain ⟨r19, h20, h⟩ := bind_out h
            rcases ite_out h with ⟨h21, h⟩ | ⟨h21, h⟩
            · injection h with h; subst h; exact runLp_sound mixedOrders (live := [2]) (ids := []) (π := [.dec true, .row (c154 x4), .callv (.v (.bool r6)), .dec false, .callv (.v (.bool r9)), .dec false, .row (c67 x12), .row (c65 x14), .dec false, .row (c65 x17), .callv (.v (.bool r19)), .dec true]) (hx := by kernel_rfl) (hps := pc (h3) <| pc (ob154 h5) <| pc (k_palingref15_Place h7) <| pc (h8) <| pc (k_palingref15_Place h10) <| pc (h11) <| pc (ob67 h13) <| pc (ob65 h15) <| pc (h16) <| pc (ob65 h18) <| pc (k_palingref15_Member h20) <| pc (h21) <| pn)
            · injection h with h; subst h; exact runLp_sound mixedOrders (live := [1, 2, 3]) (ids := [0]) (π := [.dec true, .row (c154 x4), .callv (.v (.bool r6)), .dec false, .callv (.v (.bool r9)), .dec false, .row (c67 x12), .row (c65 x14), .dec false, .row (c65 x17), .callv (.v (.bool r19)), .dec false]) (hx := by kernel_rfl) (hps := pc (h3) <| pc (ob154 h5) <| pc (k_palingref15_Place h7) <| pc (h8) <| pc (k_palingref15_Place h10) <| pc (h11) <| pc (ob67 h13) <| pc (ob65 h15) <| pc (h16) <| pc (ob65 h18) <| pc (k_palingref15_Member h20) <| pc (h21) <| pn)
    · injection h with h; subst h; exact runLp_sound mixedOrders (live := [1, 2]) (ids := [0]) (π := [.dec false]) (hx := by kernel_rfl) (hps := pc (h3) <| pn)
  · rcases r with _ | _ <;> exact Ex.noConfusion

theorem k_palingref15_rest_L2 {a1 : Api_Net} : LoopOK Tryz.prog UU 0 192 (subC (codeOf Tryz.f146) [1, 1, 0, 1, 0, 0]) (ρ := Unit ⊕ Unit) (palingref15_rest_L2 a1)
    (fun v24 : Int => ([(1, .op 0 1 0 0), (2, .v (.bool false)), (6, .v (.int .i64 v24))] : Fr DD)) (fun v24 : Int => ([.box 31 (c31 a1) false] : Heap DD)) (fun r => match r with | Sum.inl _ => .ret | Sum.inr _ => .exit 2) (fun r => match r with | Sum.inl _ => [(2, .v (.bool false))] | Sum.inr _ => [(1, .op 0 1 0 0), (2, .v (.bool false))]) (fun r => match r with | Sum.inl _ => [] | Sum.inr _ => [.box 31 (c31 a1) false]) := by
  refine loop_sound3 (fun s q h => ?_) (fun r => ?_)
  · replace h : palingref15_rest_L2 a1 s = some q := h; revert h; revert s; intro v24 h
    unfold palingref15_rest_L2 at h
    rcases ite_out h with ⟨h25, h⟩ | ⟨h25, h⟩
    · obtain ⟨x26, h27, h⟩ := bind_out h
      obtain ⟨r28, h29, h⟩ := bind_out h
      rcases ite_out h with ⟨h30, h⟩ | ⟨h30, h⟩
      · injection h with h; subst h; exact runLp_sound mixedOrders (live := [2]) (ids := []) (π := [.dec true, .row (c69 x26), .callv (.v (.bool r28)), .dec true]) (hx := by kernel_rfl) (hps := pc (h25) <| pc (ob69 h27) <| pc (k_palingref15_Place h29) <| pc (h30) <| pn)
      · obtain ⟨x31, h32, h⟩ := bind_out h
        rcases ite_out h with ⟨h33, h⟩ | ⟨h33, h⟩
        · injection h with h; subst h; exact runLp_sound mixedOrders (live := [2]) (ids := []) (π := [.dec true, .row (c69 x26), .callv (.v (.bool r28)), .dec false, .row (c69 x31), .dec true]) (hx := by kernel_rfl) (hps := pc (h25) <| pc (ob69 h27) <| pc (k_palingref15_Place h29) <| pc (h30) <| pc (ob69 h32) <| pc (h33) <| pn)
        · injection h with h; subst h; exact runLp_sound mixedOrders (live := [1, 2, 6]) (ids := [0]) (π := [.dec true, .row (c69 x26), .callv (.v (.bool r28)), .dec false, .row (c69 x31), .dec false]) (hx := by kernel_rfl) (hps := pc (h25) <| pc (ob69 h27) <| pc (k_palingref15_Place h29) <| pc (h30) <| pc (ob69 h32) <| pc (h33) <| pn)
    · injection h with h; subst h; exact runLp_sound mixedOrders (live := [1, 2]) (ids := [0]) (π := [.dec false]) (hx := by kernel_rfl) (hps := pc (h25) <| pn)
  · rcases r with _ | _ <;> exact Ex.noConfusion

theorem k_palingref15_rest_L3 {a1 : Api_Net} : LoopOK Tryz.prog UU 0 192 (subC (codeOf Tryz.f146) [1, 1, 1, 0, 1, 0, 0]) (ρ := Unit ⊕ Unit) (palingref15_rest_L3 a1)
    (fun v36 : Int => ([(1, .op 0 1 0 0), (2, .v (.bool false)), (7, .v (.int .i64 v36))] : Fr DD)) (fun v36 : Int => ([.box 31 (c31 a1) false] : Heap DD)) (fun r => match r with | Sum.inl _ => .ret | Sum.inr _ => .exit 4) (fun r => match r with | Sum.inl _ => [(2, .v (.bool false))] | Sum.inr _ => [(1, .op 0 1 0 0), (2, .v (.bool false))]) (fun r => match r with | Sum.inl _ => [] | Sum.inr _ => [.box 31 (c31 a1) false]) := by
  refine loop_sound3 (fun s q h => ?_) (fun r => ?_)
  · replace h : palingref15_rest_L3 a1 s = some q := h; revert h; revert s; intro v36 h
    unfold palingref15_rest_L3 at h
    rcases ite_out h with ⟨h37, h⟩ | ⟨h37, h⟩
    · obtain ⟨x38, h39, h⟩ := bind_out h
      obtain ⟨r40, h41, h⟩ := bind_out h
      rcases ite_out h with ⟨h42, h⟩ | ⟨h42, h⟩
      · injection h with h; subst h; exact runLp_sound mixedOrders (live := [2]) (ids := []) (π := [.dec true, .row (c71 x38), .callv (.v (.bool r40)), .dec true]) (hx := by kernel_rfl) (hps := pc (h37) <| pc (ob71 h39) <| pc (k_palingref15_Place h41) <| pc (h42) <| pn)
      · obtain ⟨r43, h44, h⟩ := bind_out h
        rcases ite_out h with ⟨h45, h⟩ | ⟨h45, h⟩
        · injection h with h; subst h; exact runLp_sound mixedOrders (live := [2]) (ids := []) (π := [.dec true, .row (c71 x38), .callv (.v (.bool r40)), .dec false, .callv (.v (.bool r43)), .dec true]) (hx := by kernel_rfl) (hps := pc (h37) <| pc (ob71 h39) <| pc (k_palingref15_Place h41) <| pc (h42) <| pc (k_palingref15_rising h44) <| pc (h45) <| pn)
        · obtain ⟨r46, h47, h⟩ := bind_out h
          rcases ite_out h with ⟨h48, h⟩ | ⟨h48, h⟩
          · injection h with h; subst h; exact runLp_sound mixedOrders (live := [2]) (ids := []) (π := [.dec true, .row (c71 x38), .callv (.v (.bool r40)), .dec false, .callv (.v (.bool r43)), .dec false, .callv (.v (.bool r46)), .dec true]) (hx := by kernel_rfl) (hps := pc (h37) <| pc (ob71 h39) <| pc (k_palingref15_Place h41) <| pc (h42) <| pc (k_palingref15_rising h44) <| pc (h45) <| pc (k_palingref15_rising h47) <| pc (h48) <| pn)
          · injection h with h; subst h; exact runLp_sound mixedOrders (live := [1, 2, 7]) (ids := [0]) (π := [.dec true, .row (c71 x38), .callv (.v (.bool r40)), .dec false, .callv (.v (.bool r43)), .dec false, .callv (.v (.bool r46)), .dec false]) (hx := by kernel_rfl) (hps := pc (h37) <| pc (ob71 h39) <| pc (k_palingref15_Place h41) <| pc (h42) <| pc (k_palingref15_rising h44) <| pc (h45) <| pc (k_palingref15_rising h47) <| pc (h48) <| pn)
    · injection h with h; subst h; exact runLp_sound mixedOrders (live := [1, 2]) (ids := [0]) (π := [.dec false]) (hx := by kernel_rfl) (hps := pc (h37) <| pn)
  · rcases r with _ | _ <;> exact Ex.noConfusion

theorem k_palingref15_rest_L4 {a1 : Api_Net} : LoopOK Tryz.prog UU 0 192 (subC (codeOf Tryz.f146) [1, 1, 1, 1, 0, 1, 0, 0]) (ρ := Unit ⊕ Unit) (palingref15_rest_L4 a1)
    (fun v51 : Int => ([(1, .op 0 1 0 0), (2, .v (.bool false)), (9, .v (.int .i64 v51))] : Fr DD)) (fun v51 : Int => ([.box 31 (c31 a1) false] : Heap DD)) (fun r => match r with | Sum.inl _ => .ret | Sum.inr _ => .exit 6) (fun r => match r with | Sum.inl _ => [(2, .v (.bool false))] | Sum.inr _ => [(2, .v (.bool false))]) (fun r => match r with | Sum.inl _ => [] | Sum.inr _ => []) := by
  refine loop_sound3 (fun s q h => ?_) (fun r => ?_)
  · replace h : palingref15_rest_L4 a1 s = some q := h; revert h; revert s; intro v51 h
    unfold palingref15_rest_L4 at h
    rcases ite_out h with ⟨h52, h⟩ | ⟨h52, h⟩
    · obtain ⟨x53, h54, h⟩ := bind_out h
      obtain ⟨r55, h56, h⟩ := bind_out h
      rcases ite_out h with ⟨h57, h⟩ | ⟨h57, h⟩
      · injection h with h; subst h; exact runLp_sound mixedOrders (live := [2]) (ids := []) (π := [.dec true, .row (c165 x53), .callv (.v (.bool r55)), .dec true]) (hx := by kernel_rfl) (hps := pc (h52) <| pc (ob165 h54) <| pc (k_palingref15_Place h56) <| pc (h57) <| pn)
      · obtain ⟨r58, h59, h⟩ := bind_out h
        rcases ite_out h with ⟨h60, h⟩ | ⟨h60, h⟩
        · injection h with h; subst h; exact runLp_sound mixedOrders (live := [2]) (ids := []) (π := [.dec true, .row (c165 x53), .callv (.v (.bool r55)), .dec false, .callv (.v (.bool r58)), .dec true]) (hx := by kernel_rfl) (hps := pc (h52) <| pc (ob165 h54) <| pc (k_palingref15_Place h56) <| pc (h57) <| pc (k_palingref15_Place h59) <| pc (h60) <| pn)
        · rcases ite_out h with ⟨h61, h⟩ | ⟨h61, h⟩
          · injection h with h; subst h; exact runLp_sound mixedOrders (live := [2]) (ids := []) (π := [.dec true, .row (c165 x53), .callv (.v (.bool r55)), .dec false, .callv (.v (.bool r58)), .dec false, .dec true]) (hx := by kernel_rfl) (hps := pc (h52) <| pc (ob165 h54) <| pc (k_palingref15_Place h56) <| pc (h57) <| pc (k_palingref15_Place h59) <| pc (h60) <| pc (h61) <| pn)
          · rcases ite_out h with ⟨h62, h⟩ | ⟨h62, h⟩
            · injection h with h; subst h; exact runLp_sound mixedOrders (live := [2]) (ids := []) (π := [.dec true, .row (c165 x53), .callv (.v (.bool r55)), .dec false, .callv (.v (.bool r58)), .dec false, .dec false, .dec true]) (hx := by kernel_rfl) (hps := pc (h52) <| pc (ob165 h54) <| pc (k_palingref15_Place h56) <| pc (h57) <| pc (k_palingref15_Place h59) <| pc (h60) <| pc (h61) <| pc (h62) <| pn)
            · obtain ⟨x63, h64, h⟩ := bind_out h
              obtain ⟨x65, h66, h⟩ := bind_out h
              rcases ite_out h with ⟨h67, h⟩ | ⟨h67, h⟩
              · injection h with h; subst h; exact runLp_sound mixedOrders (live := [2]) (ids := []) (π := [.dec true, .row (c165 x53), .callv (.v (.bool r55)), .dec false, .callv (.v (.bool r58)), .dec false, .dec false, .dec false, .row (c67 x63), .row (c71 x65), .dec true]) (hx := by kernel_rfl) (hps := pc (h52) <| pc (ob165 h54) <| pc (k_palingref15_Place h56) <| pc (h57) <| pc (k_palingref15_Place h59) <| pc (h60) <| pc (h61) <| pc (h62) <| pc (ob67 h64) <| pc (ob71 h66) <| pc (h67) <| pn)
              · obtain ⟨x68, h69, h⟩ := bind_out h
                rcases ite_out h with ⟨h70, h⟩ | ⟨h70, h⟩
                · injection h with h; subst h; exact runLp_sound mixedOrders (live := [2]) (ids := []) (π := [.dec true, .row (c165 x53), .callv (.v (.bool r55)), .dec false, .callv (.v (.bool r58)), .dec false, .dec false, .dec false, .row (c67 x63), .row (c71 x65), .dec false, .row (c67 x68), .dec true]) (hx := by kernel_rfl) (hps := pc (h52) <| pc (ob165 h54) <| pc (k_palingref15_Place h56) <| pc (h57) <| pc (k_palingref15_Place h59) <| pc (h60) <| pc (h61) <| pc (h62) <| pc (ob67 h64) <| pc (ob71 h66) <| pc (h67) <| pc (ob67 h69) <| pc (h70) <| pn)
                · injection h with h; subst h; exact runLp_sound mixedOrders (live := [1, 2, 9]) (ids := [0]) (π := [.dec true, .row (c165 x53), .callv (.v (.bool r55)), .dec false, .callv (.v (.bool r58)), .dec false, .dec false, .dec false, .row (c67 x63), .row (c71 x65), .dec false, .row (c67 x68), .dec false]) (hx := by kernel_rfl) (hps := pc (h52) <| pc (ob165 h54) <| pc (k_palingref15_Place h56) <| pc (h57) <| pc (k_palingref15_Place h59) <| pc (h60) <| pc (h61) <| pc (h62) <| pc (ob67 h64) <| pc (ob71 h66) <| pc (h67) <| pc (ob67 h69) <| pc (h70) <| pn)
    · injection h with h; subst h; exact runLp_sound mixedOrders (live := [2]) (ids := []) (π := [.dec false]) (hx := by kernel_rfl) (hps := pc (h52) <| pn)
  · rcases r with _ | _ <;> exact Ex.noConfusion

theorem k_palingref15_rest {a1 : Api_Net} {r : Bool} (h : palingref15_rest a1 = some r) :
    CallsOK Tryz.prog UU 146 [.agg (c31 a1)] [] (.v (.bool r)) [] := by
  unfold palingref15_rest at h
  obtain ⟨r23, h22, h⟩ := bind_out h
  rcases r23 with _ | _
  · injection h with h; subst h; exact runFn_sound mixedOrders Tryz.func146 rfl (keep := none) (π := [.sum [1, 2, 3] [0] .ret [(2, .v (.bool false))] []]) (hrun := by kernel_rfl) (hps := pc (k_palingref15_rest_L1 _ _ h22) <| pn)
  · obtain ⟨r35, h34, h⟩ := bind_out h
    rcases r35 with _ | _
    · injection h with h; subst h; exact runFn_sound mixedOrders Tryz.func146 rfl (keep := none) (π := [.sum [1, 2, 3] [0] (.exit 0) [(1, .op 0 1 0 0), (2, .v (.bool false))] [.box 31 (c31 a1) false], .sum [1, 2, 6] [0] .ret [(2, .v (.bool false))] []]) (hrun := by kernel_rfl) (hps := pc (k_palingref15_rest_L1 _ _ h22) <| pc (k_palingref15_rest_L2 _ _ h34) <| pn)
    · obtain ⟨r50, h49, h⟩ := bind_out h
      rcases r50 with _ | _
      · injection h with h; subst h; exact runFn_sound mixedOrders Tryz.func146 rfl (keep := none) (π := [.sum [1, 2, 3] [0] (.exit 0) [(1, .op 0 1 0 0), (2, .v (.bool false))] [.box 31 (c31 a1) false], .sum [1, 2, 6] [0] (.exit 2) [(1, .op 0 1 0 0), (2, .v (.bool false))] [.box 31 (c31 a1) false], .sum [1, 2, 7] [0] .ret [(2, .v (.bool false))] []]) (hrun := by kernel_rfl) (hps := pc (k_palingref15_rest_L1 _ _ h22) <| pc (k_palingref15_rest_L2 _ _ h34) <| pc (k_palingref15_rest_L3 _ _ h49) <| pn)
      · obtain ⟨r72, h71, h⟩ := bind_out h
        rcases r72 with _ | _
        · injection h with h; subst h; exact runFn_sound mixedOrders Tryz.func146 rfl (keep := none) (π := [.sum [1, 2, 3] [0] (.exit 0) [(1, .op 0 1 0 0), (2, .v (.bool false))] [.box 31 (c31 a1) false], .sum [1, 2, 6] [0] (.exit 2) [(1, .op 0 1 0 0), (2, .v (.bool false))] [.box 31 (c31 a1) false], .sum [1, 2, 7] [0] (.exit 4) [(1, .op 0 1 0 0), (2, .v (.bool false))] [.box 31 (c31 a1) false], .sum [1, 2, 9] [0] .ret [(2, .v (.bool false))] []]) (hrun := by kernel_rfl) (hps := pc (k_palingref15_rest_L1 _ _ h22) <| pc (k_palingref15_rest_L2 _ _ h34) <| pc (k_palingref15_rest_L3 _ _ h49) <| pc (k_palingref15_rest_L4 _ _ h71) <| pn)
        · injection h with h; subst h; exact runFn_sound mixedOrders Tryz.func146 rfl (keep := none) (π := [.sum [1, 2, 3] [0] (.exit 0) [(1, .op 0 1 0 0), (2, .v (.bool false))] [.box 31 (c31 a1) false], .sum [1, 2, 6] [0] (.exit 2) [(1, .op 0 1 0 0), (2, .v (.bool false))] [.box 31 (c31 a1) false], .sum [1, 2, 7] [0] (.exit 4) [(1, .op 0 1 0 0), (2, .v (.bool false))] [.box 31 (c31 a1) false], .sum [1, 2, 9] [0] (.exit 6) [(2, .v (.bool false))] []]) (hrun := by kernel_rfl) (hps := pc (k_palingref15_rest_L1 _ _ h22) <| pc (k_palingref15_rest_L2 _ _ h34) <| pc (k_palingref15_rest_L3 _ _ h49) <| pc (k_palingref15_rest_L4 _ _ h71) <| pn)

theorem k_palingref15_Right {a1 : Api_Net} {r : Bool} (h : palingref15_Right a1 = some r) :
    CallsOK Tryz.prog UU 89 [.agg (c31 a1)] [] (.v (.bool r)) [] := by
  unfold palingref15_Right at h
  rcases ite_out h with ⟨h2, h⟩ | ⟨h2, h⟩
  · injection h with h; subst h; exact runFn_sound mixedOrders Tryz.func89 rfl (keep := none) (π := [.dec true]) (hrun := by kernel_rfl) (hps := pc (h2) <| pn)
  · rcases ite_out h with ⟨h3, h⟩ | ⟨h3, h⟩
    · injection h with h; subst h; exact runFn_sound mixedOrders Tryz.func89 rfl (keep := none) (π := [.dec false, .dec true]) (hrun := by kernel_rfl) (hps := pc (h2) <| pc (h3) <| pn)
    · rcases ite_out h with ⟨h4, h⟩ | ⟨h4, h⟩
      · injection h with h; subst h; exact runFn_sound mixedOrders Tryz.func89 rfl (keep := none) (π := [.dec false, .dec false, .dec true]) (hrun := by kernel_rfl) (hps := pc (h2) <| pc (h3) <| pc (h4) <| pn)
      · rcases ite_out h with ⟨h5, h⟩ | ⟨h5, h⟩
        · injection h with h; subst h; exact runFn_sound mixedOrders Tryz.func89 rfl (keep := none) (π := [.dec false, .dec false, .dec false, .dec true]) (hrun := by kernel_rfl) (hps := pc (h2) <| pc (h3) <| pc (h4) <| pc (h5) <| pn)
        · rcases ite_out h with ⟨h6, h⟩ | ⟨h6, h⟩
          · injection h with h; subst h; exact runFn_sound mixedOrders Tryz.func89 rfl (keep := none) (π := [.dec false, .dec false, .dec false, .dec false, .dec true]) (hrun := by kernel_rfl) (hps := pc (h2) <| pc (h3) <| pc (h4) <| pc (h5) <| pc (h6) <| pn)
          · rcases ite_out h with ⟨h7, h⟩ | ⟨h7, h⟩
            · injection h with h; subst h; exact runFn_sound mixedOrders Tryz.func89 rfl (keep := none) (π := [.dec false, .dec false, .dec false, .dec false, .dec false, .dec true]) (hrun := by kernel_rfl) (hps := pc (h2) <| pc (h3) <| pc (h4) <| pc (h5) <| pc (h6) <| pc (h7) <| pn)
            · rcases ite_out h with ⟨h8, h⟩ | ⟨h8, h⟩
              · injection h with h; subst h; exact runFn_sound mixedOrders Tryz.func89 rfl (keep := none) (π := [.dec false, .dec false, .dec false, .dec false, .dec false, .dec false, .dec true]) (hrun := by kernel_rfl) (hps := pc (h2) <| pc (h3) <| pc (h4) <| pc (h5) <| pc (h6) <| pc (h7) <| pc (h8) <| pn)
              · rcases ite_out h with ⟨h9, h⟩ | ⟨h9, h⟩
                · injection h with h; subst h; exact runFn_sound mixedOrders Tryz.func89 rfl (keep := none) (π := [.dec false, .dec false, .dec false, .dec false, .dec false, .dec false, .dec false, .dec true]) (hrun := by kernel_rfl) (hps := pc (h2) <| pc (h3) <| pc (h4) <| pc (h5) <| pc (h6) <| pc (h7) <| pc (h8) <| pc (h9) <| pn)
                · obtain ⟨r10, h11, h⟩ := bind_out h
                  rcases ite_out h with ⟨h12, h⟩ | ⟨h12, h⟩
                  · obtain ⟨r13, h14, h⟩ := bind_out h
                    rcases ite_out h with ⟨h15, h⟩ | ⟨h15, h⟩
                    · obtain ⟨r16, h17, h⟩ := bind_out h
                      rcases ite_out h with ⟨h18, h⟩ | ⟨h18, h⟩
                      · obtain ⟨r19, h20, h⟩ := bind_out h
                        injection h with h; subst h; exact runFn_sound mixedOrders Tryz.func89 rfl (keep := none) (π := [.dec false, .dec false, .dec false, .dec false, .dec false, .dec false, .dec false, .dec false, .callv (.v (.bool r10)), .dec true, .callv (.v (.bool r13)), .dec true, .callv (.v (.bool r16)), .dec true, .callv (.v (.bool r19))]) (hrun := by kernel_rfl) (hps := pc (h2) <| pc (h3) <| pc (h4) <| pc (h5) <| pc (h6) <| pc (h7) <| pc (h8) <| pc (h9) <| pc (k_palingref15_domains h11) <| pc (h12) <| pc (k_palingref15_ports h14) <| pc (h15) <| pc (k_palingref15_links h17) <| pc (h18) <| pc (k_palingref15_rest h20) <| pn)
                      · injection h with h; subst h; exact runFn_sound mixedOrders Tryz.func89 rfl (keep := none) (π := [.dec false, .dec false, .dec false, .dec false, .dec false, .dec false, .dec false, .dec false, .callv (.v (.bool r10)), .dec true, .callv (.v (.bool r13)), .dec true, .callv (.v (.bool r16)), .dec false]) (hrun := by kernel_rfl) (hps := pc (h2) <| pc (h3) <| pc (h4) <| pc (h5) <| pc (h6) <| pc (h7) <| pc (h8) <| pc (h9) <| pc (k_palingref15_domains h11) <| pc (h12) <| pc (k_palingref15_ports h14) <| pc (h15) <| pc (k_palingref15_links h17) <| pc (h18) <| pn)
                    · injection h with h; subst h; exact runFn_sound mixedOrders Tryz.func89 rfl (keep := none) (π := [.dec false, .dec false, .dec false, .dec false, .dec false, .dec false, .dec false, .dec false, .callv (.v (.bool r10)), .dec true, .callv (.v (.bool r13)), .dec false]) (hrun := by kernel_rfl) (hps := pc (h2) <| pc (h3) <| pc (h4) <| pc (h5) <| pc (h6) <| pc (h7) <| pc (h8) <| pc (h9) <| pc (k_palingref15_domains h11) <| pc (h12) <| pc (k_palingref15_ports h14) <| pc (h15) <| pn)
                  · injection h with h; subst h; exact runFn_sound mixedOrders Tryz.func89 rfl (keep := none) (π := [.dec false, .dec false, .dec false, .dec false, .dec false, .dec false, .dec false, .dec false, .callv (.v (.bool r10)), .dec false]) (hrun := by kernel_rfl) (hps := pc (h2) <| pc (h3) <| pc (h4) <| pc (h5) <| pc (h6) <| pc (h7) <| pc (h8) <| pc (h9) <| pc (k_palingref15_domains h11) <| pc (h12) <| pn)

end Go.Eng
