/- Part of the proof of CompsLoops: printed mirrors of the functions, or their contracts. No conditions. -/
import Derived.Test.YtakginbgngjhkaaMAK1
set_option linter.unusedVariables false
set_option maxRecDepth 100000
namespace Go.Eng
open Go Go.Proofs
theorem k_comps_linked_own_L2 {a1 : Api_Net} {n3 : Nat} {v5 : Int} {x7 : Api_Port} {l11 : List Int} : LoopOK Try.prog UU 1 48 (subC (codeOf Try.f60) [1, 1, 0, 0, 1, 1, 0, 0, 1, 1, 0, 0]) (fun s : (List Int) × Int => match s with | (l13, v14) => comps_linked_own_L2 a1 n3 v5 x7 l11 l13 v14)
    (fun s : (List Int) × Int => (match s with | (l13, v14) => [(1, .os 0 n3), (2, .op 1 1 0 0), (4, .v (.int .i64 v5)), (5, .op 2 1 0 0), (11, .sl 60 a1.ports), (12, .v (.int .i64 (a1.ports.length : Int))), (13, .v (.int .i64 v5)), (24, .os 3 (List.length (l11 ++ [x7.native]))), (25, .v (.int .i64 ((List.length (l11 ++ [x7.native])) : Int))), (26, .v (.int .i64 v14))] : Fr DD)) (fun s : (List Int) × Int => (match s with | (l13, v14) => [.arr 3 l13 n3 false, .box 31 (c31 a1) false, .box 60 (c60 x7) false, .arr 3 (l11 ++ [x7.native]) (List.length (l11 ++ [x7.native])) false] : Heap DD)) (fun r => match r with | l33 => .exit 2) (fun r => match r with | l33 => [(1, .os 0 n3), (2, .op 1 1 0 0), (11, .sl 60 a1.ports), (12, .v (.int .i64 (a1.ports.length : Int))), (13, .v (.int .i64 v5))]) (fun r => match r with | l33 => [.arr 3 l33 n3 false, .box 31 (c31 a1) false]) := by
  refine loop_sound3 (fun s q h => ?_) (fun r => ?_)
  · obtain ⟨l13, v14⟩ := s; replace h : comps_linked_own_L2 a1 n3 v5 x7 l11 l13 v14 = some q := h
    unfold comps_linked_own_L2 at h
    rcases ite_out h with ⟨h15, h⟩ | ⟨h15, h⟩
    · rcases ite_out h with ⟨h16, h⟩ | ⟨h16, h⟩
      · obtain ⟨x17, h18, h⟩ := bind_out h
        obtain ⟨r19, h20, h⟩ := bind_out h
        rcases ite_out h with ⟨h21, h⟩ | ⟨h21, h⟩
        · obtain ⟨r22, h23, h⟩ := bind_out h
          obtain ⟨r24, h25, h⟩ := bind_out h
          obtain ⟨l26, v27⟩ := r24
          injection h with h; subst h; exact runLp_sound mixedOrders (live := [1, 2, 4, 5, 11, 12, 13, 24, 25, 26]) (ids := [0, 1, 2, 3]) (π := [.dec true, .row (c3 x17), .callv (.tup [.v (.int .i64 r19.1), .v (.bool r19.2)]), .dec true, .callv (.v (.int .i64 r22)), .callm [0] (.v (.bool v27)) [.arr 3 l26 n3 false]]) (hx := by kernel_rfl) (hps := pc (h15) <| pc (And.intro (rfl : ((List.length (l11 ++ [x7.native])) : Nat) = (List.length (l11 ++ [x7.native]))) (lin_ob h16)) <| pc (And.intro (rfl : ((List.length (l11 ++ [x7.native])) : Nat) = (List.length (l11 ++ [x7.native]))) (obn3 h18)) <| pc (k_links_Domain h20) <| pc (h21) <| pc (k_names_Domain h23) <| pc (k_comps_forest_join_own h25) <| pn)
        · injection h with h; subst h; exact runLp_sound mixedOrders (live := [1, 2, 4, 5, 11, 12, 13, 24, 25, 26]) (ids := [0, 1, 2, 3]) (π := [.dec true, .row (c3 x17), .callv (.tup [.v (.int .i64 r19.1), .v (.bool r19.2)]), .dec false]) (hx := by kernel_rfl) (hps := pc (h15) <| pc (And.intro (rfl : ((List.length (l11 ++ [x7.native])) : Nat) = (List.length (l11 ++ [x7.native]))) (lin_ob h16)) <| pc (And.intro (rfl : ((List.length (l11 ++ [x7.native])) : Nat) = (List.length (l11 ++ [x7.native]))) (obn3 h18)) <| pc (k_links_Domain h20) <| pc (h21) <| pn)
      · cases h
    · injection h with h; subst h; exact runLp_sound mixedOrders (live := [1, 2, 11, 12, 13]) (ids := [0, 1]) (π := [.dec false]) (hx := by kernel_rfl) (hps := pc (h15) <| pn)
  · exact Ex.noConfusion

theorem k_comps_linked_own_L1 {a1 : Api_Net} {n3 : Nat} : LoopOK Try.prog UU 1 48 (subC (codeOf Try.f60) [1, 1, 0, 0]) (fun s : (List Int) × Int => match s with | (l4, v5) => comps_linked_own_L1 a1 n3 l4 v5)
    (fun s : (List Int) × Int => (match s with | (l4, v5) => [(1, .os 0 n3), (2, .op 1 1 0 0), (11, .sl 60 a1.ports), (12, .v (.int .i64 (a1.ports.length : Int))), (13, .v (.int .i64 v5))] : Fr DD)) (fun s : (List Int) × Int => (match s with | (l4, v5) => [.arr 3 l4 n3 false, .box 31 (c31 a1) false] : Heap DD)) (fun r => match r with | l36 => .exit 0) (fun r => match r with | l36 => []) (fun r => match r with | l36 => [.arr 3 l36 n3 false]) := by
  refine loop_sound3 (fun s q h => ?_) (fun r => ?_)
  · obtain ⟨l4, v5⟩ := s; replace h : comps_linked_own_L1 a1 n3 l4 v5 = some q := h
    unfold comps_linked_own_L1 at h
    rcases ite_out h with ⟨h6, h⟩ | ⟨h6, h⟩
    · obtain ⟨x7, h8, h⟩ := bind_out h
      obtain ⟨l11, h10, h⟩ := bind_out h
      rcases ite_out h with ⟨h12, h⟩ | ⟨h12, h⟩
      · obtain ⟨l33, h34, h⟩ := bind_out h
        injection h with h; subst h; exact runLp_sound mixedOrders (live := [1, 2, 11, 12, 13]) (ids := [0, 1]) (π := [.dec true, .row (c60 x7), .sum [2] [] .nor [] [.arr 3 l4 n3 false, .box 31 (c31 a1) false, .arr 3 [] 0 false, .box 60 (c60 x7) false, .arr 3 l11 (List.length l11) false], .sum [6] [] .nor [] [.arr 3 l4 n3 false, .box 31 (c31 a1) false, .arr 3 [] 0 false, .box 60 (c60 x7) false, .arr 3 (l11 ++ [x7.native]) (List.length (l11 ++ [x7.native])) false], .callo (.os 0 (List.length l11)) [.arr 3 l11 (List.length l11) false], .obj [] (.arr 3 [x7.native] (List.length [x7.native]) false), .obj [] (.arr 3 (l11 ++ [x7.native]) (List.length (l11 ++ [x7.native])) false), .sum [1, 2, 4, 5, 11, 12, 13, 24, 25, 26] [0, 1, 3, 4] (.exit 2) [(1, .os 0 n3), (2, .op 1 1 0 0), (11, .sl 60 a1.ports), (12, .v (.int .i64 (a1.ports.length : Int))), (13, .v (.int .i64 v5))] [.arr 3 l33 n3 false, .box 31 (c31 a1) false]]) (hx := by kernel_rfl) (hps := pc (h6) <| pc (ob60 h8) <| pc ((rfl : ([.arr 3 l4 n3 false, .box 31 (c31 a1) false, .arr 3 [] 0 false, .box 60 (c60 x7) false, .arr 3 l11 (List.length l11) false] : Heap DD) = [.arr 3 l4 n3 false, .box 31 (c31 a1) false, .arr 3 [] 0 false, .box 60 (c60 x7) false, .arr 3 l11 (List.length l11) false])) <| pc (k_slices_Clone_int h10) <| pc (im3 l11) <| pc ((rfl : (.op 3 1 0 2 : AV DD) = .op 3 1 0 2)) <| pc ((rfl : (.v (.int .i64 x7.native) : AV DD) = .v (.int .i64 x7.native))) <| pc (bs_ob 3 [x7.native]) <| pc (bs_ob 3 [x7.native]) <| pc ((rfl : (.sl 3 [x7.native] : AV DD) = .sl 3 [x7.native])) <| pc ((rfl : ([.arr 3 l4 n3 false, .box 31 (c31 a1) false, .arr 3 [] 0 false, .box 60 (c60 x7) false, .arr 3 (l11 ++ [x7.native]) (List.length (l11 ++ [x7.native])) false] : Heap DD) = [.arr 3 l4 n3 false, .box 31 (c31 a1) false, .arr 3 [] 0 false, .box 60 (c60 x7) false, .arr 3 (l11 ++ [x7.native]) (List.length (l11 ++ [x7.native])) false])) <| pc (app_ob 3 (n := (List.length l11)) (l := l11) (xs := [x7.native]) h12) <| pc ((rfl : ((List.length (l11 ++ [x7.native])) : Nat) = (List.length (l11 ++ [x7.native])))) <| pc ((rfl : (.v (.int .i64 0) : AV DD) = .v (.int .i64 0))) <| pc ((rfl : (.v (.int .i64 0) : AV DD) = .v (.int .i64 0))) <| pc (k_comps_linked_own_L2 _ _ h34) <| pn)
      · cases h
    · injection h with h; subst h; exact runLp_sound mixedOrders (live := []) (ids := [0]) (π := [.dec false]) (hx := by kernel_rfl) (hps := pc (h6) <| pn)
  · exact Ex.noConfusion

theorem k_comps_linked_own {a1 : Api_Net} {a2 : List Int} {n3 : Nat} {r : ((List Int))} (h : comps_linked_own a1 a2 n3 = some r) :
    CallsOK Try.prog UU 60 [.agg (c31 a1), .os 0 n3] [.arr 3 a2 n3 false] ((fun r => match r with | l39 => .tup []) r) ((fun r => match r with | l39 => [.arr 3 l39 n3 false]) r) := by
  unfold comps_linked_own at h
  obtain ⟨l36, h37, h⟩ := bind_out h
  injection h with h; subst h; exact runFn_sound mixedOrders Try.func60 rfl (keep := some [0]) (π := [.sum [1, 2, 11, 12, 13] [0, 1] (.exit 0) [] [.arr 3 l36 n3 false]]) (hrun := by kernel_rfl) (hps := pc (k_comps_linked_own_L1 _ _ h37) <| pn)

theorem k_slices_Min_int_L1 {a1 : List Int} : LoopOK Try.prog UU 0 25 (subC (codeOf Try.f61) [1, 1, 1, 0, 1, 0, 0]) (fun s : Int × Int => match s with | (v5, v6) => slices_Min_int_L1 a1 v5 v6)
    (fun s : Int × Int => (match s with | (v5, v6) => [(0, .sl 3 a1), (2, .v (.int .i64 0)), (3, .v (.int .i64 v5)), (4, .v (.int .i64 v6))] : Fr DD)) (fun s : Int × Int => (match s with | (v5, v6) => [] : Heap DD)) (fun r => match r with | v11 => .exit 0) (fun r => match r with | v11 => [(2, .v (.int .i64 0)), (3, .v (.int .i64 v11))]) (fun r => match r with | v11 => []) := by
  refine loop_sound3 (fun s q h => ?_) (fun r => ?_)
  · obtain ⟨v5, v6⟩ := s; replace h : slices_Min_int_L1 a1 v5 v6 = some q := h
    unfold slices_Min_int_L1 at h
    rcases ite_out h with ⟨h7, h⟩ | ⟨h7, h⟩
    · obtain ⟨x8, h9, h⟩ := bind_out h
      injection h with h; subst h; exact runLp_sound mixedOrders (live := [0, 2, 3, 4]) (ids := []) (π := [.dec true, .row (c3 x8)]) (hx := by kernel_rfl) (hps := pc (h7) <| pc (ob3 h9) <| pn)
    · injection h with h; subst h; exact runLp_sound mixedOrders (live := [2, 3]) (ids := []) (π := [.dec false]) (hx := by kernel_rfl) (hps := pc (h7) <| pn)
  · exact Ex.noConfusion

theorem k_slices_Min_int {a1 : List Int} {r : Int} (h : slices_Min_int a1 = some r) :
    CallsOK Try.prog UU 61 [.sl 3 a1] [] (.v (.int .i64 r)) [] := by
  unfold slices_Min_int at h
  rcases ite_out h with ⟨h2, h⟩ | ⟨h2, h⟩
  · cases h
  · obtain ⟨x3, h4, h⟩ := bind_out h
    obtain ⟨v11, h12, h⟩ := bind_out h
    injection h with h; subst h; exact runFn_sound mixedOrders Try.func61 rfl (keep := none) (π := [.dec false, .row (c3 x3), .sum [0, 2, 3, 4] [] (.exit 0) [(2, .v (.int .i64 0)), (3, .v (.int .i64 v11))] []]) (hrun := by kernel_rfl) (hps := pc (h2) <| pc (ob3 h4) <| pc (k_slices_Min_int_L1 _ _ h12) <| pn)

theorem k_comps_Loop_L1 {a1 : Api_Net} : LoopOK Try.prog UU 0 48 (subC (codeOf Try.f18) [1, 1, 1, 1, 1, 0, 1, 0, 0]) (fun s : (List Int) × Int => match s with | (l11, v12) => comps_Loop_L1 a1 l11 v12)
    (fun s : (List Int) × Int => (match s with | (l11, v12) => [(2, .v (.int .i64 0)), (3, .v (.bool false)), (4, .v (.int .i64 (a1.domains.length : Int))), (5, .os 0 (Int.toNat (wr_i64 (2 * (a1.domains.length : Int))))), (22, .sl 40 a1.domains), (23, .v (.int .i64 (a1.domains.length : Int))), (24, .v (.int .i64 v12))] : Fr DD)) (fun s : (List Int) × Int => (match s with | (l11, v12) => [.arr 3 l11 (Int.toNat (wr_i64 (2 * (a1.domains.length : Int)))) false] : Heap DD)) (fun r => match r with | Sum.inl v25 => .ret | Sum.inr _ => .exit 0) (fun r => match r with | Sum.inl v25 => [(2, .v (.int .i64 v25)), (3, .v (.bool true))] | Sum.inr _ => [(2, .v (.int .i64 0)), (3, .v (.bool false))]) (fun r => match r with | Sum.inl v25 => [] | Sum.inr _ => []) := by
  refine loop_sound3 (fun s q h => ?_) (fun r => ?_)
  · obtain ⟨l11, v12⟩ := s; replace h : comps_Loop_L1 a1 l11 v12 = some q := h
    unfold comps_Loop_L1 at h
    rcases ite_out h with ⟨h13, h⟩ | ⟨h13, h⟩
    · obtain ⟨x14, h15, h⟩ := bind_out h
      rcases ite_out h with ⟨h16, h⟩ | ⟨h16, h⟩
      · injection h with h; subst h; exact runLp_sound mixedOrders (live := [2, 3, 4, 5, 22, 23, 24]) (ids := [0]) (π := [.dec true, .row (c40 x14), .dec true]) (hx := by kernel_rfl) (hps := pc (h13) <| pc (ob40 h15) <| pc (h16) <| pn)
      · obtain ⟨r17, h18, h⟩ := bind_out h
        obtain ⟨r19, h20, h⟩ := bind_out h
        obtain ⟨l21, v22⟩ := r19
        rcases ite_out h with ⟨h23, h⟩ | ⟨h23, h⟩
        · injection h with h; subst h; exact runLp_sound mixedOrders (live := [2, 3]) (ids := []) (π := [.dec true, .row (c40 x14), .dec false, .callv (.v (.int .i64 r17)), .callm [0] (.v (.bool v22)) [.arr 3 l21 (Int.toNat (wr_i64 (2 * (a1.domains.length : Int)))) false], .dec true]) (hx := by kernel_rfl) (hps := pc (h13) <| pc (ob40 h15) <| pc (h16) <| pc (k_slices_Min_int h18) <| pc (k_comps_forest_join_own h20) <| pc (h23) <| pn)
        · injection h with h; subst h; exact runLp_sound mixedOrders (live := [2, 3, 4, 5, 22, 23, 24]) (ids := [0]) (π := [.dec true, .row (c40 x14), .dec false, .callv (.v (.int .i64 r17)), .callm [0] (.v (.bool v22)) [.arr 3 l21 (Int.toNat (wr_i64 (2 * (a1.domains.length : Int)))) false], .dec false]) (hx := by kernel_rfl) (hps := pc (h13) <| pc (ob40 h15) <| pc (h16) <| pc (k_slices_Min_int h18) <| pc (k_comps_forest_join_own h20) <| pc (h23) <| pn)
    · injection h with h; subst h; exact runLp_sound mixedOrders (live := [2, 3]) (ids := []) (π := [.dec false]) (hx := by kernel_rfl) (hps := pc (h13) <| pn)
  · rcases r with _ | _ <;> exact Ex.noConfusion

theorem k_comps_Loop {a1 : Api_Net} {r : Int × Bool} (h : comps_Loop a1 = some r) :
    CallsOK Try.prog UU 18 [.agg (c31 a1)] [] (.tup [.v (.int .i64 r.1), .v (.bool r.2)]) [] := by
  unfold comps_Loop at h
  obtain ⟨r2, h3, h⟩ := bind_out h
  rcases ite_out h with ⟨h4, h⟩ | ⟨h4, h⟩
  · injection h with h; subst h; exact runFn_sound mixedOrders Try.func18 rfl (keep := none) (π := [.callv (.v (.bool r2)), .dec true]) (hrun := by kernel_rfl) (hps := pc (k_names_Right h3) <| pc (h4) <| pn)
  · obtain ⟨l7, h6, h⟩ := bind_out h
    obtain ⟨l10, h9, h⟩ := bind_out h
    obtain ⟨r27, h26, h⟩ := bind_out h
    rcases r27 with v25 | _
    · injection h with h; subst h; exact runFn_sound mixedOrders Try.func18 rfl (keep := none) (π := [.callv (.v (.bool r2)), .dec false, .callo (.os 0 (Int.toNat (wr_i64 (2 * (a1.domains.length : Int))))) [.arr 3 l7 (Int.toNat (wr_i64 (2 * (a1.domains.length : Int)))) false], .callm [1] (.tup []) [.arr 3 l10 (Int.toNat (wr_i64 (2 * (a1.domains.length : Int)))) false], .sum [2, 3, 4, 5, 22, 23, 24] [1] .ret [(2, .v (.int .i64 v25)), (3, .v (.bool true))] []]) (hrun := by kernel_rfl) (hps := pc (k_names_Right h3) <| pc (h4) <| pc (k_comps_alone h6) <| pc (im3 l7) <| pc (k_comps_linked_own h9) <| pc (k_comps_Loop_L1 _ _ h26) <| pn)
    · injection h with h; subst h; exact runFn_sound mixedOrders Try.func18 rfl (keep := none) (π := [.callv (.v (.bool r2)), .dec false, .callo (.os 0 (Int.toNat (wr_i64 (2 * (a1.domains.length : Int))))) [.arr 3 l7 (Int.toNat (wr_i64 (2 * (a1.domains.length : Int)))) false], .callm [1] (.tup []) [.arr 3 l10 (Int.toNat (wr_i64 (2 * (a1.domains.length : Int)))) false], .sum [2, 3, 4, 5, 22, 23, 24] [1] (.exit 0) [(2, .v (.int .i64 0)), (3, .v (.bool false))] []]) (hrun := by kernel_rfl) (hps := pc (k_names_Right h3) <| pc (h4) <| pc (k_comps_alone h6) <| pc (im3 l7) <| pc (k_comps_linked_own h9) <| pc (k_comps_Loop_L1 _ _ h26) <| pn)

theorem k_comps_forest_tops_own_L1 {n2 : Nat} {a3 : Int} : LoopOK Try.prog UU 1 19 (subC (codeOf Try.f69) [1, 1, 0, 1, 0, 0]) (fun s : (List Int) × (List Int) × Int => match s with | (l4, l5, v6) => comps_forest_tops_own_L1 n2 a3 l4 l5 v6)
    (fun s : (List Int) × (List Int) × Int => (match s with | (l4, l5, v6) => [(0, .os 0 n2), (4, .os 1 0), (5, .os 2 (List.length l5)), (7, .v (.int .i64 a3)), (8, .v (.int .i64 v6))] : Fr DD)) (fun s : (List Int) × (List Int) × Int => (match s with | (l4, l5, v6) => [.arr 3 l4 n2 false, .arr 3 [] 0 false, .arr 3 l5 (List.length l5) false] : Heap DD)) (fun r => match r with | (l17, l18) => .exit 0) (fun r => match r with | (l17, l18) => [(4, .os 1 0), (5, .os 2 (List.length l18))]) (fun r => match r with | (l17, l18) => [.arr 3 l17 n2 false, .arr 3 [] 0 false, .arr 3 l18 (List.length l18) false]) := by
  refine loop_sound3 (fun s q h => ?_) (fun r => ?_)
  · obtain ⟨l4, l5, v6⟩ := s; replace h : comps_forest_tops_own_L1 n2 a3 l4 l5 v6 = some q := h
    unfold comps_forest_tops_own_L1 at h
    rcases ite_out h with ⟨h7, h⟩ | ⟨h7, h⟩
    · obtain ⟨r8, h9, h⟩ := bind_out h
      obtain ⟨l10, v11⟩ := r8
      rcases ite_out h with ⟨h12, h⟩ | ⟨h12, h⟩
      · injection h with h; subst h; exact runLp_sound mixedOrders (live := [0, 4, 5, 7, 8]) (ids := [0, 1, 2]) (π := [.dec true, .callm [0] (.v (.int .i64 v11)) [.arr 3 l10 n2 false], .obj [] (.arr 3 [v11] (List.length [v11]) false), .obj [3] (.arr 3 (l5 ++ [v11]) (List.length (l5 ++ [v11])) false)]) (hx := by kernel_rfl) (hps := pc (h7) <| pc (k_comps_forest_top_own h9) <| pc (bs_ob 3 [v11]) <| pc (app_ob 3 (n := (List.length l5)) (l := l5) (xs := [v11]) h12) <| pc ((rfl : ((List.length [v11]) : Nat) = (List.length [v11]))) <| pn)
      · cases h
    · injection h with h; subst h; exact runLp_sound mixedOrders (live := [4, 5]) (ids := [0, 1, 2]) (π := [.dec false]) (hx := by kernel_rfl) (hps := pc (h7) <| pn)
  · exact Ex.noConfusion

theorem k_comps_forest_tops_own {a1 : List Int} {n2 : Nat} {a3 : Int} {r : ((List Int) × (List Int))} (h : comps_forest_tops_own a1 n2 a3 = some r) :
    CallsOK Try.prog UU 69 [.os 0 n2, .v (.int .i64 a3)] [.arr 3 a1 n2 false] ((fun r => match r with | (l21, l22) => .os 1 (List.length l22)) r) ((fun r => match r with | (l21, l22) => [.arr 3 l21 n2 false, .arr 3 l22 (List.length l22) false]) r) := by
  unfold comps_forest_tops_own at h
  obtain ⟨r20, h19, h⟩ := bind_out h
  obtain ⟨l17, l18⟩ := r20
  injection h with h; subst h; exact runFn_sound mixedOrders Try.func69 rfl (keep := some [0, 2]) (π := [.sum [0, 4, 5, 7, 8] [0, 1, 2] (.exit 0) [(4, .os 1 0), (5, .os 2 (List.length l18))] [.arr 3 l17 n2 false, .arr 3 [] 0 false, .arr 3 l18 (List.length l18) false]]) (hrun := by kernel_rfl) (hps := pc (k_comps_forest_tops_own_L1 _ _ h19) <| pn)

theorem k_comps_Links {a1 : Api_Net} {r : ((List Int))} (h : comps_Links a1 = some r) :
    CallsOK Try.prog UU 21 [.agg (c31 a1)] [] ((fun r => match r with | l15 => .os 0 (List.length l15)) r) ((fun r => match r with | l15 => [.arr 3 l15 (List.length l15) false]) r) := by
  unfold comps_Links at h
  obtain ⟨r2, h3, h⟩ := bind_out h
  rcases ite_out h with ⟨h4, h⟩ | ⟨h4, h⟩
  · injection h with h; subst h; exact runFn_sound mixedOrders Try.func21 rfl (keep := some [2]) (π := [.callv (.v (.bool r2)), .dec true]) (hrun := by kernel_rfl) (hps := pc (k_names_Right h3) <| pc (h4) <| pn)
  · obtain ⟨l7, h6, h⟩ := bind_out h
    obtain ⟨l10, h9, h⟩ := bind_out h
    obtain ⟨r11, h12, h⟩ := bind_out h
    obtain ⟨l13, l14⟩ := r11
    injection h with h; subst h; exact runFn_sound mixedOrders Try.func21 rfl (keep := some [3]) (π := [.callv (.v (.bool r2)), .dec false, .callo (.os 0 (Int.toNat (a1.domains.length : Int))) [.arr 3 l7 (Int.toNat (a1.domains.length : Int)) false], .callm [2] (.tup []) [.arr 3 l10 (Int.toNat (a1.domains.length : Int)) false], .callm [2] (.os 1 (List.length l14)) [.arr 3 l13 (Int.toNat (a1.domains.length : Int)) false, .arr 3 l14 (List.length l14) false]]) (hrun := by kernel_rfl) (hps := pc (k_names_Right h3) <| pc (h4) <| pc (k_comps_alone h6) <| pc (im3 l7) <| pc (k_comps_linked_own h9) <| pc ((rfl : ((Int.toNat (a1.domains.length : Int)) : Nat) = (Int.toNat (a1.domains.length : Int)))) <| pc (k_comps_forest_tops_own h12) <| pn)

theorem k_palinglaw21_works {r : Bool} (h : palinglaw21_works = some r) :
    CallsOK Try.prog UU 17 [] [] (.v (.bool r)) [] := by
  unfold palinglaw21_works at h
  obtain ⟨r1, h2, h⟩ := bind_out h
  obtain ⟨l5, h4, h⟩ := bind_out h
  rcases ite_out h with ⟨h6, h⟩ | ⟨h6, h⟩
  · rcases ite_out h with ⟨h7, h⟩ | ⟨h7, h⟩
    · rcases ite_out h with ⟨h8, h⟩ | ⟨h8, h⟩
      · rcases ite_out h with ⟨h9, h⟩ | ⟨h9, h⟩
        · obtain ⟨x10, h11, h⟩ := bind_out h
          rcases ite_out h with ⟨h12, h⟩ | ⟨h12, h⟩
          · rcases ite_out h with ⟨h13, h⟩ | ⟨h13, h⟩
            · obtain ⟨x14, h15, h⟩ := bind_out h
              injection h with h; subst h; exact runFn_sound mixedOrders Try.func17 rfl (keep := none) (π := [.obj [] (.arr 96 [(⟨0, 0, (⟨#[97]⟩ : ByteArray), 0, 1⟩ : Api_Device), (⟨0, 0, (⟨#[98]⟩ : ByteArray), 0, 2⟩ : Api_Device)] (List.length [(⟨0, 0, (⟨#[97]⟩ : ByteArray), 0, 1⟩ : Api_Device), (⟨0, 0, (⟨#[98]⟩ : ByteArray), 0, 2⟩ : Api_Device)]) false), .obj [] (.arr 60 [(⟨0, 0, 10, 0, 0, (⟨#[112]⟩ : ByteArray), []⟩ : Api_Port), (⟨0, 1, 10, 0, 0, (⟨#[112]⟩ : ByteArray), []⟩ : Api_Port)] (List.length [(⟨0, 0, 10, 0, 0, (⟨#[112]⟩ : ByteArray), []⟩ : Api_Port), (⟨0, 1, 10, 0, 0, (⟨#[112]⟩ : ByteArray), []⟩ : Api_Port)]) false), .obj [] (.arr 98 [(⟨0, 0, 1⟩ : Api_Link)] (List.length [(⟨0, 0, 1⟩ : Api_Link)]) false), .obj [] (.arr 3 [(1 : Int)] (List.length [(1 : Int)]) false), .obj [] (.arr 3 [(0 : Int)] (List.length [(0 : Int)]) false), .obj [3, 4] (.arr 40 [(⟨0, 10, 5, (-1), 3, [(1 : Int)]⟩ : Api_Domain), (⟨1, 10, 5, (-1), 4, [(0 : Int)]⟩ : Api_Domain)] (List.length [(⟨0, 10, 5, (-1), 3, [(1 : Int)]⟩ : Api_Domain), (⟨1, 10, 5, (-1), 4, [(0 : Int)]⟩ : Api_Domain)]) false), .callv (.tup [.v (.int .i64 r1.1), .v (.bool r1.2)]), .callo (.os 0 (List.length l5)) [.arr 3 l5 (List.length l5) false], .dec true, .dec true, .dec true, .row (c3 x10), .dec true, .row (c3 x14)]) (hrun := by kernel_rfl) (hps := pc (bs_ob 96 [(⟨0, 0, (⟨#[97]⟩ : ByteArray), 0, 1⟩ : Api_Device), (⟨0, 0, (⟨#[98]⟩ : ByteArray), 0, 2⟩ : Api_Device)]) <| pc (bs_ob 60 [(⟨0, 0, 10, 0, 0, (⟨#[112]⟩ : ByteArray), []⟩ : Api_Port), (⟨0, 1, 10, 0, 0, (⟨#[112]⟩ : ByteArray), []⟩ : Api_Port)]) <| pc (bs_ob 98 [(⟨0, 0, 1⟩ : Api_Link)]) <| pc (bs_ob 3 [(1 : Int)]) <| pc (bs_ob 3 [(0 : Int)]) <| pc (bs_ob 40 [(⟨0, 10, 5, (-1), 3, [(1 : Int)]⟩ : Api_Domain), (⟨1, 10, 5, (-1), 4, [(0 : Int)]⟩ : Api_Domain)]) <| pc ((rfl : ((List.length [(1 : Int)]) : Nat) = (List.length [(1 : Int)]))) <| pc ((rfl : ((List.length [(0 : Int)]) : Nat) = (List.length [(0 : Int)]))) <| pc (k_comps_Loop h2) <| pc ((rfl : ((List.length [(⟨0, 0, (⟨#[97]⟩ : ByteArray), 0, 1⟩ : Api_Device), (⟨0, 0, (⟨#[98]⟩ : ByteArray), 0, 2⟩ : Api_Device)]) : Nat) = (List.length [(⟨0, 0, (⟨#[97]⟩ : ByteArray), 0, 1⟩ : Api_Device), (⟨0, 0, (⟨#[98]⟩ : ByteArray), 0, 2⟩ : Api_Device)]))) <| pc ((rfl : ((List.length [(⟨0, 0, 10, 0, 0, (⟨#[112]⟩ : ByteArray), []⟩ : Api_Port), (⟨0, 1, 10, 0, 0, (⟨#[112]⟩ : ByteArray), []⟩ : Api_Port)]) : Nat) = (List.length [(⟨0, 0, 10, 0, 0, (⟨#[112]⟩ : ByteArray), []⟩ : Api_Port), (⟨0, 1, 10, 0, 0, (⟨#[112]⟩ : ByteArray), []⟩ : Api_Port)]))) <| pc ((rfl : ((List.length [(⟨0, 0, 1⟩ : Api_Link)]) : Nat) = (List.length [(⟨0, 0, 1⟩ : Api_Link)]))) <| pc ((rfl : ((List.length [(⟨0, 10, 5, (-1), 3, [(1 : Int)]⟩ : Api_Domain), (⟨1, 10, 5, (-1), 4, [(0 : Int)]⟩ : Api_Domain)]) : Nat) = (List.length [(⟨0, 10, 5, (-1), 3, [(1 : Int)]⟩ : Api_Domain), (⟨1, 10, 5, (-1), 4, [(0 : Int)]⟩ : Api_Domain)]))) <| pc ((rfl : (0 : Nat) = 0)) <| pc ((rfl : (0 : Nat) = 0)) <| pc ((rfl : (0 : Nat) = 0)) <| pc ((rfl : (0 : Nat) = 0)) <| pc (k_comps_Links h4) <| pc (im3 l5) <| pc ((rfl : ((List.length [(⟨0, 0, (⟨#[97]⟩ : ByteArray), 0, 1⟩ : Api_Device), (⟨0, 0, (⟨#[98]⟩ : ByteArray), 0, 2⟩ : Api_Device)]) : Nat) = (List.length [(⟨0, 0, (⟨#[97]⟩ : ByteArray), 0, 1⟩ : Api_Device), (⟨0, 0, (⟨#[98]⟩ : ByteArray), 0, 2⟩ : Api_Device)]))) <| pc ((rfl : ((List.length [(⟨0, 0, 10, 0, 0, (⟨#[112]⟩ : ByteArray), []⟩ : Api_Port), (⟨0, 1, 10, 0, 0, (⟨#[112]⟩ : ByteArray), []⟩ : Api_Port)]) : Nat) = (List.length [(⟨0, 0, 10, 0, 0, (⟨#[112]⟩ : ByteArray), []⟩ : Api_Port), (⟨0, 1, 10, 0, 0, (⟨#[112]⟩ : ByteArray), []⟩ : Api_Port)]))) <| pc ((rfl : ((List.length [(⟨0, 0, 1⟩ : Api_Link)]) : Nat) = (List.length [(⟨0, 0, 1⟩ : Api_Link)]))) <| pc ((rfl : ((List.length [(⟨0, 10, 5, (-1), 3, [(1 : Int)]⟩ : Api_Domain), (⟨1, 10, 5, (-1), 4, [(0 : Int)]⟩ : Api_Domain)]) : Nat) = (List.length [(⟨0, 10, 5, (-1), 3, [(1 : Int)]⟩ : Api_Domain), (⟨1, 10, 5, (-1), 4, [(0 : Int)]⟩ : Api_Domain)]))) <| pc ((rfl : (0 : Nat) = 0)) <| pc ((rfl : (0 : Nat) = 0)) <| pc ((rfl : (0 : Nat) = 0)) <| pc ((rfl : (0 : Nat) = 0)) <| pc (h6) <| pc (h7) <| pc ((rfl : ((List.length l5) : Nat) = (List.length l5))) <| pc (h8) <| pc (And.intro (rfl : ((List.length l5) : Nat) = (List.length l5)) (lin_ob h9)) <| pc (And.intro (rfl : ((List.length l5) : Nat) = (List.length l5)) (obn3 h11)) <| pc (h12) <| pc (And.intro (rfl : ((List.length l5) : Nat) = (List.length l5)) (lin_ob h13)) <| pc (And.intro (rfl : ((List.length l5) : Nat) = (List.length l5)) (obn3 h15)) <| pn)
            · cases h
          · injection h with h; subst h; exact runFn_sound mixedOrders Try.func17 rfl (keep := none) (π := [.obj [] (.arr 96 [(⟨0, 0, (⟨#[97]⟩ : ByteArray), 0, 1⟩ : Api_Device), (⟨0, 0, (⟨#[98]⟩ : ByteArray), 0, 2⟩ : Api_Device)] (List.length [(⟨0, 0, (⟨#[97]⟩ : ByteArray), 0, 1⟩ : Api_Device), (⟨0, 0, (⟨#[98]⟩ : ByteArray), 0, 2⟩ : Api_Device)]) false), .obj [] (.arr 60 [(⟨0, 0, 10, 0, 0, (⟨#[112]⟩ : ByteArray), []⟩ : Api_Port), (⟨0, 1, 10, 0, 0, (⟨#[112]⟩ : ByteArray), []⟩ : Api_Port)] (List.length [(⟨0, 0, 10, 0, 0, (⟨#[112]⟩ : ByteArray), []⟩ : Api_Port), (⟨0, 1, 10, 0, 0, (⟨#[112]⟩ : ByteArray), []⟩ : Api_Port)]) false), .obj [] (.arr 98 [(⟨0, 0, 1⟩ : Api_Link)] (List.length [(⟨0, 0, 1⟩ : Api_Link)]) false), .obj [] (.arr 3 [(1 : Int)] (List.length [(1 : Int)]) false), .obj [] (.arr 3 [(0 : Int)] (List.length [(0 : Int)]) false), .obj [3, 4] (.arr 40 [(⟨0, 10, 5, (-1), 3, [(1 : Int)]⟩ : Api_Domain), (⟨1, 10, 5, (-1), 4, [(0 : Int)]⟩ : Api_Domain)] (List.length [(⟨0, 10, 5, (-1), 3, [(1 : Int)]⟩ : Api_Domain), (⟨1, 10, 5, (-1), 4, [(0 : Int)]⟩ : Api_Domain)]) false), .callv (.tup [.v (.int .i64 r1.1), .v (.bool r1.2)]), .callo (.os 0 (List.length l5)) [.arr 3 l5 (List.length l5) false], .dec true, .dec true, .dec true, .row (c3 x10), .dec false]) (hrun := by kernel_rfl) (hps := pc (bs_ob 96 [(⟨0, 0, (⟨#[97]⟩ : ByteArray), 0, 1⟩ : Api_Device), (⟨0, 0, (⟨#[98]⟩ : ByteArray), 0, 2⟩ : Api_Device)]) <| pc (bs_ob 60 [(⟨0, 0, 10, 0, 0, (⟨#[112]⟩ : ByteArray), []⟩ : Api_Port), (⟨0, 1, 10, 0, 0, (⟨#[112]⟩ : ByteArray), []⟩ : Api_Port)]) <| pc (bs_ob 98 [(⟨0, 0, 1⟩ : Api_Link)]) <| pc (bs_ob 3 [(1 : Int)]) <| pc (bs_ob 3 [(0 : Int)]) <| pc (bs_ob 40 [(⟨0, 10, 5, (-1), 3, [(1 : Int)]⟩ : Api_Domain), (⟨1, 10, 5, (-1), 4, [(0 : Int)]⟩ : Api_Domain)]) <| pc ((rfl : ((List.length [(1 : Int)]) : Nat) = (List.length [(1 : Int)]))) <| pc ((rfl : ((List.length [(0 : Int)]) : Nat) = (List.length [(0 : Int)]))) <| pc (k_comps_Loop h2) <| pc ((rfl : ((List.length [(⟨0, 0, (⟨#[97]⟩ : ByteArray), 0, 1⟩ : Api_Device), (⟨0, 0, (⟨#[98]⟩ : ByteArray), 0, 2⟩ : Api_Device)]) : Nat) = (List.length [(⟨0, 0, (⟨#[97]⟩ : ByteArray), 0, 1⟩ : Api_Device), (⟨0, 0, (⟨#[98]⟩ : ByteArray), 0, 2⟩ : Api_Device)]))) <| pc ((rfl : ((List.length [(⟨0, 0, 10, 0, 0, (⟨#[112]⟩ : ByteArray), []⟩ : Api_Port), (⟨0, 1, 10, 0, 0, (⟨#[112]⟩ : ByteArray), []⟩ : Api_Port)]) : Nat) = (List.length [(⟨0, 0, 10, 0, 0, (⟨#[112]⟩ : ByteArray), []⟩ : Api_Port), (⟨0, 1, 10, 0, 0, (⟨#[112]⟩ : ByteArray), []⟩ : Api_Port)]))) <| pc ((rfl : ((List.length [(⟨0, 0, 1⟩ : Api_Link)]) : Nat) = (List.length [(⟨0, 0, 1⟩ : Api_Link)]))) <| pc ((rfl : ((List.length [(⟨0, 10, 5, (-1), 3, [(1 : Int)]⟩ : Api_Domain), (⟨1, 10, 5, (-1), 4, [(0 : Int)]⟩ : Api_Domain)]) : Nat) = (List.length [(⟨0, 10, 5, (-1), 3, [(1 : Int)]⟩ : Api_Domain), (⟨1, 10, 5, (-1), 4, [(0 : Int)]⟩ : Api_Domain)]))) <| pc ((rfl : (0 : Nat) = 0)) <| pc ((rfl : (0 : Nat) = 0)) <| pc ((rfl : (0 : Nat) = 0)) <| pc ((rfl : (0 : Nat) = 0)) <| pc (k_comps_Links h4) <| pc (im3 l5) <| pc ((rfl : ((List.length [(⟨0, 0, (⟨#[97]⟩ : ByteArray), 0, 1⟩ : Api_Device), (⟨0, 0, (⟨#[98]⟩ : ByteArray), 0, 2⟩ : Api_Device)]) : Nat) = (List.length [(⟨0, 0, (⟨#[97]⟩ : ByteArray), 0, 1⟩ : Api_Device), (⟨0, 0, (⟨#[98]⟩ : ByteArray), 0, 2⟩ : Api_Device)]))) <| pc ((rfl : ((List.length [(⟨0, 0, 10, 0, 0, (⟨#[112]⟩ : ByteArray), []⟩ : Api_Port), (⟨0, 1, 10, 0, 0, (⟨#[112]⟩ : ByteArray), []⟩ : Api_Port)]) : Nat) = (List.length [(⟨0, 0, 10, 0, 0, (⟨#[112]⟩ : ByteArray), []⟩ : Api_Port), (⟨0, 1, 10, 0, 0, (⟨#[112]⟩ : ByteArray), []⟩ : Api_Port)]))) <| pc ((rfl : ((List.length [(⟨0, 0, 1⟩ : Api_Link)]) : Nat) = (List.length [(⟨0, 0, 1⟩ : Api_Link)]))) <| pc ((rfl : ((List.length [(⟨0, 10, 5, (-1), 3, [(1 : Int)]⟩ : Api_Domain), (⟨1, 10, 5, (-1), 4, [(0 : Int)]⟩ : Api_Domain)]) : Nat) = (List.length [(⟨0, 10, 5, (-1), 3, [(1 : Int)]⟩ : Api_Domain), (⟨1, 10, 5, (-1), 4, [(0 : Int)]⟩ : Api_Domain)]))) <| pc ((rfl : (0 : Nat) = 0)) <| pc ((rfl : (0 : Nat) = 0)) <| pc ((rfl : (0 : Nat) = 0)) <| pc ((rfl : (0 : Nat) = 0)) <| pc (h6) <| pc (h7) <| pc ((rfl : ((List.length l5) : Nat) = (List.length l5))) <| pc (h8) <| pc (And.intro (rfl : ((List.length l5) : Nat) = (List.length l5)) (lin_ob h9)) <| pc (And.intro (rfl : ((List.length l5) : Nat) = (List.length l5)) (obn3 h11)) <| pc (h12) <| pn)
        · cases h
      · injection h with h; subst h; exact runFn_sound mixedOrders Try.func17 rfl (keep := none) (π := [.obj [] (.arr 96 [(⟨0, 0, (⟨#[97]⟩ : ByteArray), 0, 1⟩ : Api_Device), (⟨0, 0, (⟨#[98]⟩ : ByteArray), 0, 2⟩ : Api_Device)] (List.length [(⟨0, 0, (⟨#[97]⟩ : ByteArray), 0, 1⟩ : Api_Device), (⟨0, 0, (⟨#[98]⟩ : ByteArray), 0, 2⟩ : Api_Device)]) false), .obj [] (.arr 60 [(⟨0, 0, 10, 0, 0, (⟨#[112]⟩ : ByteArray), []⟩ : Api_Port), (⟨0, 1, 10, 0, 0, (⟨#[112]⟩ : ByteArray), []⟩ : Api_Port)] (List.length [(⟨0, 0, 10, 0, 0, (⟨#[112]⟩ : ByteArray), []⟩ : Api_Port), (⟨0, 1, 10, 0, 0, (⟨#[112]⟩ : ByteArray), []⟩ : Api_Port)]) false), .obj [] (.arr 98 [(⟨0, 0, 1⟩ : Api_Link)] (List.length [(⟨0, 0, 1⟩ : Api_Link)]) false), .obj [] (.arr 3 [(1 : Int)] (List.length [(1 : Int)]) false), .obj [] (.arr 3 [(0 : Int)] (List.length [(0 : Int)]) false), .obj [3, 4] (.arr 40 [(⟨0, 10, 5, (-1), 3, [(1 : Int)]⟩ : Api_Domain), (⟨1, 10, 5, (-1), 4, [(0 : Int)]⟩ : Api_Domain)] (List.length [(⟨0, 10, 5, (-1), 3, [(1 : Int)]⟩ : Api_Domain), (⟨1, 10, 5, (-1), 4, [(0 : Int)]⟩ : Api_Domain)]) false), .callv (.tup [.v (.int .i64 r1.1), .v (.bool r1.2)]), .callo (.os 0 (List.length l5)) [.arr 3 l5 (List.length l5) false], .dec true, .dec true, .dec false]) (hrun := by kernel_rfl) (hps := pc (bs_ob 96 [(⟨0, 0, (⟨#[97]⟩ : ByteArray), 0, 1⟩ : Api_Device), (⟨0, 0, (⟨#[98]⟩ : ByteArray), 0, 2⟩ : Api_Device)]) <| pc (bs_ob 60 [(⟨0, 0, 10, 0, 0, (⟨#[112]⟩ : ByteArray), []⟩ : Api_Port), (⟨0, 1, 10, 0, 0, (⟨#[112]⟩ : ByteArray), []⟩ : Api_Port)]) <| pc (bs_ob 98 [(⟨0, 0, 1⟩ : Api_Link)]) <| pc (bs_ob 3 [(1 : Int)]) <| pc (bs_ob 3 [(0 : Int)]) <| pc (bs_ob 40 [(⟨0, 10, 5, (-1), 3, [(1 : Int)]⟩ : Api_Domain), (⟨1, 10, 5, (-1), 4, [(0 : Int)]⟩ : Api_Domain)]) <| pc ((rfl : ((List.length [(1 : Int)]) : Nat) = (List.length [(1 : Int)]))) <| pc ((rfl : ((List.length [(0 : Int)]) : Nat) = (List.length [(0 : Int)]))) <| pc (k_comps_Loop h2) <| pc ((rfl : ((List.length [(⟨0, 0, (⟨#[97]⟩ : ByteArray), 0, 1⟩ : Api_Device), (⟨0, 0, (⟨#[98]⟩ : ByteArray), 0, 2⟩ : Api_Device)]) : Nat) = (List.length [(⟨0, 0, (⟨#[97]⟩ : ByteArray), 0, 1⟩ : Api_Device), (⟨0, 0, (⟨#[98]⟩ : ByteArray), 0, 2⟩ : Api_Device)]))) <| pc ((rfl : ((List.length [(⟨0, 0, 10, 0, 0, (⟨#[112]⟩ : ByteArray), []⟩ : Api_Port), (⟨0, 1, 10, 0, 0, (⟨#[112]⟩ : ByteArray), []⟩ : Api_Port)]) : Nat) = (List.length [(⟨0, 0, 10, 0, 0, (⟨#[112]⟩ : ByteArray), []⟩ : Api_Port), (⟨0, 1, 10, 0, 0, (⟨#[112]⟩ : ByteArray), []⟩ : Api_Port)]))) <| pc ((rfl : ((List.length [(⟨0, 0, 1⟩ : Api_Link)]) : Nat) = (List.length [(⟨0, 0, 1⟩ : Api_Link)]))) <| pc ((rfl : ((List.length [(⟨0, 10, 5, (-1), 3, [(1 : Int)]⟩ : Api_Domain), (⟨1, 10, 5, (-1), 4, [(0 : Int)]⟩ : Api_Domain)]) : Nat) = (List.length [(⟨0, 10, 5, (-1), 3, [(1 : Int)]⟩ : Api_Domain), (⟨1, 10, 5, (-1), 4, [(0 : Int)]⟩ : Api_Domain)]))) <| pc ((rfl : (0 : Nat) = 0)) <| pc ((rfl : (0 : Nat) = 0)) <| pc ((rfl : (0 : Nat) = 0)) <| pc ((rfl : (0 : Nat) = 0)) <| pc (k_comps_Links h4) <| pc (im3 l5) <| pc ((rfl : ((List.length [(⟨0, 0, (⟨#[97]⟩ : ByteArray), 0, 1⟩ : Api_Device), (⟨0, 0, (⟨#[98]⟩ : ByteArray), 0, 2⟩ : Api_Device)]) : Nat) = (List.length [(⟨0, 0, (⟨#[97]⟩ : ByteArray), 0, 1⟩ : Api_Device), (⟨0, 0, (⟨#[98]⟩ : ByteArray), 0, 2⟩ : Api_Device)]))) <| pc ((rfl : ((List.length [(⟨0, 0, 10, 0, 0, (⟨#[112]⟩ : ByteArray), []⟩ : Api_Port), (⟨0, 1, 10, 0, 0, (⟨#[112]⟩ : ByteArray), []⟩ : Api_Port)]) : Nat) = (List.length [(⟨0, 0, 10, 0, 0, (⟨#[112]⟩ : ByteArray), []⟩ : Api_Port), (⟨0, 1, 10, 0, 0, (⟨#[112]⟩ : ByteArray), []⟩ : Api_Port)]))) <| pc ((rfl : ((List.length [(⟨0, 0, 1⟩ : Api_Link)]) : Nat) = (List.length [(⟨0, 0, 1⟩ : Api_Link)]))) <| pc ((rfl : ((List.length [(⟨0, 10, 5, (-1), 3, [(1 : Int)]⟩ : Api_Domain), (⟨1, 10, 5, (-1), 4, [(0 : Int)]⟩ : Api_Domain)]) : Nat) = (List.length [(⟨0, 10, 5, (-1), 3, [(1 : Int)]⟩ : Api_Domain), (⟨1, 10, 5, (-1), 4, [(0 : Int)]⟩ : Api_Domain)]))) <| pc ((rfl : (0 : Nat) = 0)) <| pc ((rfl : (0 : Nat) = 0)) <| pc ((rfl : (0 : Nat) = 0)) <| pc ((rfl : (0 : Nat) = 0)) <| pc (h6) <| pc (h7) <| pc ((rfl : ((List.length l5) : Nat) = (List.length l5))) <| pc (h8) <| pn)
    · injection h with h; subst h; exact runFn_sound mixedOrders Try.func17 rfl (keep := none) (π := [.obj [] (.arr 96 [(⟨0, 0, (⟨#[97]⟩ : ByteArray), 0, 1⟩ : Api_Device), (⟨0, 0, (⟨#[98]⟩ : ByteArray), 0, 2⟩ : Api_Device)] (List.length [(⟨0, 0, (⟨#[97]⟩ : ByteArray), 0, 1⟩ : Api_Device), (⟨0, 0, (⟨#[98]⟩ : ByteArray), 0, 2⟩ : Api_Device)]) false), .obj [] (.arr 60 [(⟨0, 0, 10, 0, 0, (⟨#[112]⟩ : ByteArray), []⟩ : Api_Port), (⟨0, 1, 10, 0, 0, (⟨#[112]⟩ : ByteArray), []⟩ : Api_Port)] (List.length [(⟨0, 0, 10, 0, 0, (⟨#[112]⟩ : ByteArray), []⟩ : Api_Port), (⟨0, 1, 10, 0, 0, (⟨#[112]⟩ : ByteArray), []⟩ : Api_Port)]) false), .obj [] (.arr 98 [(⟨0, 0, 1⟩ : Api_Link)] (List.length [(⟨0, 0, 1⟩ : Api_Link)]) false), .obj [] (.arr 3 [(1 : Int)] (List.length [(1 : Int)]) false), .obj [] (.arr 3 [(0 : Int)] (List.length [(0 : Int)]) false), .obj [3, 4] (.arr 40 [(⟨0, 10, 5, (-1), 3, [(1 : Int)]⟩ : Api_Domain), (⟨1, 10, 5, (-1), 4, [(0 : Int)]⟩ : Api_Domain)] (List.length [(⟨0, 10, 5, (-1), 3, [(1 : Int)]⟩ : Api_Domain), (⟨1, 10, 5, (-1), 4, [(0 : Int)]⟩ : Api_Domain)]) false), .callv (.tup [.v (.int .i64 r1.1), .v (.bool r1.2)]), .callo (.os 0 (List.length l5)) [.arr 3 l5 (List.length l5) false], .dec true, .dec false]) (hrun := by kernel_rfl) (hps := pc (bs_ob 96 [(⟨0, 0, (⟨#[97]⟩ : ByteArray), 0, 1⟩ : Api_Device), (⟨0, 0, (⟨#[98]⟩ : ByteArray), 0, 2⟩ : Api_Device)]) <| pc (bs_ob 60 [(⟨0, 0, 10, 0, 0, (⟨#[112]⟩ : ByteArray), []⟩ : Api_Port), (⟨0, 1, 10, 0, 0, (⟨#[112]⟩ : ByteArray), []⟩ : Api_Port)]) <| pc (bs_ob 98 [(⟨0, 0, 1⟩ : Api_Link)]) <| pc (bs_ob 3 [(1 : Int)]) <| pc (bs_ob 3 [(0 : Int)]) <| pc (bs_ob 40 [(⟨0, 10, 5, (-1), 3, [(1 : Int)]⟩ : Api_Domain), (⟨1, 10, 5, (-1), 4, [(0 : Int)]⟩ : Api_Domain)]) <| pc ((rfl : ((List.length [(1 : Int)]) : Nat) = (List.length [(1 : Int)]))) <| pc ((rfl : ((List.length [(0 : Int)]) : Nat) = (List.length [(0 : Int)]))) <| pc (k_comps_Loop h2) <| pc ((rfl : ((List.length [(⟨0, 0, (⟨#[97]⟩ : ByteArray), 0, 1⟩ : Api_Device), (⟨0, 0, (⟨#[98]⟩ : ByteArray), 0, 2⟩ : Api_Device)]) : Nat) = (List.length [(⟨0, 0, (⟨#[97]⟩ : ByteArray), 0, 1⟩ : Api_Device), (⟨0, 0, (⟨#[98]⟩ : ByteArray), 0, 2⟩ : Api_Device)]))) <| pc ((rfl : ((List.length [(⟨0, 0, 10, 0, 0, (⟨#[112]⟩ : ByteArray), []⟩ : Api_Port), (⟨0, 1, 10, 0, 0, (⟨#[112]⟩ : ByteArray), []⟩ : Api_Port)]) : Nat) = (List.length [(⟨0, 0, 10, 0, 0, (⟨#[112]⟩ : ByteArray), []⟩ : Api_Port), (⟨0, 1, 10, 0, 0, (⟨#[112]⟩ : ByteArray), []⟩ : Api_Port)]))) <| pc ((rfl : ((List.length [(⟨0, 0, 1⟩ : Api_Link)]) : Nat) = (List.length [(⟨0, 0, 1⟩ : Api_Link)]))) <| pc ((rfl : ((List.length [(⟨0, 10, 5, (-1), 3, [(1 : Int)]⟩ : Api_Domain), (⟨1, 10, 5, (-1), 4, [(0 : Int)]⟩ : Api_Domain)]) : Nat) = (List.length [(⟨0, 10, 5, (-1), 3, [(1 : Int)]⟩ : Api_Domain), (⟨1, 10, 5, (-1), 4, [(0 : Int)]⟩ : Api_Domain)]))) <| pc ((rfl : (0 : Nat) = 0)) <| pc ((rfl : (0 : Nat) = 0)) <| pc ((rfl : (0 : Nat) = 0)) <| pc ((rfl : (0 : Nat) = 0)) <| pc (k_comps_Links h4) <| pc (im3 l5) <| pc ((rfl : ((List.length [(⟨0, 0, (⟨#[97]⟩ : ByteArray), 0, 1⟩ : Api_Device), (⟨0, 0, (⟨#[98]⟩ : ByteArray), 0, 2⟩ : Api_Device)]) : Nat) = (List.length [(⟨0, 0, (⟨#[97]⟩ : ByteArray), 0, 1⟩ : Api_Device), (⟨0, 0, (⟨#[98]⟩ : ByteArray), 0, 2⟩ : Api_Device)]))) <| pc ((rfl : ((List.length [(⟨0, 0, 10, 0, 0, (⟨#[112]⟩ : ByteArray), []⟩ : Api_Port), (⟨0, 1, 10, 0, 0, (⟨#[112]⟩ : ByteArray), []⟩ : Api_Port)]) : Nat) = (List.length [(⟨0, 0, 10, 0, 0, (⟨#[112]⟩ : ByteArray), []⟩ : Api_Port), (⟨0, 1, 10, 0, 0, (⟨#[112]⟩ : ByteArray), []⟩ : Api_Port)]))) <| pc ((rfl : ((List.length [(⟨0, 0, 1⟩ : Api_Link)]) : Nat) = (List.length [(⟨0, 0, 1⟩ : Api_Link)]))) <| pc ((rfl : ((List.length [(⟨0, 10, 5, (-1), 3, [(1 : Int)]⟩ : Api_Domain), (⟨1, 10, 5, (-1), 4, [(0 : Int)]⟩ : Api_Domain)]) : Nat) = (List.length [(⟨0, 10, 5, (-1), 3, [(1 : Int)]⟩ : Api_Domain), (⟨1, 10, 5, (-1), 4, [(0 : Int)]⟩ : Api_Domain)]))) <| pc ((rfl : (0 : Nat) = 0)) <| pc ((rfl : (0 : Nat) = 0)) <| pc ((rfl : (0 : Nat) = 0)) <| pc ((rfl : (0 : Nat) = 0)) <| pc (h6) <| pc (h7) <| pn)
  · injection h with h; subst h; exact runFn_sound mixedOrders Try.func17 rfl (keep := none) (π := [.obj [] (.arr 96 [(⟨0, 0, (⟨#[97]⟩ : ByteArray), 0, 1⟩ : Api_Device), (⟨0, 0, (⟨#[98]⟩ : ByteArray), 0, 2⟩ : Api_Device)] (List.length [(⟨0, 0, (⟨#[97]⟩ : ByteArray), 0, 1⟩ : Api_Device), (⟨0, 0, (⟨#[98]⟩ : ByteArray), 0, 2⟩ : Api_Device)]) false), .obj [] (.arr 60 [(⟨0, 0, 10, 0, 0, (⟨#[112]⟩ : ByteArray), []⟩ : Api_Port), (⟨0, 1, 10, 0, 0, (⟨#[112]⟩ : ByteArray), []⟩ : Api_Port)] (List.length [(⟨0, 0, 10, 0, 0, (⟨#[112]⟩ : ByteArray), []⟩ : Api_Port), (⟨0, 1, 10, 0, 0, (⟨#[112]⟩ : ByteArray), []⟩ : Api_Port)]) false), .obj [] (.arr 98 [(⟨0, 0, 1⟩ : Api_Link)] (List.length [(⟨0, 0, 1⟩ : Api_Link)]) false), .obj [] (.arr 3 [(1 : Int)] (List.length [(1 : Int)]) false), .obj [] (.arr 3 [(0 : Int)] (List.length [(0 : Int)]) false), .obj [3, 4] (.arr 40 [(⟨0, 10, 5, (-1), 3, [(1 : Int)]⟩ : Api_Domain), (⟨1, 10, 5, (-1), 4, [(0 : Int)]⟩ : Api_Domain)] (List.length [(⟨0, 10, 5, (-1), 3, [(1 : Int)]⟩ : Api_Domain), (⟨1, 10, 5, (-1), 4, [(0 : Int)]⟩ : Api_Domain)]) false), .callv (.tup [.v (.int .i64 r1.1), .v (.bool r1.2)]), .callo (.os 0 (List.length l5)) [.arr 3 l5 (List.length l5) false], .dec false]) (hrun := by kernel_rfl) (hps := pc (bs_ob 96 [(⟨0, 0, (⟨#[97]⟩ : ByteArray), 0, 1⟩ : Api_Device), (⟨0, 0, (⟨#[98]⟩ : ByteArray), 0, 2⟩ : Api_Device)]) <| pc (bs_ob 60 [(⟨0, 0, 10, 0, 0, (⟨#[112]⟩ : ByteArray), []⟩ : Api_Port), (⟨0, 1, 10, 0, 0, (⟨#[112]⟩ : ByteArray), []⟩ : Api_Port)]) <| pc (bs_ob 98 [(⟨0, 0, 1⟩ : Api_Link)]) <| pc (bs_ob 3 [(1 : Int)]) <| pc (bs_ob 3 [(0 : Int)]) <| pc (bs_ob 40 [(⟨0, 10, 5, (-1), 3, [(1 : Int)]⟩ : Api_Domain), (⟨1, 10, 5, (-1), 4, [(0 : Int)]⟩ : Api_Domain)]) <| pc ((rfl : ((List.length [(1 : Int)]) : Nat) = (List.length [(1 : Int)]))) <| pc ((rfl : ((List.length [(0 : Int)]) : Nat) = (List.length [(0 : Int)]))) <| pc (k_comps_Loop h2) <| pc ((rfl : ((List.length [(⟨0, 0, (⟨#[97]⟩ : ByteArray), 0, 1⟩ : Api_Device), (⟨0, 0, (⟨#[98]⟩ : ByteArray), 0, 2⟩ : Api_Device)]) : Nat) = (List.length [(⟨0, 0, (⟨#[97]⟩ : ByteArray), 0, 1⟩ : Api_Device), (⟨0, 0, (⟨#[98]⟩ : ByteArray), 0, 2⟩ : Api_Device)]))) <| pc ((rfl : ((List.length [(⟨0, 0, 10, 0, 0, (⟨#[112]⟩ : ByteArray), []⟩ : Api_Port), (⟨0, 1, 10, 0, 0, (⟨#[112]⟩ : ByteArray), []⟩ : Api_Port)]) : Nat) = (List.length [(⟨0, 0, 10, 0, 0, (⟨#[112]⟩ : ByteArray), []⟩ : Api_Port), (⟨0, 1, 10, 0, 0, (⟨#[112]⟩ : ByteArray), []⟩ : Api_Port)]))) <| pc ((rfl : ((List.length [(⟨0, 0, 1⟩ : Api_Link)]) : Nat) = (List.length [(⟨0, 0, 1⟩ : Api_Link)]))) <| pc ((rfl : ((List.length [(⟨0, 10, 5, (-1), 3, [(1 : Int)]⟩ : Api_Domain), (⟨1, 10, 5, (-1), 4, [(0 : Int)]⟩ : Api_Domain)]) : Nat) = (List.length [(⟨0, 10, 5, (-1), 3, [(1 : Int)]⟩ : Api_Domain), (⟨1, 10, 5, (-1), 4, [(0 : Int)]⟩ : Api_Domain)]))) <| pc ((rfl : (0 : Nat) = 0)) <| pc ((rfl : (0 : Nat) = 0)) <| pc ((rfl : (0 : Nat) = 0)) <| pc ((rfl : (0 : Nat) = 0)) <| pc (k_comps_Links h4) <| pc (im3 l5) <| pc ((rfl : ((List.length [(⟨0, 0, (⟨#[97]⟩ : ByteArray), 0, 1⟩ : Api_Device), (⟨0, 0, (⟨#[98]⟩ : ByteArray), 0, 2⟩ : Api_Device)]) : Nat) = (List.length [(⟨0, 0, (⟨#[97]⟩ : ByteArray), 0, 1⟩ : Api_Device), (⟨0, 0, (⟨#[98]⟩ : ByteArray), 0, 2⟩ : Api_Device)]))) <| pc ((rfl : ((List.length [(⟨0, 0, 10, 0, 0, (⟨#[112]⟩ : ByteArray), []⟩ : Api_Port), (⟨0, 1, 10, 0, 0, (⟨#[112]⟩ : ByteArray), []⟩ : Api_Port)]) : Nat) = (List.length [(⟨0, 0, 10, 0, 0, (⟨#[112]⟩ : ByteArray), []⟩ : Api_Port), (⟨0, 1, 10, 0, 0, (⟨#[112]⟩ : ByteArray), []⟩ : Api_Port)]))) <| pc ((rfl : ((List.length [(⟨0, 0, 1⟩ : Api_Link)]) : Nat) = (List.length [(⟨0, 0, 1⟩ : Api_Link)]))) <| pc ((rfl : ((List.length [(⟨0, 10, 5, (-1), 3, [(1 : Int)]⟩ : Api_Domain), (⟨1, 10, 5, (-1), 4, [(0 : Int)]⟩ : Api_Domain)]) : Nat) = (List.length [(⟨0, 10, 5, (-1), 3, [(1 : Int)]⟩ : Api_Domain), (⟨1, 10, 5, (-1), 4, [(0 : Int)]⟩ : Api_Domain)]))) <| pc ((rfl : (0 : Nat) = 0)) <| pc ((rfl : (0 : Nat) = 0)) <| pc ((rfl : (0 : Nat) = 0)) <| pc ((rfl : (0 : Nat) = 0)) <| pc (h6) <| pn)

theorem k_palingref15_Place {a1 : Int} {a2 : Int} {r : Bool} (h : palingref15_Place a1 a2 = some r) :
    CallsOK Try.prog UU 105 [.v (.int .i64 a1), .v (.int .i64 a2)] [] (.v (.bool r)) [] := by
  unfold palingref15_Place at h
  rcases ite_out h with ⟨h3, h⟩ | ⟨h3, h⟩
  · injection h with h; subst h; exact runFn_sound mixedOrders Try.func105 rfl (keep := none) (π := [.dec true]) (hrun := by kernel_rfl) (hps := pc (h3) <| pn)
  · injection h with h; subst h; exact runFn_sound mixedOrders Try.func105 rfl (keep := none) (π := [.dec false]) (hrun := by kernel_rfl) (hps := pc (h3) <| pn)

theorem k_palingref15_At_L1 {a1 : Api_Net} {a2 : Int} {a3 : Int} : LoopOK Try.prog UU 0 34 (subC (codeOf Try.f117) [1, 0, 1, 0, 0]) (ρ := Int ⊕ Unit) (palingref15_At_L1 a1 a2 a3)
    (fun v4 : Int => ([(1, .v (.int .i64 a2)), (2, .v (.int .i64 a3)), (3, .op 0 1 0 0), (6, .v (.int .i64 0)), (7, .v (.int .i64 v4))] : Fr DD)) (fun v4 : Int => ([.box 31 (c31 a1) false] : Heap DD)) (fun r => match r with | Sum.inl v13 => .ret | Sum.inr _ => .exit 0) (fun r => match r with | Sum.inl v13 => [(6, .v (.int .i64 v13))] | Sum.inr _ => [(6, .v (.int .i64 0))]) (fun r => match r with | Sum.inl v13 => [] | Sum.inr _ => []) := by
  refine loop_sound3 (fun s q h => ?_) (fun r => ?_)
  · replace h : palingref15_At_L1 a1 a2 a3 s = some q := h; revert h; revert s; intro v4 h
    unfold palingref15_At_L1 at h
    rcases ite_out h with ⟨h5, h⟩ | ⟨h5, h⟩
    · obtain ⟨x6, h7, h⟩ := bind_out h
      rcases ite_out h with ⟨h8, h⟩ | ⟨h8, h⟩
      · obtain ⟨x9, h10, h⟩ := bind_out h
        rcases ite_out h with ⟨h11, h⟩ | ⟨h11, h⟩
        · injection h with h; subst h; exact runLp_sound mixedOrders (live := [6]) (ids := []) (π := [.dec true, .row (c40 x6), .dec true, .row (c40 x9), .dec true]) (hx := by kernel_rfl) (hps := pc (h5) <| pc (ob40 h7) <| pc (h8) <| pc (ob40 h10) <| pc (h11) <| pn)
        · injection h with h; subst h; exact runLp_sound mixedOrders (live := [1, 2, 3, 6, 7]) (ids := [0]) (π := [.dec true, .row (c40 x6), .dec true, .row (c40 x9), .dec false]) (hx := by kernel_rfl) (hps := pc (h5) <| pc (ob40 h7) <| pc (h8) <| pc (ob40 h10) <| pc (h11) <| pn)
      · injection h with h; subst h; exact runLp_sound mixedOrders (live := [1, 2, 3, 6, 7]) (ids := [0]) (π := [.dec true, .row (c40 x6), .dec false]) (hx := by kernel_rfl) (hps := pc (h5) <| pc (ob40 h7) <| pc (h8) <| pn)
    · injection h with h; subst h; exact runLp_sound mixedOrders (live := [6]) (ids := []) (π := [.dec false]) (hx := by kernel_rfl) (hps := pc (h5) <| pn)
  · rcases r with _ | _ <;> exact Ex.noConfusion

theorem k_palingref15_At {a1 : Api_Net} {a2 : Int} {a3 : Int} {r : Int} (h : palingref15_At a1 a2 a3 = some r) :
    CallsOK Try.prog UU 117 [.agg (c31 a1), .v (.int .i64 a2), .v (.int .i64 a3)] [] (.v (.int .i64 r)) [] := by
  unfold palingref15_At at h
  obtain ⟨r15, h14, h⟩ := bind_out h
  rcases r15 with v13 | _
  · injection h with h; subst h; exact runFn_sound mixedOrders Try.func117 rfl (keep := none) (π := [.sum [1, 2, 3, 6, 7] [0] .ret [(6, .v (.int .i64 v13))] []]) (hrun := by kernel_rfl) (hps := pc (k_palingref15_At_L1 _ _ h14) <| pn)
  · injection h with h; subst h; exact runFn_sound mixedOrders Try.func117 rfl (keep := none) (π := [.sum [1, 2, 3, 6, 7] [0] (.exit 0) [(6, .v (.int .i64 0))] []]) (hrun := by kernel_rfl) (hps := pc (k_palingref15_At_L1 _ _ h14) <| pn)

theorem k_palingref15_In_L1 {a1 : List Int} {a2 : Int} : LoopOK Try.prog UU 0 18 (subC (codeOf Try.f109) [1, 0, 1, 0, 0]) (ρ := Unit ⊕ Unit) (palingref15_In_L1 a1 a2)
    (fun v3 : Int => ([(0, .sl 3 a1), (1, .v (.int .i64 a2)), (4, .v (.bool false)), (5, .v (.int .i64 v3))] : Fr DD)) (fun v3 : Int => ([] : Heap DD)) (fun r => match r with | Sum.inl _ => .ret | Sum.inr _ => .exit 0) (fun r => match r with | Sum.inl _ => [(4, .v (.bool true))] | Sum.inr _ => [(4, .v (.bool false))]) (fun r => match r with | Sum.inl _ => [] | Sum.inr _ => []) := by
  refine loop_sound3 (fun s q h => ?_) (fun r => ?_)
  · replace h : palingref15_In_L1 a1 a2 s = some q := h; revert h; revert s; intro v3 h
    unfold palingref15_In_L1 at h
    rcases ite_out h with ⟨h4, h⟩ | ⟨h4, h⟩
    · obtain ⟨x5, h6, h⟩ := bind_out h
      rcases ite_out h with ⟨h7, h⟩ | ⟨h7, h⟩
      · injection h with h; subst h; exact runLp_sound mixedOrders (live := [4]) (ids := []) (π := [.dec true, .row (c3 x5), .dec true]) (hx := by kernel_rfl) (hps := pc (h4) <| pc (ob3 h6) <| pc (h7) <| pn)
      · injection h with h; subst h; exact runLp_sound mixedOrders (live := [0, 1, 4, 5]) (ids := []) (π := [.dec true, .row (c3 x5), .dec false]) (hx := by kernel_rfl) (hps := pc (h4) <| pc (ob3 h6) <| pc (h7) <| pn)
    · injection h with h; subst h; exact runLp_sound mixedOrders (live := [4]) (ids := []) (π := [.dec false]) (hx := by kernel_rfl) (hps := pc (h4) <| pn)
  · rcases r with _ | _ <;> exact Ex.noConfusion

theorem k_palingref15_In {a1 : List Int} {a2 : Int} {r : Bool} (h : palingref15_In a1 a2 = some r) :
    CallsOK Try.prog UU 109 [.sl 3 a1, .v (.int .i64 a2)] [] (.v (.bool r)) [] := by
  unfold palingref15_In at h
  obtain ⟨r9, h8, h⟩ := bind_out h
  rcases r9 with _ | _
  · injection h with h; subst h; exact runFn_sound mixedOrders Try.func109 rfl (keep := none) (π := [.sum [0, 1, 4, 5] [] .ret [(4, .v (.bool true))] []]) (hrun := by kernel_rfl) (hps := pc (k_palingref15_In_L1 _ _ h8) <| pn)
  · injection h with h; subst h; exact runFn_sound mixedOrders Try.func109 rfl (keep := none) (π := [.sum [0, 1, 4, 5] [] (.exit 0) [(4, .v (.bool false))] []]) (hrun := by kernel_rfl) (hps := pc (k_palingref15_In_L1 _ _ h8) <| pn)

theorem k_palingref15_peer {a1 : Api_Net} {a2 : Int} {a3 : Int} {r : Bool} (h : palingref15_peer a1 a2 a3 = some r) :
    CallsOK Try.prog UU 121 [.agg (c31 a1), .v (.int .i64 a2), .v (.int .i64 a3)] [] (.v (.bool r)) [] := by
  unfold palingref15_peer at h
  obtain ⟨r4, h5, h⟩ := bind_out h
  rcases ite_out h with ⟨h6, h⟩ | ⟨h6, h⟩
  · injection h with h; subst h; exact runFn_sound mixedOrders Try.func121 rfl (keep := none) (π := [.callv (.v (.bool r4)), .dec true]) (hrun := by kernel_rfl) (hps := pc (k_palingref15_Place h5) <| pc (h6) <| pn)
  · rcases ite_out h with ⟨h7, h⟩ | ⟨h7, h⟩
    · injection h with h; subst h; exact runFn_sound mixedOrders Try.func121 rfl (keep := none) (π := [.callv (.v (.bool r4)), .dec false, .dec true]) (hrun := by kernel_rfl) (hps := pc (k_palingref15_Place h5) <| pc (h6) <| pc (h7) <| pn)
    · obtain ⟨x8, h9, h⟩ := bind_out h
      obtain ⟨x10, h11, h⟩ := bind_out h
      rcases ite_out h with ⟨h12, h⟩ | ⟨h12, h⟩
      · rcases ite_out h with ⟨h13, h⟩ | ⟨h13, h⟩
        · rcases ite_out h with ⟨h14, h⟩ | ⟨h14, h⟩
          · obtain ⟨x15, h16, h⟩ := bind_out h
            rcases ite_out h with ⟨h17, h⟩ | ⟨h17, h⟩
            · obtain ⟨x18, h19, h⟩ := bind_out h
              rcases ite_out h with ⟨h20, h⟩ | ⟨h20, h⟩
              · obtain ⟨r21, h22, h⟩ := bind_out h
                injection h with h; subst h; exact runFn_sound mixedOrders Try.func121 rfl (keep := none) (π := [.callv (.v (.bool r4)), .dec false, .dec false, .row (c40 x8), .row (c40 x10), .dec true, .dec true, .dec true, .row (c96 x15), .dec true, .row (c96 x18), .dec true, .callv (.v (.bool r21))]) (hrun := by kernel_rfl) (hps := pc (k_palingref15_Place h5) <| pc (h6) <| pc (h7) <| pc (ob40 h9) <| pc (ob40 h11) <| pc (h12) <| pc (h13) <| pc (h14) <| pc (ob96 h16) <| pc (h17) <| pc (ob96 h19) <| pc (h20) <| pc (k_palingref15_In h22) <| pn)
              · injection h with h; subst h; exact runFn_sound mixedOrders Try.func121 rfl (keep := none) (π := [.callv (.v (.bool r4)), .dec false, .dec false, .row (c40 x8), .row (c40 x10), .dec true, .dec true, .dec true, .row (c96 x15), .dec true, .row (c96 x18), .dec false]) (hrun := by kernel_rfl) (hps := pc (k_palingref15_Place h5) <| pc (h6) <| pc (h7) <| pc (ob40 h9) <| pc (ob40 h11) <| pc (h12) <| pc (h13) <| pc (h14) <| pc (ob96 h16) <| pc (h17) <| pc (ob96 h19) <| pc (h20) <| pn)
            · injection h with h; subst h; exact runFn_sound mixedOrders Try.func121 rfl (keep := none) (π := [.callv (.v (.bool r4)), .dec false, .dec false, .row (c40 x8), .row (c40 x10), .dec true, .dec true, .dec true, .row (c96 x15), .dec false]) (hrun := by kernel_rfl) (hps := pc (k_palingref15_Place h5) <| pc (h6) <| pc (h7) <| pc (ob40 h9) <| pc (ob40 h11) <| pc (h12) <| pc (h13) <| pc (h14) <| pc (ob96 h16) <| pc (h17) <| pn)
          · injection h with h; subst h; exact runFn_sound mixedOrders Try.func121 rfl (keep := none) (π := [.callv (.v (.bool r4)), .dec false, .dec false, .row (c40 x8), .row (c40 x10), .dec true, .dec true, .dec false]) (hrun := by kernel_rfl) (hps := pc (k_palingref15_Place h5) <| pc (h6) <| pc (h7) <| pc (ob40 h9) <| pc (ob40 h11) <| pc (h12) <| pc (h13) <| pc (h14) <| pn)
        · injection h with h; subst h; exact runFn_sound mixedOrders Try.func121 rfl (keep := none) (π := [.callv (.v (.bool r4)), .dec false, .dec false, .row (c40 x8), .row (c40 x10), .dec true, .dec false]) (hrun := by kernel_rfl) (hps := pc (k_palingref15_Place h5) <| pc (h6) <| pc (h7) <| pc (ob40 h9) <| pc (ob40 h11) <| pc (h12) <| pc (h13) <| pn)
      · injection h with h; subst h; exact runFn_sound mixedOrders Try.func121 rfl (keep := none) (π := [.callv (.v (.bool r4)), .dec false, .dec false, .row (c40 x8), .row (c40 x10), .dec false]) (hrun := by kernel_rfl) (hps := pc (k_palingref15_Place h5) <| pc (h6) <| pc (h7) <| pc (ob40 h9) <| pc (ob40 h11) <| pc (h12) <| pn)

theorem k_palingref15_domains_L1 {a1 : Api_Net} : LoopOK Try.prog UU 0 120 (subC (codeOf Try.f63) [1, 0, 1, 0, 0]) (ρ := Unit ⊕ Unit) (palingref15_domains_L1 a1)
    (fun v2 : Int => ([(1, .op 0 1 0 0), (2, .v (.bool false)), (3, .v (.int .i64 v2))] : Fr DD)) (fun v2 : Int => ([.box 31 (c31 a1) false] : Heap DD)) (fun r => match r with | Sum.inl _ => .ret | Sum.inr _ => .exit 0) (fun r => match r with | Sum.inl _ => [(2, .v (.bool false))] | Sum.inr _ => [(1, .op 0 1 0 0), (2, .v (.bool false))]) (fun r => match r with | Sum.inl _ => [] | Sum.inr _ => [.box 31 (c31 a1) false]) := by
  refine loop_sound3 (fun s q h => ?_) (fun r => ?_)
  · replace h : palingref15_domains_L1 a1 s = some q := h; revert h; revert s; intro v2 h
    unfold palingref15_domains_L1 at h
    rcases ite_out h with ⟨h3, h⟩ | ⟨h3, h⟩
    · obtain ⟨x4, h5, h⟩ := bind_out h
      obtain ⟨r6, h7, h⟩ := bind_out h
      rcases ite_out h with ⟨h8, h⟩ | ⟨h8, h⟩
      · injection h with h; subst h; exact runLp_sound mixedOrders (live := [2]) (ids := []) (π := [.dec true, .row (c40 x4), .callv (.v (.bool r6)), .dec true]) (hx := by kernel_rfl) (hps := pc (h3) <| pc (ob40 h5) <| pc (k_palingref15_Place h7) <| pc (h8) <| pn)
      · rcases ite_out h with ⟨h9, h⟩ | ⟨h9, h⟩
        · injection h with h; subst h; exact runLp_sound mixedOrders (live := [2]) (ids := []) (π := [.dec true, .row (c40 x4), .callv (.v (.bool r6)), .dec false, .dec true]) (hx := by kernel_rfl) (hps := pc (h3) <| pc (ob40 h5) <| pc (k_palingref15_Place h7) <| pc (h8) <| pc (h9) <| pn)
        · rcases ite_out h with ⟨h10, h⟩ | ⟨h10, h⟩
          · injection h with h; subst h; exact runLp_sound mixedOrders (live := [2]) (ids := []) (π := [.dec true, .row (c40 x4), .callv (.v (.bool r6)), .dec false, .dec false, .dec true]) (hx := by kernel_rfl) (hps := pc (h3) <| pc (ob40 h5) <| pc (k_palingref15_Place h7) <| pc (h8) <| pc (h9) <| pc (h10) <| pn)
          · rcases ite_out h with ⟨h11, h⟩ | ⟨h11, h⟩
            · injection h with h; subst h; exact runLp_sound mixedOrders (live := [2]) (ids := []) (π := [.dec true, .row (c40 x4), .callv (.v (.bool r6)), .dec false, .dec false, .dec false, .dec true]) (hx := by kernel_rfl) (hps := pc (h3) <| pc (ob40 h5) <| pc (k_palingref15_Place h7) <| pc (h8) <| pc (h9) <| pc (h10) <| pc (h11) <| pn)
            · rcases ite_out h with ⟨h12, h⟩ | ⟨h12, h⟩
              · injection h with h; subst h; exact runLp_sound mixedOrders (live := [2]) (ids := []) (π := [.dec true, .row (c40 x4), .callv (.v (.bool r6)), .dec false, .dec false, .dec false, .dec false, .dec true]) (hx := by kernel_rfl) (hps := pc (h3) <| pc (ob40 h5) <| pc (k_palingref15_Place h7) <| pc (h8) <| pc (h9) <| pc (h10) <| pc (h11) <| pc (h12) <| pn)
              · obtain ⟨r13, h14, h⟩ := bind_out h
                rcases ite_out h with ⟨h15, h⟩ | ⟨h15, h⟩
                · injection h with h; subst h; exact runLp_sound mixedOrders (live := [2]) (ids := []) (π := [.dec true, .row (c40 x4), .callv (.v (.bool r6)), .dec false, .dec false, .dec false, .dec false, .dec false, .callv (.v (.int .i64 r13)), .dec true]) (hx := by kernel_rfl) (hps := pc (h3) <| pc (ob40 h5) <| pc (k_palingref15_Place h7) <| pc (h8) <| pc (h9) <| pc (h10) <| pc (h11) <| pc (h12) <| pc (k_palingref15_At h14) <| pc (h15) <| pn)
                · rcases ite_out h with ⟨h16, h⟩ | ⟨h16, h⟩
                  · obtain ⟨r17, h18, h⟩ := bind_out h
                    rcases ite_out h with ⟨h19, h⟩ | ⟨h19, h⟩
                    · injection h with h; subst h; exact runLp_sound mixedOrders (live := [2]) (ids := []) (π := [.dec true, .row (c40 x4), .callv (.v (.bool r6)), .dec false, .dec false, .dec false, .dec false, .dec false, .callv (.v (.int .i64 r13)), .dec false, .dec true, .callv (.v (.bool r17)), .dec true]) (hx := by kernel_rfl) (hps := pc (h3) <| pc (ob40 h5) <| pc (k_palingref15_Place h7) <| pc (h8) <| pc (h9) <| pc (h10) <| pc (h11) <| pc (h12) <| pc (k_palingref15_At h14) <| pc (h15) <| pc (h16) <| pc (k_palingref15_Place h18) <| pc (h19) <| pn)
                    · obtain ⟨x20, h21, h⟩ := bind_out h
                      rcases ite_out h with ⟨h22, h⟩ | ⟨h22, h⟩
                      · injection h with h; subst h; exact runLp_sound mixedOrders (live := [2]) (ids := []) (π := [.dec true, .row (c40 x4), .callv (.v (.bool r6)), .dec false, .dec false, .dec false, .dec false, .dec false, .callv (.v (.int .i64 r13)), .dec false, .dec true, .callv (.v (.bool r17)), .dec false, .row (c130 x20), .dec true]) (hx := by kernel_rfl) (hps := pc (h3) <| pc (ob40 h5) <| pc (k_palingref15_Place h7) <| pc (h8) <| pc (h9) <| pc (h10) <| pc (h11) <| pc (h12) <| pc (k_palingref15_At h14) <| pc (h15) <| pc (h16) <| pc (k_palingref15_Place h18) <| pc (h19) <| pc (ob130 h21) <| pc (h22) <| pn)
                      · injection h with h; subst h; exact runLp_sound mixedOrders (live := [1, 2, 3]) (ids := [0]) (π := [.dec true, .row (c40 x4), .callv (.v (.bool r6)), .dec false, .dec false, .dec false, .dec false, .dec false, .callv (.v (.int .i64 r13)), .dec false, .dec true, .callv (.v (.bool r17)), .dec false, .row (c130 x20), .dec false]) (hx := by kernel_rfl) (hps := pc (h3) <| pc (ob40 h5) <| pc (k_palingref15_Place h7) <| pc (h8) <| pc (h9) <| pc (h10) <| pc (h11) <| pc (h12) <| pc (k_palingref15_At h14) <| pc (h15) <| pc (h16) <| pc (k_palingref15_Place h18) <| pc (h19) <| pc (ob130 h21) <| pc (h22) <| pn)
                  · injection h with h; subst h; exact runLp_sound mixedOrders (live := [1, 2, 3]) (ids := [0]) (π := [.dec true, .row (c40 x4), .callv (.v (.bool r6)), .dec false, .dec false, .dec false, .dec false, .dec false, .callv (.v (.int .i64 r13)), .dec false, .dec false]) (hx := by kernel_rfl) (hps := pc (h3) <| pc (ob40 h5) <| pc (k_palingref15_Place h7) <| pc (h8) <| pc (h9) <| pc (h10) <| pc (h11) <| pc (h12) <| pc (k_palingref15_At h14) <| pc (h15) <| pc (h16) <| pn)
    · injection h with h; subst h; exact runLp_sound mixedOrders (live := [1, 2]) (ids := [0]) (π := [.dec false]) (hx := by kernel_rfl) (hps := pc (h3) <| pn)
  · rcases r with _ | _ <;> exact Ex.noConfusion

theorem k_palingref15_domains_L3 {a1 : Api_Net} {v25 : Int} {x27 : Api_Domain} : LoopOK Try.prog UU 0 120 (subC (codeOf Try.f63) [1, 1, 0, 1, 0, 0, 1, 0, 0, 1, 1, 0, 0]) (ρ := Unit ⊕ Unit) (palingref15_domains_L3 a1 v25 x27)
    (fun v29 : Int => ([(1, .op 0 1 0 0), (2, .v (.bool false)), (5, .v (.int .i64 v25)), (6, .op 1 1 0 0), (7, .v (.int .i64 v29))] : Fr DD)) (fun v29 : Int => ([.box 31 (c31 a1) false, .box 40 (c40 x27) false] : Heap DD)) (fun r => match r with | Sum.inl _ => .ret | Sum.inr _ => .exit 4) (fun r => match r with | Sum.inl _ => [(2, .v (.bool false))] | Sum.inr _ => [(1, .op 0 1 0 0), (2, .v (.bool false)), (5, .v (.int .i64 v25))]) (fun r => match r with | Sum.inl _ => [] | Sum.inr _ => [.box 31 (c31 a1) false]) := by
  refine loop_sound3 (fun s q h => ?_) (fun r => ?_)
  · replace h : palingref15_domains_L3 a1 v25 x27 s = some q := h; revert h; revert s; intro v29 h
    unfold palingref15_domains_L3 at h
    rcases ite_out h with ⟨h30, h⟩ | ⟨h30, h⟩
    · obtain ⟨x31, h32, h⟩ := bind_out h
      obtain ⟨r33, h34, h⟩ := bind_out h
      rcases ite_out h with ⟨h35, h⟩ | ⟨h35, h⟩
      · injection h with h; subst h; exact runLp_sound mixedOrders (live := [2]) (ids := []) (π := [.dec true, .row (c3 x31), .callv (.v (.bool r33)), .dec true]) (hx := by kernel_rfl) (hps := pc (h30) <| pc (ob3 h32) <| pc (k_palingref15_peer h34) <| pc (h35) <| pn)
      · rcases ite_out h with ⟨h36, h⟩ | ⟨h36, h⟩
        · obtain ⟨x37, h38, h⟩ := bind_out h
          obtain ⟨r39, h40, h⟩ := bind_out h
          rcases ite_out h with ⟨h41, h⟩ | ⟨h41, h⟩
          · injection h with h; subst h; exact runLp_sound mixedOrders (live := [2]) (ids := []) (π := [.dec true, .row (c3 x31), .callv (.v (.bool r33)), .dec false, .row (c3 x37), .callv (.v (.bool r39)), .dec true]) (hx := by kernel_rfl) (hps := pc (h30) <| pc (ob3 h32) <| pc (k_palingref15_peer h34) <| pc (h35) <| pc (sl_ob h36) <| pc (ob3 h38) <| pc (k_palingref15_In h40) <| pc (h41) <| pn)
          · injection h with h; subst h; exact runLp_sound mixedOrders (live := [1, 2, 5, 6, 7]) (ids := [0, 1]) (π := [.dec true, .row (c3 x31), .callv (.v (.bool r33)), .dec false, .row (c3 x37), .callv (.v (.bool r39)), .dec false]) (hx := by kernel_rfl) (hps := pc (h30) <| pc (ob3 h32) <| pc (k_palingref15_peer h34) <| pc (h35) <| pc (sl_ob h36) <| pc (ob3 h38) <| pc (k_palingref15_In h40) <| pc (h41) <| pn)
        · cases h
    · injection h with h; subst h; exact runLp_sound mixedOrders (live := [1, 2, 5]) (ids := [0]) (π := [.dec false]) (hx := by kernel_rfl) (hps := pc (h30) <| pn)
  · rcases r with _ | _ <;> exact Ex.noConfusion

theorem k_palingref15_domains_L2 {a1 : Api_Net} : LoopOK Try.prog UU 0 120 (subC (codeOf Try.f63) [1, 1, 0, 1, 0, 0]) (ρ := Unit ⊕ Unit) (palingref15_domains_L2 a1)
    (fun v25 : Int => ([(1, .op 0 1 0 0), (2, .v (.bool false)), (5, .v (.int .i64 v25))] : Fr DD)) (fun v25 : Int => ([.box 31 (c31 a1) false] : Heap DD)) (fun r => match r with | Sum.inl _ => .ret | Sum.inr _ => .exit 2) (fun r => match r with | Sum.inl _ => [(2, .v (.bool false))] | Sum.inr _ => [(2, .v (.bool false))]) (fun r => match r with | Sum.inl _ => [] | Sum.inr _ => []) := by
  refine loop_sound3 (fun s q h => ?_) (fun r => ?_)
  · replace h : palingref15_domains_L2 a1 s = some q := h; revert h; revert s; intro v25 h
    unfold palingref15_domains_L2 at h
    rcases ite_out h with ⟨h26, h⟩ | ⟨h26, h⟩
    · obtain ⟨x27, h28, h⟩ := bind_out h
      obtain ⟨r43, h42, h⟩ := bind_out h
      rcases r43 with _ | _
      · injection h with h; subst h; exact runLp_sound mixedOrders (live := [2]) (ids := []) (π := [.dec true, .row (c40 x27), .sum [1, 2, 5, 6, 7] [0, 2] .ret [(2, .v (.bool false))] []]) (hx := by kernel_rfl) (hps := pc (h26) <| pc (ob40 h28) <| pc (k_palingref15_domains_L3 _ _ h42) <| pn)
      · injection h with h; subst h; exact runLp_sound mixedOrders (live := [1, 2, 5]) (ids := [0]) (π := [.dec true, .row (c40 x27), .sum [1, 2, 5, 6, 7] [0, 2] (.exit 4) [(1, .op 0 1 0 0), (2, .v (.bool false)), (5, .v (.int .i64 v25))] [.box 31 (c31 a1) false]]) (hx := by kernel_rfl) (hps := pc (h26) <| pc (ob40 h28) <| pc (k_palingref15_domains_L3 _ _ h42) <| pn)
    · injection h with h; subst h; exact runLp_sound mixedOrders (live := [2]) (ids := []) (π := [.dec false]) (hx := by kernel_rfl) (hps := pc (h26) <| pn)
  · rcases r with _ | _ <;> exact Ex.noConfusion

theorem k_palingref15_domains {a1 : Api_Net} {r : Bool} (h : palingref15_domains a1 = some r) :
    CallsOK Try.prog UU 63 [.agg (c31 a1)] [] (.v (.bool r)) [] := by
  unfold palingref15_domains at h
  obtain ⟨r24, h23, h⟩ := bind_out h
  rcases r24 with _ | _
  · injection h with h; subst h; exact runFn_sound mixedOrders Try.func63 rfl (keep := none) (π := [.sum [1, 2, 3] [0] .ret [(2, .v (.bool false))] []]) (hrun := by kernel_rfl) (hps := pc (k_palingref15_domains_L1 _ _ h23) <| pn)
  · obtain ⟨r45, h44, h⟩ := bind_out h
    rcases r45 with _ | _
    · injection h with h; subst h; exact runFn_sound mixedOrders Try.func63 rfl (keep := none) (π := [.sum [1, 2, 3] [0] (.exit 0) [(1, .op 0 1 0 0), (2, .v (.bool false))] [.box 31 (c31 a1) false], .sum [1, 2, 5] [0] .ret [(2, .v (.bool false))] []]) (hrun := by kernel_rfl) (hps := pc (k_palingref15_domains_L1 _ _ h23) <| pc (k_palingref15_domains_L2 _ _ h44) <| pn)
    · injection h with h; subst h; exact runFn_sound mixedOrders Try.func63 rfl (keep := none) (π := [.sum [1, 2, 3] [0] (.exit 0) [(1, .op 0 1 0 0), (2, .v (.bool false))] [.box 31 (c31 a1) false], .sum [1, 2, 5] [0] (.exit 2) [(2, .v (.bool false))] []]) (hrun := by kernel_rfl) (hps := pc (k_palingref15_domains_L1 _ _ h23) <| pc (k_palingref15_domains_L2 _ _ h44) <| pn)

theorem k_palingref03_Rising_L1 {a1 : List Int} {a2 : Int} {a3 : Int} : LoopOK Try.prog UU 0 52 (subC (codeOf Try.f154) [1, 1, 0, 1, 0, 0]) (ρ := Unit ⊕ Unit) (palingref03_Rising_L1 a1 a2 a3)
    (fun v6 : Int => ([(0, .sl 3 a1), (1, .v (.int .i64 a2)), (2, .v (.int .i64 a3)), (6, .v (.bool false)), (7, .v (.int .i64 v6))] : Fr DD)) (fun v6 : Int => ([] : Heap DD)) (fun r => match r with | Sum.inl _ => .ret | Sum.inr _ => .exit 0) (fun r => match r with | Sum.inl _ => [(6, .v (.bool false))] | Sum.inr _ => [(6, .v (.bool false))]) (fun r => match r with | Sum.inl _ => [] | Sum.inr _ => []) := by
  refine loop_sound3 (fun s q h => ?_) (fun r => ?_)
  · replace h : palingref03_Rising_L1 a1 a2 a3 s = some q := h; revert h; revert s; intro v6 h
    unfold palingref03_Rising_L1 at h
    rcases ite_out h with ⟨h7, h⟩ | ⟨h7, h⟩
    · obtain ⟨x8, h9, h⟩ := bind_out h
      rcases ite_out h with ⟨h10, h⟩ | ⟨h10, h⟩
      · injection h with h; subst h; exact runLp_sound mixedOrders (live := [6]) (ids := []) (π := [.dec true, .row (c3 x8), .dec true]) (hx := by kernel_rfl) (hps := pc (h7) <| pc (ob3 h9) <| pc (h10) <| pn)
      · obtain ⟨x11, h12, h⟩ := bind_out h
        rcases ite_out h with ⟨h13, h⟩ | ⟨h13, h⟩
        · injection h with h; subst h; exact runLp_sound mixedOrders (live := [6]) (ids := []) (π := [.dec true, .row (c3 x8), .dec false, .row (c3 x11), .dec true]) (hx := by kernel_rfl) (hps := pc (h7) <| pc (ob3 h9) <| pc (h10) <| pc (ob3 h12) <| pc (h13) <| pn)
        · rcases ite_out h with ⟨h14, h⟩ | ⟨h14, h⟩
          · obtain ⟨x15, h16, h⟩ := bind_out h
            obtain ⟨x17, h18, h⟩ := bind_out h
            rcases ite_out h with ⟨h19, h⟩ | ⟨h19, h⟩
            · injection h with h; subst h; exact runLp_sound mixedOrders (live := [6]) (ids := []) (π := [.dec true, .row (c3 x8), .dec false, .row (c3 x11), .dec false, .dec true, .row (c3 x15), .row (c3 x17), .dec true]) (hx := by kernel_rfl) (hps := pc (h7) <| pc (ob3 h9) <| pc (h10) <| pc (ob3 h12) <| pc (h13) <| pc (h14) <| pc (ob3 h16) <| pc (ob3 h18) <| pc (h19) <| pn)
            · injection h with h; subst h; exact runLp_sound mixedOrders (live := [0, 1, 2, 6, 7]) (ids := []) (π := [.dec true, .row (c3 x8), .dec false, .row (c3 x11), .dec false, .dec true, .row (c3 x15), .row (c3 x17), .dec false]) (hx := by kernel_rfl) (hps := pc (h7) <| pc (ob3 h9) <| pc (h10) <| pc (ob3 h12) <| pc (h13) <| pc (h14) <| pc (ob3 h16) <| pc (ob3 h18) <| pc (h19) <| pn)
          · injection h with h; subst h; exact runLp_sound mixedOrders (live := [0, 1, 2, 6, 7]) (ids := []) (π := [.dec true, .row (c3 x8), .dec false, .row (c3 x11), .dec false, .dec false]) (hx := by kernel_rfl) (hps := pc (h7) <| pc (ob3 h9) <| pc (h10) <| pc (ob3 h12) <| pc (h13) <| pc (h14) <| pn)
    · injection h with h; subst h; exact runLp_sound mixedOrders (live := [6]) (ids := []) (π := [.dec false]) (hx := by kernel_rfl) (hps := pc (h7) <| pn)
  · rcases r with _ | _ <;> exact Ex.noConfusion

theorem k_palingref03_Rising {a1 : List Int} {a2 : Int} {a3 : Int} {r : Bool} (h : palingref03_Rising a1 a2 a3 = some r) :
    CallsOK Try.prog UU 154 [.sl 3 a1, .v (.int .i64 a2), .v (.int .i64 a3)] [] (.v (.bool r)) [] := by
  unfold palingref03_Rising at h
  rcases ite_out h with ⟨h4, h⟩ | ⟨h4, h⟩
  · injection h with h; subst h; exact runFn_sound mixedOrders Try.func154 rfl (keep := none) (π := [.dec true]) (hrun := by kernel_rfl) (hps := pc (h4) <| pn)
  · rcases ite_out h with ⟨h5, h⟩ | ⟨h5, h⟩
    · injection h with h; subst h; exact runFn_sound mixedOrders Try.func154 rfl (keep := none) (π := [.dec false, .dec true]) (hrun := by kernel_rfl) (hps := pc (h4) <| pc (h5) <| pn)
    · obtain ⟨r21, h20, h⟩ := bind_out h
      rcases r21 with _ | _
      · injection h with h; subst h; exact runFn_sound mixedOrders Try.func154 rfl (keep := none) (π := [.dec false, .dec false, .sum [0, 1, 2, 6, 7] [] .ret [(6, .v (.bool false))] []]) (hrun := by kernel_rfl) (hps := pc (h4) <| pc (h5) <| pc (k_palingref03_Rising_L1 _ _ h20) <| pn)
      · injection h with h; subst h; exact runFn_sound mixedOrders Try.func154 rfl (keep := none) (π := [.dec false, .dec false, .sum [0, 1, 2, 6, 7] [] (.exit 0) [(6, .v (.bool false))] []]) (hrun := by kernel_rfl) (hps := pc (h4) <| pc (h5) <| pc (k_palingref03_Rising_L1 _ _ h20) <| pn)

theorem k_palingref15_rising {a1 : List Int} {a2 : Int} {r : Bool} (h : palingref15_rising a1 a2 = some r) :
    CallsOK Try.prog UU 122 [.sl 3 a1, .v (.int .i64 a2)] [] (.v (.bool r)) [] := by
  unfold palingref15_rising at h
  rcases ite_out h with ⟨h3, h⟩ | ⟨h3, h⟩
  · injection h with h; subst h; exact runFn_sound mixedOrders Try.func122 rfl (keep := none) (π := [.dec true]) (hrun := by kernel_rfl) (hps := pc (h3) <| pn)
  · obtain ⟨r4, h5, h⟩ := bind_out h
    injection h with h; subst h; exact runFn_sound mixedOrders Try.func122 rfl (keep := none) (π := [.dec false, .callv (.v (.bool r4))]) (hrun := by kernel_rfl) (hps := pc (h3) <| pc (k_palingref03_Rising h5) <| pn)

theorem k_palingref15_ports_J2 {a1 : Api_Net} {v2 : Int} {x4 : Api_Port} {r : Unit ⊕ Unit} (h : palingref15_ports_J2 a1 v2 x4 = some r) :
    ExecOK Try.prog UU 0 120 (subC (codeOf Try.f64) [1, 0, 1, 0, 0, 1, 0, 0, 1, 1, 0]) [(1, .op 0 1 0 0), (2, .v (.bool false)), (3, .v (.int .i64 v2)), (4, .op 1 1 0 0)] [.box 31 (c31 a1) false, .box 60 (c60 x4) false] ((fun r => match r with | Sum.inl _ => .ret | Sum.inr _ => .nor) r) ((fun r => match r with | Sum.inl _ => [(2, .v (.bool false))] | Sum.inr _ => [(1, .op 0 1 0 0), (2, .v (.bool false)), (3, .v (.int .i64 v2)), (4, .op 1 1 0 0)]) r) ((fun r => match r with | Sum.inl _ => [] | Sum.inr _ => [.box 31 (c31 a1) false, .box 60 (c60 x4) false]) r) := by
  unfold palingref15_ports_J2 at h
  rcases ite_out h with ⟨h17, h⟩ | ⟨h17, h⟩
  · rcases ite_out h with ⟨h18, h⟩ | ⟨h18, h⟩
    · injection h with h; subst h; exact runLp_sound mixedOrders (live := [2]) (ids := []) (π := [.dec true, .dec true]) (hx := by kernel_rfl) (hps := pc (h17) <| pc (h18) <| pn)
    · rcases ite_out h with ⟨h19, h⟩ | ⟨h19, h⟩
      · obtain ⟨r20, h21, h⟩ := bind_out h
        rcases ite_out h with ⟨h22, h⟩ | ⟨h22, h⟩
        · injection h with h; subst h; exact runLp_sound mixedOrders (live := [2]) (ids := []) (π := [.dec true, .dec false, .dec true, .callv (.v (.int .i64 r20)), .dec true]) (hx := by kernel_rfl) (hps := pc (h17) <| pc (h18) <| pc (h19) <| pc (k_palingref15_At h21) <| pc (h22) <| pn)
        · injection h with h; subst h; exact runLp_sound mixedOrders (live := [1, 2, 3, 4]) (ids := [0, 1]) (π := [.dec true, .dec false, .dec true, .callv (.v (.int .i64 r20)), .dec false]) (hx := by kernel_rfl) (hps := pc (h17) <| pc (h18) <| pc (h19) <| pc (k_palingref15_At h21) <| pc (h22) <| pn)
      · injection h with h; subst h; exact runLp_sound mixedOrders (live := [1, 2, 3, 4]) (ids := [0, 1]) (π := [.dec true, .dec false, .dec false]) (hx := by kernel_rfl) (hps := pc (h17) <| pc (h18) <| pc (h19) <| pn)
  · rcases ite_out h with ⟨h23, h⟩ | ⟨h23, h⟩
    · obtain ⟨r24, h25, h⟩ := bind_out h
      rcases ite_out h with ⟨h26, h⟩ | ⟨h26, h⟩
      · injection h with h; subst h; exact runLp_sound mixedOrders (live := [2]) (ids := []) (π := [.dec false, .dec true, .callv (.v (.int .i64 r24)), .dec true]) (hx := by kernel_rfl) (hps := pc (h17) <| pc (h23) <| pc (k_palingref15_At h25) <| pc (h26) <| pn)
      · injection h with h; subst h; exact runLp_sound mixedOrders (live := [1, 2, 3, 4]) (ids := [0, 1]) (π := [.dec false, .dec true, .callv (.v (.int .i64 r24)), .dec false]) (hx := by kernel_rfl) (hps := pc (h17) <| pc (h23) <| pc (k_palingref15_At h25) <| pc (h26) <| pn)
    · injection h with h; subst h; exact runLp_sound mixedOrders (live := [1, 2, 3, 4]) (ids := [0, 1]) (π := [.dec false, .dec false]) (hx := by kernel_rfl) (hps := pc (h17) <| pc (h23) <| pn)

theorem k_palingref15_ports_L3 {a1 : Api_Net} {v2 : Int} {x4 : Api_Port} : LoopOK Try.prog UU 0 120 (subC (codeOf Try.f64) [1, 0, 1, 0, 0, 1, 0, 0, 1, 1, 1, 0, 1, 0, 0]) (ρ := Unit ⊕ Unit) (palingref15_ports_L3 a1 v2 x4)
    (fun v29 : Int => ([(1, .op 0 1 0 0), (2, .v (.bool false)), (3, .v (.int .i64 v2)), (4, .op 1 1 0 0), (5, .v (.int .i64 v29))] : Fr DD)) (fun v29 : Int => ([.box 31 (c31 a1) false, .box 60 (c60 x4) false] : Heap DD)) (fun r => match r with | Sum.inl _ => .ret | Sum.inr _ => .exit 2) (fun r => match r with | Sum.inl _ => [(2, .v (.bool false))] | Sum.inr _ => [(1, .op 0 1 0 0), (2, .v (.bool false)), (3, .v (.int .i64 v2)), (4, .op 1 1 0 0)]) (fun r => match r with | Sum.inl _ => [] | Sum.inr _ => [.box 31 (c31 a1) false, .box 60 (c60 x4) false]) := by
  refine loop_sound3 (fun s q h => ?_) (fun r => ?_)
  · replace h : palingref15_ports_L3 a1 v2 x4 s = some q := h; revert h; revert s; intro v29 h
    unfold palingref15_ports_L3 at h
    rcases ite_out h with ⟨h30, h⟩ | ⟨h30, h⟩
    · obtain ⟨x31, h32, h⟩ := bind_out h
      obtain ⟨r33, h34, h⟩ := bind_out h
      rcases ite_out h with ⟨h35, h⟩ | ⟨h35, h⟩
      · injection h with h; subst h; exact runLp_sound mixedOrders (live := [2]) (ids := []) (π := [.dec true, .row (c3 x31), .callv (.v (.int .i64 r33)), .dec true]) (hx := by kernel_rfl) (hps := pc (h30) <| pc (ob3 h32) <| pc (k_palingref15_At h34) <| pc (h35) <| pn)
      · injection h with h; subst h; exact runLp_sound mixedOrders (live := [1, 2, 3, 4, 5]) (ids := [0, 1]) (π := [.dec true, .row (c3 x31), .callv (.v (.int .i64 r33)), .dec false]) (hx := by kernel_rfl) (hps := pc (h30) <| pc (ob3 h32) <| pc (k_palingref15_At h34) <| pc (h35) <| pn)
    · injection h with h; subst h; exact runLp_sound mixedOrders (live := [1, 2, 3, 4]) (ids := [0, 1]) (π := [.dec false]) (hx := by kernel_rfl) (hps := pc (h30) <| pn)
  · rcases r with _ | _ <;> exact Ex.noConfusion

theorem k_palingref15_ports_L1 {a1 : Api_Net} : LoopOK Try.prog UU 0 120 (subC (codeOf Try.f64) [1, 0, 1, 0, 0]) (ρ := Unit ⊕ Unit) (palingref15_ports_L1 a1)
    (fun v2 : Int => ([(1, .op 0 1 0 0), (2, .v (.bool false)), (3, .v (.int .i64 v2))] : Fr DD)) (fun v2 : Int => ([.box 31 (c31 a1) false] : Heap DD)) (fun r => match r with | Sum.inl _ => .ret | Sum.inr _ => .exit 0) (fun r => match r with | Sum.inl _ => [(2, .v (.bool false))] | Sum.inr _ => [(2, .v (.bool false))]) (fun r => match r with | Sum.inl _ => [] | Sum.inr _ => []) := by
  refine loop_sound3 (fun s q h => ?_) (fun r => ?_)
  · replace h : palingref15_ports_L1 a1 s = some q := h; revert h; revert s; intro v2 h
    unfold palingref15_ports_L1 at h
    rcases ite_out h with ⟨h3, h⟩ | ⟨h3, h⟩
    · obtain ⟨x4, h5, h⟩ := bind_out h
      obtain ⟨r6, h7, h⟩ := bind_out h
      rcases ite_out h with ⟨h8, h⟩ | ⟨h8, h⟩
      · injection h with h; subst h; exact runLp_sound mixedOrders (live := [2]) (ids := []) (π := [.dec true, .row (c60 x4), .callv (.v (.bool r6)), .dec true]) (hx := by kernel_rfl) (hps := pc (h3) <| pc (ob60 h5) <| pc (k_palingref15_Place h7) <| pc (h8) <| pn)
      · rcases ite_out h with ⟨h9, h⟩ | ⟨h9, h⟩
        · injection h with h; subst h; exact runLp_sound mixedOrders (live := [2]) (ids := []) (π := [.dec true, .row (c60 x4), .callv (.v (.bool r6)), .dec false, .dec true]) (hx := by kernel_rfl) (hps := pc (h3) <| pc (ob60 h5) <| pc (k_palingref15_Place h7) <| pc (h8) <| pc (h9) <| pn)
        · rcases ite_out h with ⟨h10, h⟩ | ⟨h10, h⟩
          · injection h with h; subst h; exact runLp_sound mixedOrders (live := [2]) (ids := []) (π := [.dec true, .row (c60 x4), .callv (.v (.bool r6)), .dec false, .dec false, .dec true]) (hx := by kernel_rfl) (hps := pc (h3) <| pc (ob60 h5) <| pc (k_palingref15_Place h7) <| pc (h8) <| pc (h9) <| pc (h10) <| pn)
          · obtain ⟨r11, h12, h⟩ := bind_out h
            rcases ite_out h with ⟨h13, h⟩ | ⟨h13, h⟩
            · injection h with h; subst h; exact runLp_sound mixedOrders (live := [2]) (ids := []) (π := [.dec true, .row (c60 x4), .callv (.v (.bool r6)), .dec false, .dec false, .dec false, .callv (.v (.bool r11)), .dec true]) (hx := by kernel_rfl) (hps := pc (h3) <| pc (ob60 h5) <| pc (k_palingref15_Place h7) <| pc (h8) <| pc (h9) <| pc (h10) <| pc (k_palingref15_rising h12) <| pc (h13) <| pn)
            · obtain ⟨r14, h15, h⟩ := bind_out h
              rcases ite_out h with ⟨h16, h⟩ | ⟨h16, h⟩
              · injection h with h; subst h; exact runLp_sound mixedOrders (live := [2]) (ids := []) (π := [.dec true, .row (c60 x4), .callv (.v (.bool r6)), .dec false, .dec false, .dec false, .callv (.v (.bool r11)), .dec false, .callv (.v (.bool r14)), .dec true]) (hx := by kernel_rfl) (hps := pc (h3) <| pc (ob60 h5) <| pc (k_palingref15_Place h7) <| pc (h8) <| pc (h9) <| pc (h10) <| pc (k_palingref15_rising h12) <| pc (h13) <| pc (k_palingref15_In h15) <| pc (h16) <| pn)
              · obtain ⟨r28, h27, h⟩ := bind_out h
                rcases r28 with _ | _
                · injection h with h; subst h; exact runLp_sound mixedOrders (live := [2]) (ids := []) (π := [.dec true, .row (c60 x4), .callv (.v (.bool r6)), .dec false, .dec false, .dec false, .callv (.v (.bool r11)), .dec false, .callv (.v (.bool r14)), .dec false, .cut [1, 2, 3, 4] [0, 2] .ret [(2, .v (.bool false))] []]) (hx := by kernel_rfl) (hps := pc (h3) <| pc (ob60 h5) <| pc (k_palingref15_Place h7) <| pc (h8) <| pc (h9) <| pc (h10) <| pc (k_palingref15_rising h12) <| pc (h13) <| pc (k_palingref15_In h15) <| pc (h16) <| pc (k_palingref15_ports_J2 h27) <| pn)
                · obtain ⟨r37, h36, h⟩ := bind_out h
                  rcases r37 with _ | _
                  · injection h with h; subst h; exact runLp_sound mixedOrders (live := [2]) (ids := []) (π := [.dec true, .row (c60 x4), .callv (.v (.bool r6)), .dec false, .dec false, .dec false, .callv (.v (.bool r11)), .dec false, .callv (.v (.bool r14)), .dec false, .cut [1, 2, 3, 4] [0, 2] .nor [(1, .op 0 1 0 0), (2, .v (.bool false)), (3, .v (.int .i64 v2)), (4, .op 1 1 0 0)] [.box 31 (c31 a1) false, .box 60 (c60 x4) false], .sum [1, 2, 3, 4, 5] [0, 1] .ret [(2, .v (.bool false))] []]) (hx := by kernel_rfl) (hps := pc (h3) <| pc (ob60 h5) <| pc (k_palingref15_Place h7) <| pc (h8) <| pc (h9) <| pc (h10) <| pc (k_palingref15_rising h12) <| pc (h13) <| pc (k_palingref15_In h15) <| pc (h16) <| pc (k_palingref15_ports_J2 h27) <| pc (k_palingref15_ports_L3 _ _ h36) <| pn)
                  · rcases ite_out h with ⟨h38, h⟩ | ⟨h38, h⟩
                    · injection h with h; subst h; exact runLp_sound mixedOrders (live := [1, 2, 3]) (ids := [0]) (π := [.dec true, .row (c60 x4), .callv (.v (.bool r6)), .dec false, .dec false, .dec false, .callv (.v (.bool r11)), .dec false, .callv (.v (.bool r14)), .dec false, .cut [1, 2, 3, 4] [0, 2] .nor [(1, .op 0 1 0 0), (2, .v (.bool false)), (3, .v (.int .i64 v2)), (4, .op 1 1 0 0)] [.box 31 (c31 a1) false, .box 60 (c60 x4) false], .sum [1, 2, 3, 4, 5] [0, 1] (.exit 2) [(1, .op 0 1 0 0), (2, .v (.bool false)), (3, .v (.int .i64 v2)), (4, .op 1 1 0 0)] [.box 31 (c31 a1) false, .box 60 (c60 x4) false], .dec true]) (hx := by kernel_rfl) (hps := pc (h3) <| pc (ob60 h5) <| pc (k_palingref15_Place h7) <| pc (h8) <| pc (h9) <| pc (h10) <| pc (k_palingref15_rising h12) <| pc (h13) <| pc (k_palingref15_In h15) <| pc (h16) <| pc (k_palingref15_ports_J2 h27) <| pc (k_palingref15_ports_L3 _ _ h36) <| pc (h38) <| pn)
                    · obtain ⟨r39, h40, h⟩ := bind_out h
                      rcases ite_out h with ⟨h41, h⟩ | ⟨h41, h⟩
                      · injection h with h; subst h; exact runLp_sound mixedOrders (live := [2]) (ids := []) (π := [.dec true, .row (c60 x4), .callv (.v (.bool r6)), .dec false, .dec false, .dec false, .callv (.v (.bool r11)), .dec false, .callv (.v (.bool r14)), .dec false, .cut [1, 2, 3, 4] [0, 2] .nor [(1, .op 0 1 0 0), (2, .v (.bool false)), (3, .v (.int .i64 v2)), (4, .op 1 1 0 0)] [.box 31 (c31 a1) false, .box 60 (c60 x4) false], .sum [1, 2, 3, 4, 5] [0, 1] (.exit 2) [(1, .op 0 1 0 0), (2, .v (.bool false)), (3, .v (.int .i64 v2)), (4, .op 1 1 0 0)] [.box 31 (c31 a1) false, .box 60 (c60 x4) false], .dec false, .callv (.v (.bool r39)), .dec true]) (hx := by kernel_rfl) (hps := pc (h3) <| pc (ob60 h5) <| pc (k_palingref15_Place h7) <| pc (h8) <| pc (h9) <| pc (h10) <| pc (k_palingref15_rising h12) <| pc (h13) <| pc (k_palingref15_In h15) <| pc (h16) <| pc (k_palingref15_ports_J2 h27) <| pc (k_palingref15_ports_L3 _ _ h36) <| pc (h38) <| pc (k_palingref15_Place h40) <| pc (h41) <| pn)
                      · obtain ⟨x42, h43, h⟩ := bind_out h
                        rcases ite_out h with ⟨h44, h⟩ | ⟨h44, h⟩
                        · obtain ⟨x45, h46, h⟩ := bind_out h
                          rcases ite_out h with ⟨h47, h⟩ | ⟨h47, h⟩
                          · injection h with h; subst h; exact runLp_sound mixedOrders (live := [2]) (ids := []) (π := [.dec true, .row (c60 x4), .callv (.v (.bool r6)), .dec false, .dec false, .dec false, .callv (.v (.bool r11)), .dec false, .callv (.v (.bool r14)), .dec false, .cut [1, 2, 3, 4] [0, 2] .nor [(1, .op 0 1 0 0), (2, .v (.bool false)), (3, .v (.int .i64 v2)), (4, .op 1 1 0 0)] [.box 31 (c31 a1) false, .box 60 (c60 x4) false], .sum [1, 2, 3, 4, 5] [0, 1] (.exit 2) [(1, .op 0 1 0 0), (2, .v (.bool false)), (3, .v (.int .i64 v2)), (4, .op 1 1 0 0)] [.box 31 (c31 a1) false, .box 60 (c60 x4) false], .dec false, .callv (.v (.bool r39)), .dec false, .row (c98 x42), .dec true, .row (c98 x45), .dec true]) (hx := by kernel_rfl) (hps := pc (h3) <| pc (ob60 h5) <| pc (k_palingref15_Place h7) <| pc (h8) <| pc (h9) <| pc (h10) <| pc (k_palingref15_rising h12) <| pc (h13) <| pc (k_palingref15_In h15) <| pc (h16) <| pc (k_palingref15_ports_J2 h27) <| pc (k_palingref15_ports_L3 _ _ h36) <| pc (h38) <| pc (k_palingref15_Place h40) <| pc (h41) <| pc (ob98 h43) <| pc (h44) <| pc (ob98 h46) <| pc (h47) <| pn)
                          · injection h with h; subst h; exact runLp_sound mixedOrders (live := [1, 2, 3]) (ids := [0]) (π := [.dec true, .row (c60 x4), .callv (.v (.bool r6)), .dec false, .dec false, .dec false, .callv (.v (.bool r11)), .dec false, .callv (.v (.bool r14)), .dec false, .cut [1, 2, 3, 4] [0, 2] .nor [(1, .op 0 1 0 0), (2, .v (.bool false)), (3, .v (.int .i64 v2)), (4, .op 1 1 0 0)] [.box 31 (c31 a1) false, .box 60 (c60 x4) false], .sum [1, 2, 3, 4, 5] [0, 1] (.exit 2) [(1, .op 0 1 0 0), (2, .v (.bool false)), (3, .v (.int .i64 v2)), (4, .op 1 1 0 0)] [.box 31 (c31 a1) false, .box 60 (c60 x4) false], .dec false, .callv (.v (.bool r39)), .dec false, .row (c98 x42), .dec true, .row (c98 x45), .dec false]) (hx := by kernel_rfl) (hps := pc (h3) <| pc (ob60 h5) <| pc (k_palingref15_Place h7) <| pc (h8) <| pc (h9) <| pc (h10) <| pc (k_palingref15_rising h12) <| pc (h13) <| pc (k_palingref15_In h15) <| pc (h16) <| pc (k_palingref15_ports_J2 h27) <| pc (k_palingref15_ports_L3 _ _ h36) <| pc (h38) <| pc (k_palingref15_Place h40) <| pc (h41) <| pc (ob98 h43) <| pc (h44) <| pc (ob98 h46) <| pc (h47) <| pn)
                        · injection h with h; subst h; exact runLp_sound mixedOrders (live := [1, 2, 3]) (ids := [0]) (π := [.dec true, .row (c60 x4), .callv (.v (.bool r6)), .dec false, .dec false, .dec false, .callv (.v (.bool r11)), .dec false, .callv (.v (.bool r14)), .dec false, .cut [1, 2, 3, 4] [0, 2] .nor [(1, .op 0 1 0 0), (2, .v (.bool false)), (3, .v (.int .i64 v2)), (4, .op 1 1 0 0)] [.box 31 (c31 a1) false, .box 60 (c60 x4) false], .sum [1, 2, 3, 4, 5] [0, 1] (.exit 2) [(1, .op 0 1 0 0), (2, .v (.bool false)), (3, .v (.int .i64 v2)), (4, .op 1 1 0 0)] [.box 31 (c31 a1) false, .box 60 (c60 x4) false], .dec false, .callv (.v (.bool r39)), .dec false, .row (c98 x42), .dec false]) (hx := by kernel_rfl) (hps := pc (h3) <| pc (ob60 h5) <| pc (k_palingref15_Place h7) <| pc (h8) <| pc (h9) <| pc (h10) <| pc (k_palingref15_rising h12) <| pc (h13) <| pc (k_palingref15_In h15) <| pc (h16) <| pc (k_palingref15_ports_J2 h27) <| pc (k_palingref15_ports_L3 _ _ h36) <| pc (h38) <| pc (k_palingref15_Place h40) <| pc (h41) <| pc (ob98 h43) <| pc (h44) <| pn)
    · injection h with h; subst h; exact runLp_sound mixedOrders (live := [2]) (ids := []) (π := [.dec false]) (hx := by kernel_rfl) (hps := pc (h3) <| pn)
  · rcases r with _ | _ <;> exact Ex.noConfusion

theorem k_palingref15_ports {a1 : Api_Net} {r : Bool} (h : palingref15_ports a1 = some r) :
    CallsOK Try.prog UU 64 [.agg (c31 a1)] [] (.v (.bool r)) [] := by
  unfold palingref15_ports at h
  obtain ⟨r49, h48, h⟩ := bind_out h
  rcases r49 with _ | _
  · injection h with h; subst h; exact runFn_sound mixedOrders Try.func64 rfl (keep := none) (π := [.sum [1, 2, 3] [0] .ret [(2, .v (.bool false))] []]) (hrun := by kernel_rfl) (hps := pc (k_palingref15_ports_L1 _ _ h48) <| pn)
  · injection h with h; subst h; exact runFn_sound mixedOrders Try.func64 rfl (keep := none) (π := [.sum [1, 2, 3] [0] (.exit 0) [(2, .v (.bool false))] []]) (hrun := by kernel_rfl) (hps := pc (k_palingref15_ports_L1 _ _ h48) <| pn)

theorem k_palingref15_links_L1 {a1 : Api_Net} : LoopOK Try.prog UU 0 70 (subC (codeOf Try.f65) [1, 0, 1, 0, 0]) (ρ := Unit ⊕ Unit) (palingref15_links_L1 a1)
    (fun v2 : Int => ([(1, .op 0 1 0 0), (2, .v (.bool false)), (3, .v (.int .i64 v2))] : Fr DD)) (fun v2 : Int => ([.box 31 (c31 a1) false] : Heap DD)) (fun r => match r with | Sum.inl _ => .ret | Sum.inr _ => .exit 0) (fun r => match r with | Sum.inl _ => [(2, .v (.bool false))] | Sum.inr _ => [(2, .v (.bool false))]) (fun r => match r with | Sum.inl _ => [] | Sum.inr _ => []) := by
  refine loop_sound3 (fun s q h => ?_) (fun r => ?_)
  · replace h : palingref15_links_L1 a1 s = some q := h; revert h; revert s; intro v2 h
    unfold palingref15_links_L1 at h
    rcases ite_out h with ⟨h3, h⟩ | ⟨h3, h⟩
    · obtain ⟨x4, h5, h⟩ := bind_out h
      obtain ⟨r6, h7, h⟩ := bind_out h
      rcases ite_out h with ⟨h8, h⟩ | ⟨h8, h⟩
      · injection h with h; subst h; exact runLp_sound mixedOrders (live := [2]) (ids := []) (π := [.dec true, .row (c98 x4), .callv (.v (.bool r6)), .dec true]) (hx := by kernel_rfl) (hps := pc (h3) <| pc (ob98 h5) <| pc (k_palingref15_Place h7) <| pc (h8) <| pn)
      · obtain ⟨r9, h10, h⟩ := bind_out h
        rcases ite_out h with ⟨h11, h⟩ | ⟨h11, h⟩
        · injection h with h; subst h; exact runLp_sound mixedOrders (live := [2]) (ids := []) (π := [.dec true, .row (c98 x4), .callv (.v (.bool r6)), .dec false, .callv (.v (.bool r9)), .dec true]) (hx := by kernel_rfl) (hps := pc (h3) <| pc (ob98 h5) <| pc (k_palingref15_Place h7) <| pc (h8) <| pc (k_palingref15_Place h10) <| pc (h11) <| pn)
        · obtain ⟨x12, h13, h⟩ := bind_out h
          obtain ⟨x14, h15, h⟩ := bind_out h
          rcases ite_out h with ⟨h16, h⟩ | ⟨h16, h⟩
          · injection h with h; subst h; exact runLp_sound mixedOrders (live := [2]) (ids := []) (π := [.dec true, .row (c98 x4), .callv (.v (.bool r6)), .dec false, .callv (.v (.bool r9)), .dec false, .row (c60 x12), .row (c60 x14), .dec true]) (hx := by kernel_rfl) (hps := pc (h3) <| pc (ob98 h5) <| pc (k_palingref15_Place h7) <| pc (h8) <| pc (k_palingref15_Place h10) <| pc (h11) <| pc (ob60 h13) <| pc (ob60 h15) <| pc (h16) <| pn)
          · obtain ⟨x17, h18, h⟩ := bind_out h
            rcases ite_out h with ⟨h19, h⟩ | ⟨h19, h⟩
            · injection h with h; subst h; exact runLp_sound mixedOrders (live := [2]) (ids := []) (π := [.dec true, .row (c98 x4), .callv (.v (.bool r6)), .dec false, .callv (.v (.bool r9)), .dec false, .row (c60 x12), .row (c60 x14), .dec false, .row (c60 x17), .dec true]) (hx := by kernel_rfl) (hps := pc (h3) <| pc (ob98 h5) <| pc (k_palingref15_Place h7) <| pc (h8) <| pc (k_palingref15_Place h10) <| pc (h11) <| pc (ob60 h13) <| pc (ob60 h15) <| pc (h16) <| pc (ob60 h18) <| pc (h19) <| pn)
            · obtain ⟨x20, h21, h⟩ := bind_out h
              rcases ite_out h with ⟨h22, h⟩ | ⟨h22, h⟩
              · injection h with h; subst h; exact runLp_sound mixedOrders (live := [2]) (ids := []) (π := [.dec true, .row (c98 x4), .callv (.v (.bool r6)), .dec false, .callv (.v (.bool r9)), .dec false, .row (c60 x12), .row (c60 x14), .dec false, .row (c60 x17), .dec false, .row (c60 x20), .dec true]) (hx := by kernel_rfl) (hps := pc (h3) <| pc (ob98 h5) <| pc (k_palingref15_Place h7) <| pc (h8) <| pc (k_palingref15_Place h10) <| pc (h11) <| pc (ob60 h13) <| pc (ob60 h15) <| pc (h16) <| pc (ob60 h18) <| pc (h19) <| pc (ob60 h21) <| pc (h22) <| pn)
              · injection h with h; subst h; exact runLp_sound mixedOrders (live := [1, 2, 3]) (ids := [0]) (π := [.dec true, .row (c98 x4), .callv (.v (.bool r6)), .dec false, .callv (.v (.bool r9)), .dec false, .row (c60 x12), .row (c60 x14), .dec false, .row (c60 x17), .dec false, .row (c60 x20), .dec false]) (hx := by kernel_rfl) (hps := pc (h3) <| pc (ob98 h5) <| pc (k_palingref15_Place h7) <| pc (h8) <| pc (k_palingref15_Place h10) <| pc (h11) <| pc (ob60 h13) <| pc (ob60 h15) <| pc (h16) <| pc (ob60 h18) <| pc (h19) <| pc (ob60 h21) <| pc (h22) <| pn)
    · injection h with h; subst h; exact runLp_sound mixedOrders (live := [2]) (ids := []) (π := [.dec false]) (hx := by kernel_rfl) (hps := pc (h3) <| pn)
  · rcases r with _ | _ <;> exact Ex.noConfusion

theorem k_palingref15_links {a1 : Api_Net} {r : Bool} (h : palingref15_links a1 = some r) :
    CallsOK Try.prog UU 65 [.agg (c31 a1)] [] (.v (.bool r)) [] := by
  unfold palingref15_links at h
  obtain ⟨r24, h23, h⟩ := bind_out h
  rcases r24 with _ | _
  · injection h with h; subst h; exact runFn_sound mixedOrders Try.func65 rfl (keep := none) (π := [.sum [1, 2, 3] [0] .ret [(2, .v (.bool false))] []]) (hrun := by kernel_rfl) (hps := pc (k_palingref15_links_L1 _ _ h23) <| pn)
  · injection h with h; subst h; exact runFn_sound mixedOrders Try.func65 rfl (keep := none) (π := [.sum [1, 2, 3] [0] (.exit 0) [(2, .v (.bool false))] []]) (hrun := by kernel_rfl) (hps := pc (k_palingref15_links_L1 _ _ h23) <| pn)

theorem k_palingref15_Member {a1 : Api_Port} {a2 : Int} {r : Bool} (h : palingref15_Member a1 a2 = some r) :
    CallsOK Try.prog UU 123 [.agg (c60 a1), .v (.int .i64 a2)] [] (.v (.bool r)) [] := by
  unfold palingref15_Member at h
  rcases ite_out h with ⟨h3, h⟩ | ⟨h3, h⟩
  · rcases ite_out h with ⟨h4, h⟩ | ⟨h4, h⟩
    · injection h with h; subst h; exact runFn_sound mixedOrders Try.func123 rfl (keep := none) (π := [.dec true, .dec true]) (hrun := by kernel_rfl) (hps := pc (h3) <| pc (h4) <| pn)
    · obtain ⟨r5, h6, h⟩ := bind_out h
      injection h with h; subst h; exact runFn_sound mixedOrders Try.func123 rfl (keep := none) (π := [.dec true, .dec false, .callv (.v (.bool r5))]) (hrun := by kernel_rfl) (hps := pc (h3) <| pc (h4) <| pc (k_palingref15_In h6) <| pn)
  · injection h with h; subst h; exact runFn_sound mixedOrders Try.func123 rfl (keep := none) (π := [.dec false]) (hrun := by kernel_rfl) (hps := pc (h3) <| pn)

theorem k_palingref15_rest_L1 {a1 : Api_Net} : LoopOK Try.prog UU 0 192 (subC (codeOf Try.f66) [1, 0, 1, 0, 0]) (ρ := Unit ⊕ Unit) (palingref15_rest_L1 a1)
    (fun v2 : Int => ([(1, .op 0 1 0 0), (2, .v (.bool false)), (3, .v (.int .i64 v2))] : Fr DD)) (fun v2 : Int => ([.box 31 (c31 a1) false] : Heap DD)) (fun r => match r with | Sum.inl _ => .ret | Sum.inr _ => .exit 0) (fun r => match r with | Sum.inl _ => [(2, .v (.bool false))] | Sum.inr _ => [(1, .op 0 1 0 0), (2, .v (.bool false))]) (fun r => match r with | Sum.inl _ => [] | Sum.inr _ => [.box 31 (c31 a1) false]) := by
  refine loop_sound3 (fun s q h => ?_) (fun r => ?_)
  · replace h : palingref15_rest_L1 a1 s = some q := h; revert h; revert s; intro v2 h
    unfold palingref15_rest_L1 at h
    rcases ite_out h with ⟨h3, h⟩ | ⟨h3, h⟩
    · obtain ⟨x4, h5, h⟩ := bind_out h
      obtain ⟨r6, h7, h⟩ := bind_out h
      rcases ite_out h with ⟨h8, h⟩ | ⟨h8, h⟩
      · injection h with h; subst h; exact runLp_sound mixedOrders (live := [2]) (ids := []) (π := [.dec true, .row (c118 x4), .callv (.v (.bool r6)), .dec true]) (hx := by kernel_rfl) (hps := pc (h3) <| pc (ob118 h5) <| pc (k_palingref15_Place h7) <| pc (h8) <| pn)
      · obtain ⟨r9, h10, h⟩ := bind_out h
        rcases ite_out h with ⟨h11, h⟩ | ⟨h11, h⟩
        · injection h with h; subst h; exact runLp_sound mixedOrders (live := [2]) (ids := []) (π := [.dec true, .row (c118 x4), .callv (.v (.bool r6)), .dec false, .callv (.v (.bool r9)), .dec true]) (hx := by kernel_rfl) (hps := pc (h3) <| pc (ob118 h5) <| pc (k_palingref15_Place h7) <| pc (h8) <| pc (k_palingref15_Place h10) <| pc (h11) <| pn)
        · obtain ⟨x12, h13, h⟩ := bind_out h
          obtain ⟨x14, h15, h⟩ := bind_out h
          rcases ite_out h with ⟨h16, h⟩ | ⟨h16, h⟩
          · injection h with h; subst h; exact runLp_sound mixedOrders (live := [2]) (ids := []) (π := [.dec true, .row (c118 x4), .callv (.v (.bool r6)), .dec false, .callv (.v (.bool r9)), .dec false, .row (c40 x12), .row (c60 x14), .dec true]) (hx := by kernel_rfl) (hps := pc (h3) <| pc (ob118 h5) <| pc (k_palingref15_Place h7) <| pc (h8) <| pc (k_palingref15_Place h10) <| pc (h11) <| pc (ob40 h13) <| pc (ob60 h15) <| pc (h16) <| pn)
          · obtain ⟨x17, h18, h⟩ := bind_out h
            obtain ⟨r19, h20, h⟩ := bind_out h
            rcases ite_out h with ⟨h21, h⟩ | ⟨h21, h⟩
            · injection h with h; subst h; exact runLp_sound mixedOrders (live := [2]) (ids := []) (π := [.dec true, .row (c118 x4), .callv (.v (.bool r6)), .dec false, .callv (.v (.bool r9)), .dec false, .row (c40 x12), .row (c60 x14), .dec false, .row (c60 x17), .callv (.v (.bool r19)), .dec true]) (hx := by kernel_rfl) (hps := pc (h3) <| pc (ob118 h5) <| pc (k_palingref15_Place h7) <| pc (h8) <| pc (k_palingref15_Place h10) <| pc (h11) <| pc (ob40 h13) <| pc (ob60 h15) <| pc (h16) <| pc (ob60 h18) <| pc (k_palingref15_Member h20) <| pc (h21) <| pn)
            · injection h with h; subst h; exact runLp_sound mixedOrders (live := [1, 2, 3]) (ids := [0]) (π := [.dec true, .row (c118 x4), .callv (.v (.bool r6)), .dec false, .callv (.v (.bool r9)), .dec false, .row (c40 x12), .row (c60 x14), .dec false, .row (c60 x17), .callv (.v (.bool r19)), .dec false]) (hx := by kernel_rfl) (hps := pc (h3) <| pc (ob118 h5) <| pc (k_palingref15_Place h7) <| pc (h8) <| pc (k_palingref15_Place h10) <| pc (h11) <| pc (ob40 h13) <| pc (ob60 h15) <| pc (h16) <| pc (ob60 h18) <| pc (k_palingref15_Member h20) <| pc (h21) <| pn)
    · injection h with h; subst h; exact runLp_sound mixedOrders (live := [1, 2]) (ids := [0]) (π := [.dec false]) (hx := by kernel_rfl) (hps := pc (h3) <| pn)
  · rcases r with _ | _ <;> exact Ex.noConfusion

theorem k_palingref15_rest_L2 {a1 : Api_Net} : LoopOK Try.prog UU 0 192 (subC (codeOf Try.f66) [1, 1, 0, 1, 0, 0]) (ρ := Unit ⊕ Unit) (palingref15_rest_L2 a1)
    (fun v24 : Int => ([(1, .op 0 1 0 0), (2, .v (.bool false)), (6, .v (.int .i64 v24))] : Fr DD)) (fun v24 : Int => ([.box 31 (c31 a1) false] : Heap DD)) (fun r => match r with | Sum.inl _ => .ret | Sum.inr _ => .exit 2) (fun r => match r with | Sum.inl _ => [(2, .v (.bool false))] | Sum.inr _ => [(1, .op 0 1 0 0), (2, .v (.bool false))]) (fun r => match r with | Sum.inl _ => [] | Sum.inr _ => [.box 31 (c31 a1) false]) := by
  refine loop_sound3 (fun s q h => ?_) (fun r => ?_)
  · replace h : palingref15_rest_L2 a1 s = some q := h; revert h; revert s; intro v24 h
    unfold palingref15_rest_L2 at h
    rcases ite_out h with ⟨h25, h⟩ | ⟨h25, h⟩
    · obtain ⟨x26, h27, h⟩ := bind_out h
      obtain ⟨r28, h29, h⟩ := bind_out h
      rcases ite_out h with ⟨h30, h⟩ | ⟨h30, h⟩
      · injection h with h; subst h; exact runLp_sound mixedOrders (live := [2]) (ids := []) (π := [.dec true, .row (c92 x26), .callv (.v (.bool r28)), .dec true]) (hx := by kernel_rfl) (hps := pc (h25) <| pc (ob92 h27) <| pc (k_palingref15_Place h29) <| pc (h30) <| pn)
      · obtain ⟨x31, h32, h⟩ := bind_out h
        rcases ite_out h with ⟨h33, h⟩ | ⟨h33, h⟩
        · injection h with h; subst h; exact runLp_sound mixedOrders (live := [2]) (ids := []) (π := [.dec true, .row (c92 x26), .callv (.v (.bool r28)), .dec false, .row (c92 x31), .dec true]) (hx := by kernel_rfl) (hps := pc (h25) <| pc (ob92 h27) <| pc (k_palingref15_Place h29) <| pc (h30) <| pc (ob92 h32) <| pc (h33) <| pn)
        · injection h with h; subst h; exact runLp_sound mixedOrders (live := [1, 2, 6]) (ids := [0]) (π := [.dec true, .row (c92 x26), .callv (.v (.bool r28)), .dec false, .row (c92 x31), .dec false]) (hx := by kernel_rfl) (hps := pc (h25) <| pc (ob92 h27) <| pc (k_palingref15_Place h29) <| pc (h30) <| pc (ob92 h32) <| pc (h33) <| pn)
    · injection h with h; subst h; exact runLp_sound mixedOrders (live := [1, 2]) (ids := [0]) (π := [.dec false]) (hx := by kernel_rfl) (hps := pc (h25) <| pn)
  · rcases r with _ | _ <;> exact Ex.noConfusion

theorem k_palingref15_rest_L3 {a1 : Api_Net} : LoopOK Try.prog UU 0 192 (subC (codeOf Try.f66) [1, 1, 1, 0, 1, 0, 0]) (ρ := Unit ⊕ Unit) (palingref15_rest_L3 a1)
    (fun v36 : Int => ([(1, .op 0 1 0 0), (2, .v (.bool false)), (7, .v (.int .i64 v36))] : Fr DD)) (fun v36 : Int => ([.box 31 (c31 a1) false] : Heap DD)) (fun r => match r with | Sum.inl _ => .ret | Sum.inr _ => .exit 4) (fun r => match r with | Sum.inl _ => [(2, .v (.bool false))] | Sum.inr _ => [(1, .op 0 1 0 0), (2, .v (.bool false))]) (fun r => match r with | Sum.inl _ => [] | Sum.inr _ => [.box 31 (c31 a1) false]) := by
  refine loop_sound3 (fun s q h => ?_) (fun r => ?_)
  · replace h : palingref15_rest_L3 a1 s = some q := h; revert h; revert s; intro v36 h
    unfold palingref15_rest_L3 at h
    rcases ite_out h with ⟨h37, h⟩ | ⟨h37, h⟩
    · obtain ⟨x38, h39, h⟩ := bind_out h
      obtain ⟨r40, h41, h⟩ := bind_out h
      rcases ite_out h with ⟨h42, h⟩ | ⟨h42, h⟩
      · injection h with h; subst h; exact runLp_sound mixedOrders (live := [2]) (ids := []) (π := [.dec true, .row (c94 x38), .callv (.v (.bool r40)), .dec true]) (hx := by kernel_rfl) (hps := pc (h37) <| pc (ob94 h39) <| pc (k_palingref15_Place h41) <| pc (h42) <| pn)
      · obtain ⟨r43, h44, h⟩ := bind_out h
        rcases ite_out h with ⟨h45, h⟩ | ⟨h45, h⟩
        · injection h with h; subst h; exact runLp_sound mixedOrders (live := [2]) (ids := []) (π := [.dec true, .row (c94 x38), .callv (.v (.bool r40)), .dec false, .callv (.v (.bool r43)), .dec true]) (hx := by kernel_rfl) (hps := pc (h37) <| pc (ob94 h39) <| pc (k_palingref15_Place h41) <| pc (h42) <| pc (k_palingref15_rising h44) <| pc (h45) <| pn)
        · obtain ⟨r46, h47, h⟩ := bind_out h
          rcases ite_out h with ⟨h48, h⟩ | ⟨h48, h⟩
          · injection h with h; subst h; exact runLp_sound mixedOrders (live := [2]) (ids := []) (π := [.dec true, .row (c94 x38), .callv (.v (.bool r40)), .dec false, .callv (.v (.bool r43)), .dec false, .callv (.v (.bool r46)), .dec true]) (hx := by kernel_rfl) (hps := pc (h37) <| pc (ob94 h39) <| pc (k_palingref15_Place h41) <| pc (h42) <| pc (k_palingref15_rising h44) <| pc (h45) <| pc (k_palingref15_rising h47) <| pc (h48) <| pn)
          · injection h with h; subst h; exact runLp_sound mixedOrders (live := [1, 2, 7]) (ids := [0]) (π := [.dec true, .row (c94 x38), .callv (.v (.bool r40)), .dec false, .callv (.v (.bool r43)), .dec false, .callv (.v (.bool r46)), .dec false]) (hx := by kernel_rfl) (hps := pc (h37) <| pc (ob94 h39) <| pc (k_palingref15_Place h41) <| pc (h42) <| pc (k_palingref15_rising h44) <| pc (h45) <| pc (k_palingref15_rising h47) <| pc (h48) <| pn)
    · injection h with h; subst h; exact runLp_sound mixedOrders (live := [1, 2]) (ids := [0]) (π := [.dec false]) (hx := by kernel_rfl) (hps := pc (h37) <| pn)
  · rcases r with _ | _ <;> exact Ex.noConfusion

theorem k_palingref15_rest_L4 {a1 : Api_Net} : LoopOK Try.prog UU 0 192 (subC (codeOf Try.f66) [1, 1, 1, 1, 0, 1, 0, 0]) (ρ := Unit ⊕ Unit) (palingref15_rest_L4 a1)
    (fun v51 : Int => ([(1, .op 0 1 0 0), (2, .v (.bool false)), (9, .v (.int .i64 v51))] : Fr DD)) (fun v51 : Int => ([.box 31 (c31 a1) false] : Heap DD)) (fun r => match r with | Sum.inl _ => .ret | Sum.inr _ => .exit 6) (fun r => match r with | Sum.inl _ => [(2, .v (.bool false))] | Sum.inr _ => [(2, .v (.bool false))]) (fun r => match r with | Sum.inl _ => [] | Sum.inr _ => []) := by
  refine loop_sound3 (fun s q h => ?_) (fun r => ?_)
  · replace h : palingref15_rest_L4 a1 s = some q := h; revert h; revert s; intro v51 h
    unfold palingref15_rest_L4 at h
    rcases ite_out h with ⟨h52, h⟩ | ⟨h52, h⟩
    · obtain ⟨x53, h54, h⟩ := bind_out h
      obtain ⟨r55, h56, h⟩ := bind_out h
      rcases ite_out h with ⟨h57, h⟩ | ⟨h57, h⟩
      · injection h with h; subst h; exact runLp_sound mixedOrders (live := [2]) (ids := []) (π := [.dec true, .row (c130 x53), .callv (.v (.bool r55)), .dec true]) (hx := by kernel_rfl) (hps := pc (h52) <| pc (ob130 h54) <| pc (k_palingref15_Place h56) <| pc (h57) <| pn)
      · obtain ⟨r58, h59, h⟩ := bind_out h
        rcases ite_out h with ⟨h60, h⟩ | ⟨h60, h⟩
        · injection h with h; subst h; exact runLp_sound mixedOrders (live := [2]) (ids := []) (π := [.dec true, .row (c130 x53), .callv (.v (.bool r55)), .dec false, .callv (.v (.bool r58)), .dec true]) (hx := by kernel_rfl) (hps := pc (h52) <| pc (ob130 h54) <| pc (k_palingref15_Place h56) <| pc (h57) <| pc (k_palingref15_Place h59) <| pc (h60) <| pn)
        · rcases ite_out h with ⟨h61, h⟩ | ⟨h61, h⟩
          · injection h with h; subst h; exact runLp_sound mixedOrders (live := [2]) (ids := []) (π := [.dec true, .row (c130 x53), .callv (.v (.bool r55)), .dec false, .callv (.v (.bool r58)), .dec false, .dec true]) (hx := by kernel_rfl) (hps := pc (h52) <| pc (ob130 h54) <| pc (k_palingref15_Place h56) <| pc (h57) <| pc (k_palingref15_Place h59) <| pc (h60) <| pc (h61) <| pn)
          · rcases ite_out h with ⟨h62, h⟩ | ⟨h62, h⟩
            · injection h with h; subst h; exact runLp_sound mixedOrders (live := [2]) (ids := []) (π := [.dec true, .row (c130 x53), .callv (.v (.bool r55)), .dec false, .callv (.v (.bool r58)), .dec false, .dec false, .dec true]) (hx := by kernel_rfl) (hps := pc (h52) <| pc (ob130 h54) <| pc (k_palingref15_Place h56) <| pc (h57) <| pc (k_palingref15_Place h59) <| pc (h60) <| pc (h61) <| pc (h62) <| pn)
            · obtain ⟨x63, h64, h⟩ := bind_out h
              obtain ⟨x65, h66, h⟩ := bind_out h
              rcases ite_out h with ⟨h67, h⟩ | ⟨h67, h⟩
              · injection h with h; subst h; exact runLp_sound mixedOrders (live := [2]) (ids := []) (π := [.dec true, .row (c130 x53), .callv (.v (.bool r55)), .dec false, .callv (.v (.bool r58)), .dec false, .dec false, .dec false, .row (c40 x63), .row (c94 x65), .dec true]) (hx := by kernel_rfl) (hps := pc (h52) <| pc (ob130 h54) <| pc (k_palingref15_Place h56) <| pc (h57) <| pc (k_palingref15_Place h59) <| pc (h60) <| pc (h61) <| pc (h62) <| pc (ob40 h64) <| pc (ob94 h66) <| pc (h67) <| pn)
              · obtain ⟨x68, h69, h⟩ := bind_out h
                rcases ite_out h with ⟨h70, h⟩ | ⟨h70, h⟩
                · injection h with h; subst h; exact runLp_sound mixedOrders (live := [2]) (ids := []) (π := [.dec true, .row (c130 x53), .callv (.v (.bool r55)), .dec false, .callv (.v (.bool r58)), .dec false, .dec false, .dec false, .row (c40 x63), .row (c94 x65), .dec false, .row (c40 x68), .dec true]) (hx := by kernel_rfl) (hps := pc (h52) <| pc (ob130 h54) <| pc (k_palingref15_Place h56) <| pc (h57) <| pc (k_palingref15_Place h59) <| pc (h60) <| pc (h61) <| pc (h62) <| pc (ob40 h64) <| pc (ob94 h66) <| pc (h67) <| pc (ob40 h69) <| pc (h70) <| pn)
                · injection h with h; subst h; exact runLp_sound mixedOrders (live := [1, 2, 9]) (ids := [0]) (π := [.dec true, .row (c130 x53), .callv (.v (.bool r55)), .dec false, .callv (.v (.bool r58)), .dec false, .dec false, .dec false, .row (c40 x63), .row (c94 x65), .dec false, .row (c40 x68), .dec false]) (hx := by kernel_rfl) (hps := pc (h52) <| pc (ob130 h54) <| pc (k_palingref15_Place h56) <| pc (h57) <| pc (k_palingref15_Place h59) <| pc (h60) <| pc (h61) <| pc (h62) <| pc (ob40 h64) <| pc (ob94 h66) <| pc (h67) <| pc (ob40 h69) <| pc (h70) <| pn)
    · injection h with h; subst h; exact runLp_sound mixedOrders (live := [2]) (ids := []) (π := [.dec false]) (hx := by kernel_rfl) (hps := pc (h52) <| pn)
  · rcases r with _ | _ <;> exact Ex.noConfusion

theorem k_palingref15_rest {a1 : Api_Net} {r : Bool} (h : palingref15_rest a1 = some r) :
    CallsOK Try.prog UU 66 [.agg (c31 a1)] [] (.v (.bool r)) [] := by
  unfold palingref15_rest at h
  obtain ⟨r23, h22, h⟩ := bind_out h
  rcases r23 with _ | _
  · injection h with h; subst h; exact runFn_sound mixedOrders Try.func66 rfl (keep := none) (π := [.sum [1, 2, 3] [0] .ret [(2, .v (.bool false))] []]) (hrun := by kernel_rfl) (hps := pc (k_palingref15_rest_L1 _ _ h22) <| pn)
  · obtain ⟨r35, h34, h⟩ := bind_out h
    rcases r35 with _ | _
    · injection h with h; subst h; exact runFn_sound mixedOrders Try.func66 rfl (keep := none) (π := [.sum [1, 2, 3] [0] (.exit 0) [(1, .op 0 1 0 0), (2, .v (.bool false))] [.box 31 (c31 a1) false], .sum [1, 2, 6] [0] .ret [(2, .v (.bool false))] []]) (hrun := by kernel_rfl) (hps := pc (k_palingref15_rest_L1 _ _ h22) <| pc (k_palingref15_rest_L2 _ _ h34) <| pn)
    · obtain ⟨r50, h49, h⟩ := bind_out h
      rcases r50 with _ | _
      · injection h with h; subst h; exact runFn_sound mixedOrders Try.func66 rfl (keep := none) (π := [.sum [1, 2, 3] [0] (.exit 0) [(1, .op 0 1 0 0), (2, .v (.bool false))] [.box 31 (c31 a1) false], .sum [1, 2, 6] [0] (.exit 2) [(1, .op 0 1 0 0), (2, .v (.bool false))] [.box 31 (c31 a1) false], .sum [1, 2, 7] [0] .ret [(2, .v (.bool false))] []]) (hrun := by kernel_rfl) (hps := pc (k_palingref15_rest_L1 _ _ h22) <| pc (k_palingref15_rest_L2 _ _ h34) <| pc (k_palingref15_rest_L3 _ _ h49) <| pn)
      · obtain ⟨r72, h71, h⟩ := bind_out h
        rcases r72 with _ | _
        · injection h with h; subst h; exact runFn_sound mixedOrders Try.func66 rfl (keep := none) (π := [.sum [1, 2, 3] [0] (.exit 0) [(1, .op 0 1 0 0), (2, .v (.bool false))] [.box 31 (c31 a1) false], .sum [1, 2, 6] [0] (.exit 2) [(1, .op 0 1 0 0), (2, .v (.bool false))] [.box 31 (c31 a1) false], .sum [1, 2, 7] [0] (.exit 4) [(1, .op 0 1 0 0), (2, .v (.bool false))] [.box 31 (c31 a1) false], .sum [1, 2, 9] [0] .ret [(2, .v (.bool false))] []]) (hrun := by kernel_rfl) (hps := pc (k_palingref15_rest_L1 _ _ h22) <| pc (k_palingref15_rest_L2 _ _ h34) <| pc (k_palingref15_rest_L3 _ _ h49) <| pc (k_palingref15_rest_L4 _ _ h71) <| pn)
        · injection h with h; subst h; exact runFn_sound mixedOrders Try.func66 rfl (keep := none) (π := [.sum [1, 2, 3] [0] (.exit 0) [(1, .op 0 1 0 0), (2, .v (.bool false))] [.box 31 (c31 a1) false], .sum [1, 2, 6] [0] (.exit 2) [(1, .op 0 1 0 0), (2, .v (.bool false))] [.box 31 (c31 a1) false], .sum [1, 2, 7] [0] (.exit 4) [(1, .op 0 1 0 0), (2, .v (.bool false))] [.box 31 (c31 a1) false], .sum [1, 2, 9] [0] (.exit 6) [(2, .v (.bool false))] []]) (hrun := by kernel_rfl) (hps := pc (k_palingref15_rest_L1 _ _ h22) <| pc (k_palingref15_rest_L2 _ _ h34) <| pc (k_palingref15_rest_L3 _ _ h49) <| pc (k_palingref15_rest_L4 _ _ h71) <| pn)

theorem k_palingref15_Right {a1 : Api_Net} {r : Bool} (h : palingref15_Right a1 = some r) :
    CallsOK Try.prog UU 19 [.agg (c31 a1)] [] (.v (.bool r)) [] := by
  unfold palingref15_Right at h
  rcases ite_out h with ⟨h2, h⟩ | ⟨h2, h⟩
  · injection h with h; subst h; exact runFn_sound mixedOrders Try.func19 rfl (keep := none) (π := [.dec true]) (hrun := by kernel_rfl) (hps := pc (h2) <| pn)
  · rcases ite_out h with ⟨h3, h⟩ | ⟨h3, h⟩
    · injection h with h; subst h; exact runFn_sound mixedOrders Try.func19 rfl (keep := none) (π := [.dec false, .dec true]) (hrun := by kernel_rfl) (hps := pc (h2) <| pc (h3) <| pn)
    · rcases ite_out h with ⟨h4, h⟩ | ⟨h4, h⟩
      · injection h with h; subst h; exact runFn_sound mixedOrders Try.func19 rfl (keep := none) (π := [.dec false, .dec false, .dec true]) (hrun := by kernel_rfl) (hps := pc (h2) <| pc (h3) <| pc (h4) <| pn)
      · rcases ite_out h with ⟨h5, h⟩ | ⟨h5, h⟩
        · injection h with h; subst h; exact runFn_sound mixedOrders Try.func19 rfl (keep := none) (π := [.dec false, .dec false, .dec false, .dec true]) (hrun := by kernel_rfl) (hps := pc (h2) <| pc (h3) <| pc (h4) <| pc (h5) <| pn)
        · rcases ite_out h with ⟨h6, h⟩ | ⟨h6, h⟩
          · injection h with h; subst h; exact runFn_sound mixedOrders Try.func19 rfl (keep := none) (π := [.dec false, .dec false, .dec false, .dec false, .dec true]) (hrun := by kernel_rfl) (hps := pc (h2) <| pc (h3) <| pc (h4) <| pc (h5) <| pc (h6) <| pn)
          · rcases ite_out h with ⟨h7, h⟩ | ⟨h7, h⟩
            · injection h with h; subst h; exact runFn_sound mixedOrders Try.func19 rfl (keep := none) (π := [.dec false, .dec false, .dec false, .dec false, .dec false, .dec true]) (hrun := by kernel_rfl) (hps := pc (h2) <| pc (h3) <| pc (h4) <| pc (h5) <| pc (h6) <| pc (h7) <| pn)
            · rcases ite_out h with ⟨h8, h⟩ | ⟨h8, h⟩
              · injection h with h; subst h; exact runFn_sound mixedOrders Try.func19 rfl (keep := none) (π := [.dec false, .dec false, .dec false, .dec false, .dec false, .dec false, .dec true]) (hrun := by kernel_rfl) (hps := pc (h2) <| pc (h3) <| pc (h4) <| pc (h5) <| pc (h6) <| pc (h7) <| pc (h8) <| pn)
              · rcases ite_out h with ⟨h9, h⟩ | ⟨h9, h⟩
                · injection h with h; subst h; exact runFn_sound mixedOrders Try.func19 rfl (keep := none) (π := [.dec false, .dec false, .dec false, .dec false, .dec false, .dec false, .dec false, .dec true]) (hrun := by kernel_rfl) (hps := pc (h2) <| pc (h3) <| pc (h4) <| pc (h5) <| pc (h6) <| pc (h7) <| pc (h8) <| pc (h9) <| pn)
                · obtain ⟨r10, h11, h⟩ := bind_out h
                  rcases ite_out h with ⟨h12, h⟩ | ⟨h12, h⟩
                  · obtain ⟨r13, h14, h⟩ := bind_out h
                    rcases ite_out h with ⟨h15, h⟩ | ⟨h15, h⟩
                    · obtain ⟨r16, h17, h⟩ := bind_out h
                      rcases ite_out h with ⟨h18, h⟩ | ⟨h18, h⟩
                      · obtain ⟨r19, h20, h⟩ := bind_out h
                        injection h with h; subst h; exact runFn_sound mixedOrders Try.func19 rfl (keep := none) (π := [.dec false, .dec false, .dec false, .dec false, .dec false, .dec false, .dec false, .dec false, .callv (.v (.bool r10)), .dec true, .callv (.v (.bool r13)), .dec true, .callv (.v (.bool r16)), .dec true, .callv (.v (.bool r19))]) (hrun := by kernel_rfl) (hps := pc (h2) <| pc (h3) <| pc (h4) <| pc (h5) <| pc (h6) <| pc (h7) <| pc (h8) <| pc (h9) <| pc (k_palingref15_domains h11) <| pc (h12) <| pc (k_palingref15_ports h14) <| pc (h15) <| pc (k_palingref15_links h17) <| pc (h18) <| pc (k_palingref15_rest h20) <| pn)
                      · injection h with h; subst h; exact runFn_sound mixedOrders Try.func19 rfl (keep := none) (π := [.dec false, .dec false, .dec false, .dec false, .dec false, .dec false, .dec false, .dec false, .callv (.v (.bool r10)), .dec true, .callv (.v (.bool r13)), .dec true, .callv (.v (.bool r16)), .dec false]) (hrun := by kernel_rfl) (hps := pc (h2) <| pc (h3) <| pc (h4) <| pc (h5) <| pc (h6) <| pc (h7) <| pc (h8) <| pc (h9) <| pc (k_palingref15_domains h11) <| pc (h12) <| pc (k_palingref15_ports h14) <| pc (h15) <| pc (k_palingref15_links h17) <| pc (h18) <| pn)
                    · injection h with h; subst h; exact runFn_sound mixedOrders Try.func19 rfl (keep := none) (π := [.dec false, .dec false, .dec false, .dec false, .dec false, .dec false, .dec false, .dec false, .callv (.v (.bool r10)), .dec true, .callv (.v (.bool r13)), .dec false]) (hrun := by kernel_rfl) (hps := pc (h2) <| pc (h3) <| pc (h4) <| pc (h5) <| pc (h6) <| pc (h7) <| pc (h8) <| pc (h9) <| pc (k_palingref15_domains h11) <| pc (h12) <| pc (k_palingref15_ports h14) <| pc (h15) <| pn)
                  · injection h with h; subst h; exact runFn_sound mixedOrders Try.func19 rfl (keep := none) (π := [.dec false, .dec false, .dec false, .dec false, .dec false, .dec false, .dec false, .dec false, .callv (.v (.bool r10)), .dec false]) (hrun := by kernel_rfl) (hps := pc (h2) <| pc (h3) <| pc (h4) <| pc (h5) <| pc (h6) <| pc (h7) <| pc (h8) <| pc (h9) <| pc (k_palingref15_domains h11) <| pc (h12) <| pn)

theorem k_palingref15_Members_L1 {a1 : Api_Net} {x6 : Api_Domain} : LoopOK Try.prog UU 0 50 (subC (codeOf Try.f106) [1, 1, 1, 1, 0, 1, 0, 0]) (fun s : (List Int) × Int => match s with | (l8, v9) => palingref15_Members_L1 a1 x6 l8 v9)
    (fun s : (List Int) × Int => (match s with | (l8, v9) => [(2, .op 0 1 0 0), (4, .os 1 0), (5, .os 2 (List.length l8)), (6, .op 3 1 0 0), (7, .v (.int .i64 v9))] : Fr DD)) (fun s : (List Int) × Int => (match s with | (l8, v9) => [.box 31 (c31 a1) false, .arr 3 [] 0 false, .arr 3 l8 (List.length l8) false, .box 40 (c40 x6) false] : Heap DD)) (fun r => match r with | l22 => .exit 0) (fun r => match r with | l22 => [(4, .os 0 0), (5, .os 1 (List.length l22))]) (fun r => match r with | l22 => [.arr 3 [] 0 false, .arr 3 l22 (List.length l22) false]) := by
  refine loop_sound3 (fun s q h => ?_) (fun r => ?_)
  · obtain ⟨l8, v9⟩ := s; replace h : palingref15_Members_L1 a1 x6 l8 v9 = some q := h
    unfold palingref15_Members_L1 at h
    rcases ite_out h with ⟨h10, h⟩ | ⟨h10, h⟩
    · obtain ⟨x11, h12, h⟩ := bind_out h
      rcases ite_out h with ⟨h13, h⟩ | ⟨h13, h⟩
      · obtain ⟨x14, h15, h⟩ := bind_out h
        obtain ⟨r16, h17, h⟩ := bind_out h
        rcases ite_out h with ⟨h18, h⟩ | ⟨h18, h⟩
        · rcases ite_out h with ⟨h19, h⟩ | ⟨h19, h⟩
          · injection h with h; subst h; exact runLp_sound mixedOrders (live := [2, 4, 5, 6, 7]) (ids := [0, 1, 2, 3]) (π := [.dec true, .row (c60 x11), .dec true, .row (c60 x14), .callv (.v (.bool r16)), .dec true, .obj [] (.arr 3 [v9] (List.length [v9]) false), .obj [4] (.arr 3 (l8 ++ [v9]) (List.length (l8 ++ [v9])) false)]) (hx := by kernel_rfl) (hps := pc (h10) <| pc (ob60 h12) <| pc (h13) <| pc (ob60 h15) <| pc (k_palingref15_Member h17) <| pc (h18) <| pc (bs_ob 3 [v9]) <| pc (app_ob 3 (n := (List.length l8)) (l := l8) (xs := [v9]) h19) <| pc ((rfl : ((List.length [v9]) : Nat) = (List.length [v9]))) <| pn)
          · cases h
        · injection h with h; subst h; exact runLp_sound mixedOrders (live := [2, 4, 5, 6, 7]) (ids := [0, 1, 2, 3]) (π := [.dec true, .row (c60 x11), .dec true, .row (c60 x14), .callv (.v (.bool r16)), .dec false]) (hx := by kernel_rfl) (hps := pc (h10) <| pc (ob60 h12) <| pc (h13) <| pc (ob60 h15) <| pc (k_palingref15_Member h17) <| pc (h18) <| pn)
      · injection h with h; subst h; exact runLp_sound mixedOrders (live := [2, 4, 5, 6, 7]) (ids := [0, 1, 2, 3]) (π := [.dec true, .row (c60 x11), .dec false]) (hx := by kernel_rfl) (hps := pc (h10) <| pc (ob60 h12) <| pc (h13) <| pn)
    · injection h with h; subst h; exact runLp_sound mixedOrders (live := [4, 5]) (ids := [1, 2]) (π := [.dec false]) (hx := by kernel_rfl) (hps := pc (h10) <| pn)
  · exact Ex.noConfusion

theorem k_palingref15_Members {a1 : Api_Net} {a2 : Int} {r : ((List Int))} (h : palingref15_Members a1 a2 = some r) :
    CallsOK Try.prog UU 106 [.agg (c31 a1), .v (.int .i64 a2)] [] ((fun r => match r with | l25 => .os 0 (List.length l25)) r) ((fun r => match r with | l25 => [.arr 3 l25 (List.length l25) false]) r) := by
  unfold palingref15_Members at h
  obtain ⟨r3, h4, h⟩ := bind_out h
  rcases ite_out h with ⟨h5, h⟩ | ⟨h5, h⟩
  · injection h with h; subst h; exact runFn_sound mixedOrders Try.func106 rfl (keep := some [3]) (π := [.callv (.v (.bool r3)), .dec true]) (hrun := by kernel_rfl) (hps := pc (k_palingref15_Place h4) <| pc (h5) <| pn)
  · obtain ⟨x6, h7, h⟩ := bind_out h
    obtain ⟨l22, h23, h⟩ := bind_out h
    injection h with h; subst h; exact runFn_sound mixedOrders Try.func106 rfl (keep := some [1]) (π := [.callv (.v (.bool r3)), .dec false, .row (c40 x6), .sum [2, 4, 5, 6, 7] [0, 1, 2, 4] (.exit 0) [(4, .os 0 0), (5, .os 1 (List.length l22))] [.arr 3 [] 0 false, .arr 3 l22 (List.length l22) false]]) (hrun := by kernel_rfl) (hps := pc (k_palingref15_Place h4) <| pc (h5) <| pc (ob40 h7) <| pc (k_palingref15_Members_L1 _ _ h23) <| pn)

theorem k_palingref17_Other_L1 {a1 : Api_Net} {a2 : Int} : LoopOK Try.prog UU 0 41 (subC (codeOf Try.f164) [1, 0, 1, 0, 0]) (ρ := Int ⊕ Unit) (palingref17_Other_L1 a1 a2)
    (fun v3 : Int => ([(1, .v (.int .i64 a2)), (2, .op 0 1 0 0), (4, .v (.int .i64 0)), (5, .v (.int .i64 v3))] : Fr DD)) (fun v3 : Int => ([.box 31 (c31 a1) false] : Heap DD)) (fun r => match r with | Sum.inl v16 => .ret | Sum.inr _ => .exit 0) (fun r => match r with | Sum.inl v16 => [(4, .v (.int .i64 v16))] | Sum.inr _ => [(4, .v (.int .i64 0))]) (fun r => match r with | Sum.inl v16 => [] | Sum.inr _ => []) := by
  refine loop_sound3 (fun s q h => ?_) (fun r => ?_)
  · replace h : palingref17_Other_L1 a1 a2 s = some q := h; revert h; revert s; intro v3 h
    unfold palingref17_Other_L1 at h
    rcases ite_out h with ⟨h4, h⟩ | ⟨h4, h⟩
    · obtain ⟨x5, h6, h⟩ := bind_out h
      rcases ite_out h with ⟨h7, h⟩ | ⟨h7, h⟩
      · obtain ⟨x8, h9, h⟩ := bind_out h
        injection h with h; subst h; exact runLp_sound mixedOrders (live := [4]) (ids := []) (π := [.dec true, .row (c98 x5), .dec true, .row (c98 x8)]) (hx := by kernel_rfl) (hps := pc (h4) <| pc (ob98 h6) <| pc (h7) <| pc (ob98 h9) <| pn)
      · obtain ⟨x10, h11, h⟩ := bind_out h
        rcases ite_out h with ⟨h12, h⟩ | ⟨h12, h⟩
        · obtain ⟨x13, h14, h⟩ := bind_out h
          injection h with h; subst h; exact runLp_sound mixedOrders (live := [4]) (ids := []) (π := [.dec true, .row (c98 x5), .dec false, .row (c98 x10), .dec true, .row (c98 x13)]) (hx := by kernel_rfl) (hps := pc (h4) <| pc (ob98 h6) <| pc (h7) <| pc (ob98 h11) <| pc (h12) <| pc (ob98 h14) <| pn)
        · injection h with h; subst h; exact runLp_sound mixedOrders (live := [1, 2, 4, 5]) (ids := [0]) (π := [.dec true, .row (c98 x5), .dec false, .row (c98 x10), .dec false]) (hx := by kernel_rfl) (hps := pc (h4) <| pc (ob98 h6) <| pc (h7) <| pc (ob98 h11) <| pc (h12) <| pn)
    · injection h with h; subst h; exact runLp_sound mixedOrders (live := [4]) (ids := []) (π := [.dec false]) (hx := by kernel_rfl) (hps := pc (h4) <| pn)
  · rcases r with _ | _ <;> exact Ex.noConfusion

theorem k_palingref17_Other {a1 : Api_Net} {a2 : Int} {r : Int} (h : palingref17_Other a1 a2 = some r) :
    CallsOK Try.prog UU 164 [.agg (c31 a1), .v (.int .i64 a2)] [] (.v (.int .i64 r)) [] := by
  unfold palingref17_Other at h
  obtain ⟨r18, h17, h⟩ := bind_out h
  rcases r18 with v16 | _
  · injection h with h; subst h; exact runFn_sound mixedOrders Try.func164 rfl (keep := none) (π := [.sum [1, 2, 4, 5] [0] .ret [(4, .v (.int .i64 v16))] []]) (hrun := by kernel_rfl) (hps := pc (k_palingref17_Other_L1 _ _ h17) <| pn)
  · injection h with h; subst h; exact runFn_sound mixedOrders Try.func164 rfl (keep := none) (π := [.sum [1, 2, 4, 5] [0] (.exit 0) [(4, .v (.int .i64 0))] []]) (hrun := by kernel_rfl) (hps := pc (k_palingref17_Other_L1 _ _ h17) <| pn)

end Go.Eng
