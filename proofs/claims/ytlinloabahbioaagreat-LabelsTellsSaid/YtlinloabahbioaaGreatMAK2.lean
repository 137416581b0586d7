/- Part of the proof of LabelsTells: printed mirrors of the functions, or their contracts. No conditions. -/
import Derived.Test.YtlinloabahbioaaGreatMAK1
set_option linter.unusedVariables false
set_option maxRecDepth 100000
namespace Go.Eng
open Go Go.Proofs
theorem k_links_Domain {a1 : Api_Net} {a2 : Int} {a3 : Int} {r : Int × Bool} (h : links_Domain a1 a2 a3 = some r) :
    CallsOK Tryz.prog UU 51 [.agg (c31 a1), .v (.int .i64 a2), .v (.int .i64 a3)] [] (.tup [.v (.int .i64 r.1), .v (.bool r.2)]) [] := by
  unfold links_Domain at h
  obtain ⟨r4, h5, h⟩ := bind_out h
  rcases ite_out h with ⟨h6, h⟩ | ⟨h6, h⟩
  · injection h with h; subst h; exact runFn_sound mixedOrders Tryz.func51 rfl (keep := none) (π := [.callv (.tup [.v (.int .i64 r4.1), .v (.int .i64 r4.2.1), .v (.bool r4.2.2)]), .dec true]) (hrun := by kernel_rfl) (hps := pc (k_links_Cross h5) <| pc (h6) <| pn)
  · obtain ⟨x7, h8, h⟩ := bind_out h
    obtain ⟨r9, h10, h⟩ := bind_out h
    injection h with h; subst h; exact runFn_sound mixedOrders Tryz.func51 rfl (keep := none) (π := [.callv (.tup [.v (.int .i64 r4.1), .v (.int .i64 r4.2.1), .v (.bool r4.2.2)]), .dec false, .row (c65 x7), .callv (.v (.int .i64 r9))]) (hrun := by kernel_rfl) (hps := pc (k_links_Cross h5) <| pc (h6) <| pc (ob65 h8) <| pc (k_names_Domain h10) <| pn)

theorem k_reach_Hops_L1 {a1 : Api_Net} {a2 : Int} {l8 : List Int} : LoopOK Tryz.prog UU 0 62 (subC (codeOf Tryz.f141) [1, 1, 1, 0, 1, 0, 0]) (fun s : (List Reach_Hop) × Int => match s with | (l9, v10) => reach_Hops_L1 a1 a2 l8 l9 v10)
    (fun s : (List Reach_Hop) × Int => (match s with | (l9, v10) => [(1, .v (.int .i64 a2)), (2, .op 0 1 0 0), (4, .os 1 0), (5, .os 2 (List.length l9)), (18, .os 3 (List.length l8)), (19, .v (.int .i64 ((List.length l8) : Int))), (20, .v (.int .i64 v10))] : Fr DD)) (fun s : (List Reach_Hop) × Int => (match s with | (l9, v10) => [.box 31 (c31 a1) false, .n 190, .arr 190 l9 (List.length l9) false, .arr 3 l8 (List.length l8) false] : Heap DD)) (fun r => match r with | l25 => .exit 0) (fun r => match r with | l25 => [(1, .v (.int .i64 a2)), (2, .op 0 1 0 0), (4, .os 1 0), (5, .os 2 (List.length l25))]) (fun r => match r with | l25 => [.box 31 (c31 a1) false, .n 190, .arr 190 l25 (List.length l25) false]) := by
  refine loop_sound3 (fun s q h => ?_) (fun r => ?_)
  · obtain ⟨l9, v10⟩ := s; replace h : reach_Hops_L1 a1 a2 l8 l9 v10 = some q := h
    unfold reach_Hops_L1 at h
    rcases ite_out h with ⟨h11, h⟩ | ⟨h11, h⟩
    · rcases ite_out h with ⟨h12, h⟩ | ⟨h12, h⟩
      · obtain ⟨x13, h14, h⟩ := bind_out h
        obtain ⟨x15, h16, h⟩ := bind_out h
        obtain ⟨r17, h18, h⟩ := bind_out h
        rcases ite_out h with ⟨h19, h⟩ | ⟨h19, h⟩
        · rcases ite_out h with ⟨h20, h⟩ | ⟨h20, h⟩
          · injection h with h; subst h; exact runLp_sound mixedOrders (live := [1, 2, 4, 5, 18, 19, 20]) (ids := [0, 1, 2, 3]) (π := [.dec true, .row (c3 x13), .row (c67 x15), .callv (.tup [.v (.int .i64 r17.1), .v (.bool r17.2)]), .dec true, .obj [] (.arr 190 [(⟨1, x13, r17.1, 0⟩ : Reach_Hop)] (List.length [(⟨1, x13, r17.1, 0⟩ : Reach_Hop)]) false), .obj [] (.arr 190 (l9 ++ [(⟨1, x13, r17.1, 0⟩ : Reach_Hop)]) (List.length (l9 ++ [(⟨1, x13, r17.1, 0⟩ : Reach_Hop)])) false)]) (hx := by kernel_rfl) (hps := pc (h11) <| pc (And.intro (rfl : ((List.length l8) : Nat) = (List.length l8)) (lin_ob h12)) <| pc (And.intro (rfl : ((List.length l8) : Nat) = (List.length l8)) (obn3 h14)) <| pc (ob67 h16) <| pc (k_links_Domain h18) <| pc (h19) <| pc (bs_ob 190 [(⟨1, x13, r17.1, 0⟩ : Reach_Hop)]) <| pc (app_ob 190 (n := (List.length l9)) (l := l9) (xs := [(⟨1, x13, r17.1, 0⟩ : Reach_Hop)]) h20) <| pc ((rfl : ((List.length [(⟨1, x13, r17.1, 0⟩ : Reach_Hop)]) : Nat) = (List.length [(⟨1, x13, r17.1, 0⟩ : Reach_Hop)]))) <| pn)
          · cases h
        · injection h with h; subst h; exact runLp_sound mixedOrders (live := [1, 2, 4, 5, 18, 19, 20]) (ids := [0, 1, 2, 3]) (π := [.dec true, .row (c3 x13), .row (c67 x15), .callv (.tup [.v (.int .i64 r17.1), .v (.bool r17.2)]), .dec false]) (hx := by kernel_rfl) (hps := pc (h11) <| pc (And.intro (rfl : ((List.length l8) : Nat) = (List.length l8)) (lin_ob h12)) <| pc (And.intro (rfl : ((List.length l8) : Nat) = (List.length l8)) (obn3 h14)) <| pc (ob67 h16) <| pc (k_links_Domain h18) <| pc (h19) <| pn)
      · cases h
    · injection h with h; subst h; exact runLp_sound mixedOrders (live := [1, 2, 4, 5]) (ids := [0, 1, 2]) (π := [.dec false]) (hx := by kernel_rfl) (hps := pc (h11) <| pn)
  · exact Ex.noConfusion

theorem k_reach_Hops_L2 {x28 : Api_Domain} : LoopOK Tryz.prog UU 0 62 (subC (codeOf Tryz.f141) [1, 1, 1, 1, 0, 1, 0, 0]) (fun s : (List Reach_Hop) × Int => match s with | (l30, v31) => reach_Hops_L2 x28 l30 v31)
    (fun s : (List Reach_Hop) × Int => (match s with | (l30, v31) => [(4, .os 0 0), (5, .os 1 (List.length l30)), (49, .sl 3 x28.peers), (50, .v (.int .i64 (x28.peers.length : Int))), (51, .v (.int .i64 v31))] : Fr DD)) (fun s : (List Reach_Hop) × Int => (match s with | (l30, v31) => [.n 190, .arr 190 l30 (List.length l30) false] : Heap DD)) (fun r => match r with | l38 => .exit 2) (fun r => match r with | l38 => [(4, .os 0 0), (5, .os 1 (List.length l38))]) (fun r => match r with | l38 => [.n 190, .arr 190 l38 (List.length l38) false]) := by
  refine loop_sound3 (fun s q h => ?_) (fun r => ?_)
  · obtain ⟨l30, v31⟩ := s; replace h : reach_Hops_L2 x28 l30 v31 = some q := h
    unfold reach_Hops_L2 at h
    rcases ite_out h with ⟨h32, h⟩ | ⟨h32, h⟩
    · obtain ⟨x33, h34, h⟩ := bind_out h
      rcases ite_out h with ⟨h35, h⟩ | ⟨h35, h⟩
      · injection h with h; subst h; exact runLp_sound mixedOrders (live := [4, 5, 49, 50, 51]) (ids := [0, 1]) (π := [.dec true, .row (c3 x33), .obj [] (.arr 190 [(⟨2, 0, x33, 0⟩ : Reach_Hop)] (List.length [(⟨2, 0, x33, 0⟩ : Reach_Hop)]) false), .obj [] (.arr 190 (l30 ++ [(⟨2, 0, x33, 0⟩ : Reach_Hop)]) (List.length (l30 ++ [(⟨2, 0, x33, 0⟩ : Reach_Hop)])) false)]) (hx := by kernel_rfl) (hps := pc (h32) <| pc (ob3 h34) <| pc (bs_ob 190 [(⟨2, 0, x33, 0⟩ : Reach_Hop)]) <| pc (app_ob 190 (n := (List.length l30)) (l := l30) (xs := [(⟨2, 0, x33, 0⟩ : Reach_Hop)]) h35) <| pc ((rfl : ((List.length [(⟨2, 0, x33, 0⟩ : Reach_Hop)]) : Nat) = (List.length [(⟨2, 0, x33, 0⟩ : Reach_Hop)]))) <| pn)
      · cases h
    · injection h with h; subst h; exact runLp_sound mixedOrders (live := [4, 5]) (ids := [0, 1]) (π := [.dec false]) (hx := by kernel_rfl) (hps := pc (h32) <| pn)
  · exact Ex.noConfusion

theorem k_reach_Hops {a1 : Api_Net} {a2 : Int} {r : ((List Reach_Hop))} (h : reach_Hops a1 a2 = some r) :
    CallsOK Tryz.prog UU 141 [.agg (c31 a1), .v (.int .i64 a2)] [] ((fun r => match r with | l41 => .os 0 (List.length l41)) r) ((fun r => match r with | l41 => [.arr 190 l41 (List.length l41) false]) r) := by
  unfold reach_Hops at h
  obtain ⟨r3, h4, h⟩ := bind_out h
  rcases ite_out h with ⟨h5, h⟩ | ⟨h5, h⟩
  · injection h with h; subst h; exact runFn_sound mixedOrders Tryz.func141 rfl (keep := some [2]) (π := [.callv (.v (.bool r3)), .dec true]) (hrun := by kernel_rfl) (hps := pc (k_reach_place h4) <| pc (h5) <| pn)
  · obtain ⟨l8, h7, h⟩ := bind_out h
    obtain ⟨l25, h26, h⟩ := bind_out h
    obtain ⟨x28, h29, h⟩ := bind_out h
    obtain ⟨l38, h39, h⟩ := bind_out h
    injection h with h; subst h; exact runFn_sound mixedOrders Tryz.func141 rfl (keep := some [1]) (π := [.callv (.v (.bool r3)), .dec false, .callo (.os 0 (List.length l8)) [.arr 3 l8 (List.length l8) false], .sum [1, 2, 4, 5, 18, 19, 20] [0, 1, 2, 3] (.exit 0) [(1, .v (.int .i64 a2)), (2, .op 0 1 0 0), (4, .os 1 0), (5, .os 2 (List.length l25))] [.box 31 (c31 a1) false, .n 190, .arr 190 l25 (List.length l25) false], .row (c67 x28), .sum [4, 5, 49, 50, 51] [1, 2] (.exit 2) [(4, .os 0 0), (5, .os 1 (List.length l38))] [.n 190, .arr 190 l38 (List.length l38) false]]) (hrun := by kernel_rfl) (hps := pc (k_reach_place h4) <| pc (h5) <| pc (k_names_Members h7) <| pc (im3 l8) <| pc ((rfl : ((List.length l8) : Nat) = (List.length l8))) <| pc (k_reach_Hops_L1 _ _ h26) <| pc (ob67 h29) <| pc (k_reach_Hops_L2 _ _ h39) <| pn)

theorem k_labels_hops_L1 {l5 : List Reach_Hop} : LoopOK Tryz.prog UU 0 23 (subC (codeOf Tryz.f85) [1, 1, 0, 1, 0, 0]) (fun s : (List Int) × Int => match s with | (l6, v7) => labels_hops_L1 l5 l6 v7)
    (fun s : (List Int) × Int => (match s with | (l6, v7) => [(4, .os 0 0), (5, .os 1 (List.length l6)), (10, .os 2 (List.length l5)), (11, .v (.int .i64 ((List.length l5) : Int))), (12, .v (.int .i64 v7))] : Fr DD)) (fun s : (List Int) × Int => (match s with | (l6, v7) => [.n 3, .arr 3 l6 (List.length l6) false, .arr 190 l5 (List.length l5) false] : Heap DD)) (fun r => match r with | l15 => .exit 0) (fun r => match r with | l15 => [(4, .os 0 0), (5, .os 1 (List.length l15))]) (fun r => match r with | l15 => [.n 3, .arr 3 l15 (List.length l15) false]) := by
  refine loop_sound3 (fun s q h => ?_) (fun r => ?_)
  · obtain ⟨l6, v7⟩ := s; replace h : labels_hops_L1 l5 l6 v7 = some q := h
    unfold labels_hops_L1 at h
    rcases ite_out h with ⟨h8, h⟩ | ⟨h8, h⟩
    · rcases ite_out h with ⟨h9, h⟩ | ⟨h9, h⟩
      · obtain ⟨x10, h11, h⟩ := bind_out h
        rcases ite_out h with ⟨h12, h⟩ | ⟨h12, h⟩
        · injection h with h; subst h; exact runLp_sound mixedOrders (live := [4, 5, 10, 11, 12]) (ids := [0, 1, 2]) (π := [.dec true, .row (c190 x10), .obj [] (.arr 3 [x10.domain] (List.length [x10.domain]) false), .obj [] (.arr 3 (l6 ++ [x10.domain]) (List.length (l6 ++ [x10.domain])) false)]) (hx := by kernel_rfl) (hps := pc (h8) <| pc (And.intro (rfl : ((List.length l5) : Nat) = (List.length l5)) (lin_ob h9)) <| pc (And.intro (rfl : ((List.length l5) : Nat) = (List.length l5)) (obn190 h11)) <| pc (bs_ob 3 [x10.domain]) <| pc (app_ob 3 (n := (List.length l6)) (l := l6) (xs := [x10.domain]) h12) <| pc ((rfl : ((List.length [x10.domain]) : Nat) = (List.length [x10.domain]))) <| pn)
        · cases h
      · cases h
    · injection h with h; subst h; exact runLp_sound mixedOrders (live := [4, 5]) (ids := [0, 1]) (π := [.dec false]) (hx := by kernel_rfl) (hps := pc (h8) <| pn)
  · exact Ex.noConfusion

theorem k_labels_hops {a1 : Api_Net} {a2 : Int} {r : ((List Int))} (h : labels_hops a1 a2 = some r) :
    CallsOK Tryz.prog UU 85 [.agg (c31 a1), .v (.int .i64 a2)] [] ((fun r => match r with | l18 => .os 0 (List.length l18)) r) ((fun r => match r with | l18 => [.arr 3 l18 (List.length l18) false]) r) := by
  unfold labels_hops at h
  obtain ⟨l5, h4, h⟩ := bind_out h
  obtain ⟨l15, h16, h⟩ := bind_out h
  injection h with h; subst h; exact runFn_sound mixedOrders Tryz.func85 rfl (keep := some [1]) (π := [.callo (.os 0 (List.length l5)) [.arr 190 l5 (List.length l5) false], .sum [4, 5, 10, 11, 12] [1, 2, 3] (.exit 0) [(4, .os 0 0), (5, .os 1 (List.length l15))] [.n 3, .arr 3 l15 (List.length l15) false]]) (hrun := by kernel_rfl) (hps := pc (k_reach_Hops h4) <| pc (im190 l5) <| pc ((rfl : ((List.length l5) : Nat) = (List.length l5))) <| pc (k_labels_hops_L1 _ _ h16) <| pn)

theorem k_addr_Right {a1 : Api_Prefix} {r : Bool} (h : addr_Right a1 = some r) :
    CallsOK Tryz.prog UU 205 [.agg (c163 a1)] [] (.v (.bool r)) [] := by
  unfold addr_Right at h
  rcases ite_out h with ⟨h2, h⟩ | ⟨h2, h⟩
  · injection h with h; subst h; exact runFn_sound mixedOrders Tryz.func205 rfl (keep := none) (π := [.dec true]) (hrun := by kernel_rfl) (hps := pc (h2) <| pn)
  · injection h with h; subst h; exact runFn_sound mixedOrders Tryz.func205 rfl (keep := none) (π := [.dec false]) (hrun := by kernel_rfl) (hps := pc (h2) <| pn)

theorem k_addr_rest {a1 : Api_Prefix} {r : Int} (h : addr_rest a1 = some r) :
    CallsOK Tryz.prog UU 206 [.agg (c163 a1)] [] (.v (.int .u32 r)) [] := by
  unfold addr_rest at h
  rcases ite_out h with ⟨h2, h⟩ | ⟨h2, h⟩
  · injection h with h; subst h; exact runFn_sound mixedOrders Tryz.func206 rfl (keep := none) (π := []) (hrun := by kernel_rfl) (hps := pc (of_decide_eq_true h2) <| pn)
  · cases h

theorem k_addr_First {a1 : Api_Prefix} {r : Int} (h : addr_First a1 = some r) :
    CallsOK Tryz.prog UU 181 [.agg (c163 a1)] [] (.v (.int .u32 r)) [] := by
  unfold addr_First at h
  obtain ⟨r2, h3, h⟩ := bind_out h
  rcases ite_out h with ⟨h4, h⟩ | ⟨h4, h⟩
  · injection h with h; subst h; exact runFn_sound mixedOrders Tryz.func181 rfl (keep := none) (π := [.callv (.v (.bool r2)), .dec true]) (hrun := by kernel_rfl) (hps := pc (k_addr_Right h3) <| pc (h4) <| pn)
  · obtain ⟨r5, h6, h⟩ := bind_out h
    injection h with h; subst h; exact runFn_sound mixedOrders Tryz.func181 rfl (keep := none) (π := [.callv (.v (.bool r2)), .dec false, .callv (.v (.int .u32 r5))]) (hrun := by kernel_rfl) (hps := pc (k_addr_Right h3) <| pc (h4) <| pc (k_addr_rest h6) <| pn)

theorem k_addr_Last {a1 : Api_Prefix} {r : Int} (h : addr_Last a1 = some r) :
    CallsOK Tryz.prog UU 182 [.agg (c163 a1)] [] (.v (.int .u32 r)) [] := by
  unfold addr_Last at h
  obtain ⟨r2, h3, h⟩ := bind_out h
  rcases ite_out h with ⟨h4, h⟩ | ⟨h4, h⟩
  · injection h with h; subst h; exact runFn_sound mixedOrders Tryz.func182 rfl (keep := none) (π := [.callv (.v (.bool r2)), .dec true]) (hrun := by kernel_rfl) (hps := pc (k_addr_Right h3) <| pc (h4) <| pn)
  · obtain ⟨r5, h6, h⟩ := bind_out h
    injection h with h; subst h; exact runFn_sound mixedOrders Tryz.func182 rfl (keep := none) (π := [.callv (.v (.bool r2)), .dec false, .callv (.v (.int .u32 r5))]) (hrun := by kernel_rfl) (hps := pc (k_addr_Right h3) <| pc (h4) <| pc (k_addr_rest h6) <| pn)

theorem k_route_device {a1 : Api_Net} {a2 : Int} {r : Int} (h : route_device a1 a2 = some r) :
    CallsOK Tryz.prog UU 233 [.agg (c31 a1), .v (.int .i64 a2)] [] (.v (.int .i64 r)) [] := by
  unfold route_device at h
  obtain ⟨x3, h4, h⟩ := bind_out h
  obtain ⟨x5, h6, h⟩ := bind_out h
  injection h with h; subst h; exact runFn_sound mixedOrders Tryz.func233 rfl (keep := none) (π := [.row (c165 x3), .row (c67 x5)]) (hrun := by kernel_rfl) (hps := pc (ob165 h4) <| pc (ob67 h6) <| pn)

theorem k_addr_Has {a1 : Api_Prefix} {a2 : Int} {r : Bool} (h : addr_Has a1 a2 = some r) :
    CallsOK Tryz.prog UU 234 [.agg (c163 a1), .v (.int .u32 a2)] [] (.v (.bool r)) [] := by
  unfold addr_Has at h
  obtain ⟨r3, h4, h⟩ := bind_out h
  rcases ite_out h with ⟨h5, h⟩ | ⟨h5, h⟩
  · obtain ⟨r6, h7, h⟩ := bind_out h
    injection h with h; subst h; exact runFn_sound mixedOrders Tryz.func234 rfl (keep := none) (π := [.callv (.v (.bool r3)), .dec true, .callv (.v (.int .u32 r6))]) (hrun := by kernel_rfl) (hps := pc (k_addr_Right h4) <| pc (h5) <| pc (k_addr_rest h7) <| pn)
  · injection h with h; subst h; exact runFn_sound mixedOrders Tryz.func234 rfl (keep := none) (π := [.callv (.v (.bool r3)), .dec false]) (hrun := by kernel_rfl) (hps := pc (k_addr_Right h4) <| pc (h5) <| pn)

theorem k_vrfs_Leaks_1 {a1 : Int} {a2 : Api_Vrf} {r : Bool} (h : vrfs_Leaks_1 a1 a2 = some r) :
    CallsOK Tryz.prog UU 241 [.v (.int .i64 a1), .rp (c71 a2) 0] [] (.v (.bool r)) [] := by
  unfold vrfs_Leaks_1 at h
  obtain ⟨r3, h4, h⟩ := bind_out h
  injection h with h; subst h; exact runFn_sound mixedOrders Tryz.func241 rfl (keep := none) (π := [.callv (.v (.bool r3))]) (hrun := by kernel_rfl) (hps := pc (k_slices_Contains_int h4) <| pn)

theorem k_slices_IndexFunc_int_Leaks_1_L1 {a1 : List Int} {a2 : Api_Vrf} : LoopOK Tryz.prog UU 0 19 (subC (codeOf Tryz.f243) [1, 0, 1, 0, 0]) (ρ := Int ⊕ Unit) (slices_IndexFunc_int_Leaks_1_L1 a1 a2)
    (fun v3 : Int => ([(0, .sl 3 a1), (1, .fn (.func 241) [] [.rp (c71 a2) 0]), (4, .z), (7, .v (.int .i64 (a1.length : Int))), (8, .v (.int .i64 v3))] : Fr DD)) (fun v3 : Int => ([] : Heap DD)) (fun r => match r with | Sum.inl v11 => .ret | Sum.inr _ => .exit 0) (fun r => match r with | Sum.inl v11 => [(4, .v (.int .i64 v11))] | Sum.inr _ => [(4, .z)]) (fun r => match r with | Sum.inl v11 => [] | Sum.inr _ => []) := by
  refine loop_sound3 (fun s q h => ?_) (fun r => ?_)
  · replace h : slices_IndexFunc_int_Leaks_1_L1 a1 a2 s = some q := h; revert h; revert s; intro v3 h
    unfold slices_IndexFunc_int_Leaks_1_L1 at h
    rcases ite_out h with ⟨h4, h⟩ | ⟨h4, h⟩
    · obtain ⟨x5, h6, h⟩ := bind_out h
      obtain ⟨r7, h8, h⟩ := bind_out h
      rcases ite_out h with ⟨h9, h⟩ | ⟨h9, h⟩
      · injection h with h; subst h; exact runLp_sound mixedOrders (live := [4]) (ids := []) (π := [.dec true, .row (c3 x5), .callv (.v (.bool r7)), .dec true]) (hx := by kernel_rfl) (hps := pc (h4) <| pc (ob3 h6) <| pc (k_vrfs_Leaks_1 h8) <| pc (h9) <| pn)
      · injection h with h; subst h; exact runLp_sound mixedOrders (live := [0, 1, 4, 7, 8]) (ids := []) (π := [.dec true, .row (c3 x5), .callv (.v (.bool r7)), .dec false]) (hx := by kernel_rfl) (hps := pc (h4) <| pc (ob3 h6) <| pc (k_vrfs_Leaks_1 h8) <| pc (h9) <| pn)
    · injection h with h; subst h; exact runLp_sound mixedOrders (live := [4]) (ids := []) (π := [.dec false]) (hx := by kernel_rfl) (hps := pc (h4) <| pn)
  · rcases r with _ | _ <;> exact Ex.noConfusion

theorem k_slices_IndexFunc_int_Leaks_1 {a1 : List Int} {a2 : Api_Vrf} {r : Int} (h : slices_IndexFunc_int_Leaks_1 a1 a2 = some r) :
    CallsOK Tryz.prog UU 243 [.sl 3 a1, .fn (.func 241) [] [.rp (c71 a2) 0]] [] (.v (.int .i64 r)) [] := by
  unfold slices_IndexFunc_int_Leaks_1 at h
  obtain ⟨r13, h12, h⟩ := bind_out h
  rcases r13 with v11 | _
  · injection h with h; subst h; exact runFn_sound mixedOrders Tryz.func243 rfl (keep := none) (π := [.sum [0, 1, 4, 7, 8] [] .ret [(4, .v (.int .i64 v11))] []]) (hrun := by kernel_rfl) (hps := pc (k_slices_IndexFunc_int_Leaks_1_L1 _ _ h12) <| pn)
  · injection h with h; subst h; exact runFn_sound mixedOrders Tryz.func243 rfl (keep := none) (π := [.sum [0, 1, 4, 7, 8] [] (.exit 0) [(4, .z)] []]) (hrun := by kernel_rfl) (hps := pc (k_slices_IndexFunc_int_Leaks_1_L1 _ _ h12) <| pn)

theorem k_slices_ContainsFunc_int_Leaks_1 {a1 : List Int} {a2 : Api_Vrf} {r : Bool} (h : slices_ContainsFunc_int_Leaks_1 a1 a2 = some r) :
    CallsOK Tryz.prog UU 242 [.sl 3 a1, .fn (.func 241) [] [.rp (c71 a2) 0]] [] (.v (.bool r)) [] := by
  unfold slices_ContainsFunc_int_Leaks_1 at h
  obtain ⟨r3, h4, h⟩ := bind_out h
  injection h with h; subst h; exact runFn_sound mixedOrders Tryz.func242 rfl (keep := none) (π := [.callv (.v (.int .i64 r3))]) (hrun := by kernel_rfl) (hps := pc (k_slices_IndexFunc_int_Leaks_1 h4) <| pn)

theorem k_vrfs_Leaks {a1 : Api_Net} {a2 : Int} {a3 : Int} {r : Bool} (h : vrfs_Leaks a1 a2 a3 = some r) :
    CallsOK Tryz.prog UU 240 [.agg (c31 a1), .v (.int .i64 a2), .v (.int .i64 a3)] [] (.v (.bool r)) [] := by
  unfold vrfs_Leaks at h
  rcases ite_out h with ⟨h4, h⟩ | ⟨h4, h⟩
  · injection h with h; subst h; exact runFn_sound mixedOrders Tryz.func240 rfl (keep := none) (π := [.dec true]) (hrun := by kernel_rfl) (hps := pc (h4) <| pn)
  · rcases ite_out h with ⟨h5, h⟩ | ⟨h5, h⟩
    · injection h with h; subst h; exact runFn_sound mixedOrders Tryz.func240 rfl (keep := none) (π := [.dec false, .dec true]) (hrun := by kernel_rfl) (hps := pc (h4) <| pc (h5) <| pn)
    · rcases ite_out h with ⟨h6, h⟩ | ⟨h6, h⟩
      · injection h with h; subst h; exact runFn_sound mixedOrders Tryz.func240 rfl (keep := none) (π := [.dec false, .dec false, .dec true]) (hrun := by kernel_rfl) (hps := pc (h4) <| pc (h5) <| pc (h6) <| pn)
      · rcases ite_out h with ⟨h7, h⟩ | ⟨h7, h⟩
        · injection h with h; subst h; exact runFn_sound mixedOrders Tryz.func240 rfl (keep := none) (π := [.dec false, .dec false, .dec false, .dec true]) (hrun := by kernel_rfl) (hps := pc (h4) <| pc (h5) <| pc (h6) <| pc (h7) <| pn)
        · obtain ⟨r8, h9, h⟩ := bind_out h
          rcases ite_out h with ⟨h10, h⟩ | ⟨h10, h⟩
          · injection h with h; subst h; exact runFn_sound mixedOrders Tryz.func240 rfl (keep := none) (π := [.dec false, .dec false, .dec false, .dec false, .callv (.v (.bool r8)), .dec true]) (hrun := by kernel_rfl) (hps := pc (h4) <| pc (h5) <| pc (h6) <| pc (h7) <| pc (k_names_Right h9) <| pc (h10) <| pn)
          · obtain ⟨x11, h12, h⟩ := bind_out h
            obtain ⟨x13, h14, h⟩ := bind_out h
            rcases ite_out h with ⟨h15, h⟩ | ⟨h15, h⟩
            · injection h with h; subst h; exact runFn_sound mixedOrders Tryz.func240 rfl (keep := none) (π := [.dec false, .dec false, .dec false, .dec false, .callv (.v (.bool r8)), .dec false, .row (c71 x11), .row (c71 x13), .dec true]) (hrun := by kernel_rfl) (hps := pc (h4) <| pc (h5) <| pc (h6) <| pc (h7) <| pc (k_names_Right h9) <| pc (h10) <| pc (ob71 h12) <| pc (ob71 h14) <| pc (h15) <| pn)
            · rcases ite_out h with ⟨h16, h⟩ | ⟨h16, h⟩
              · obtain ⟨r17, h18, h⟩ := bind_out h
                injection h with h; subst h; exact runFn_sound mixedOrders Tryz.func240 rfl (keep := none) (π := [.dec false, .dec false, .dec false, .dec false, .callv (.v (.bool r8)), .dec false, .row (c71 x11), .row (c71 x13), .dec false, .dec true, .callv (.v (.bool r17))]) (hrun := by kernel_rfl) (hps := pc (h4) <| pc (h5) <| pc (h6) <| pc (h7) <| pc (k_names_Right h9) <| pc (h10) <| pc (ob71 h12) <| pc (ob71 h14) <| pc (h15) <| pc (h16) <| pc (k_slices_ContainsFunc_int_Leaks_1 h18) <| pn)
              · injection h with h; subst h; exact runFn_sound mixedOrders Tryz.func240 rfl (keep := none) (π := [.dec false, .dec false, .dec false, .dec false, .callv (.v (.bool r8)), .dec false, .row (c71 x11), .row (c71 x13), .dec false, .dec false]) (hrun := by kernel_rfl) (hps := pc (h4) <| pc (h5) <| pc (h6) <| pc (h7) <| pc (k_names_Right h9) <| pc (h10) <| pc (ob71 h12) <| pc (ob71 h14) <| pc (h15) <| pc (h16) <| pn)

theorem k_route_sees {a1 : Api_Net} {a2 : Int} {a3 : Int} {r : Bool} (h : route_sees a1 a2 a3 = some r) :
    CallsOK Tryz.prog UU 235 [.agg (c31 a1), .v (.int .i64 a2), .v (.int .i64 a3)] [] (.v (.bool r)) [] := by
  unfold route_sees at h
  obtain ⟨r4, h5, h⟩ := bind_out h
  obtain ⟨r6, h7, h⟩ := bind_out h
  rcases ite_out h with ⟨h8, h⟩ | ⟨h8, h⟩
  · obtain ⟨x9, h10, h⟩ := bind_out h
    obtain ⟨x11, h12, h⟩ := bind_out h
    obtain ⟨r13, h14, h⟩ := bind_out h
    injection h with h; subst h; exact runFn_sound mixedOrders Tryz.func235 rfl (keep := none) (π := [.callv (.v (.int .i64 r4)), .callv (.v (.int .i64 r6)), .dec true, .row (c165 x9), .row (c165 x11), .callv (.v (.bool r13))]) (hrun := by kernel_rfl) (hps := pc (k_route_device h5) <| pc (k_route_device h7) <| pc (h8) <| pc (ob165 h10) <| pc (ob165 h12) <| pc (k_vrfs_Leaks h14) <| pn)
  · injection h with h; subst h; exact runFn_sound mixedOrders Tryz.func235 rfl (keep := none) (π := [.callv (.v (.int .i64 r4)), .callv (.v (.int .i64 r6)), .dec false]) (hrun := by kernel_rfl) (hps := pc (k_route_device h5) <| pc (k_route_device h7) <| pc (h8) <| pn)

theorem k_route_lookup_1 {a1 : Int} {a2 : Api_Net} {a3 : Int} {r : Int} (h : route_lookup_1 a1 a2 a3 = some r) :
    CallsOK Tryz.prog UU 236 [.v (.int .i64 a1), .rp (c31 a2) 0, .rp (c3 a3) 0] [] (.v (.int .i64 r)) [] := by
  unfold route_lookup_1 at h
  obtain ⟨x4, h5, h⟩ := bind_out h
  obtain ⟨x6, h7, h⟩ := bind_out h
  rcases ite_out h with ⟨h8, h⟩ | ⟨h8, h⟩
  · injection h with h; subst h; exact runFn_sound mixedOrders Tryz.func236 rfl (keep := none) (π := [.row (c165 x4), .row (c165 x6), .dec true]) (hrun := by kernel_rfl) (hps := pc (ob165 h5) <| pc (ob165 h7) <| pc (h8) <| pn)
  · injection h with h; subst h; exact runFn_sound mixedOrders Tryz.func236 rfl (keep := none) (π := [.row (c165 x4), .row (c165 x6), .dec false]) (hrun := by kernel_rfl) (hps := pc (ob165 h5) <| pc (ob165 h7) <| pc (h8) <| pn)

theorem k_route_lookup_2 {a1 : Int} {a2 : Int} {a3 : Api_Net} {a4 : Api_Net} {a5 : Int} {r : Int} (h : route_lookup_2 a1 a2 a3 a4 a5 = some r) :
    CallsOK Tryz.prog UU 238 [.v (.int .i64 a1), .v (.int .i64 a2), .rp (c31 a3) 0, .rp [.fn (.func 236) [] [.rp (c31 a4) 0, .rp (c3 a5) 0]] 0] [] (.v (.int .i64 r)) [] := by
  unfold route_lookup_2 at h
  obtain ⟨x6, h7, h⟩ := bind_out h
  obtain ⟨x8, h9, h⟩ := bind_out h
  rcases ite_out h with ⟨h10, h⟩ | ⟨h10, h⟩
  · injection h with h; subst h; exact runFn_sound mixedOrders Tryz.func238 rfl (keep := none) (π := [.row (c165 x6), .row (c165 x8), .dec true]) (hrun := by kernel_rfl) (hps := pc (ob165 h7) <| pc (ob165 h9) <| pc (h10) <| pn)
  · obtain ⟨r11, h12, h⟩ := bind_out h
    obtain ⟨r13, h14, h⟩ := bind_out h
    injection h with h; subst h; exact runFn_sound mixedOrders Tryz.func238 rfl (keep := none) (π := [.row (c165 x6), .row (c165 x8), .dec false, .callv (.v (.int .i64 r11)), .callv (.v (.int .i64 r13))]) (hrun := by kernel_rfl) (hps := pc (ob165 h7) <| pc (ob165 h9) <| pc (h10) <| pc (k_route_lookup_1 h12) <| pc (k_route_lookup_1 h14) <| pn)

theorem k_slices_MaxFunc_int_lookup_2_L1 {a1 : List Int} {a2 : Api_Net} {a3 : Api_Net} {a4 : Int} : LoopOK Tryz.prog UU 0 33 (subC (codeOf Tryz.f237) [1, 1, 1, 0, 1, 0, 0]) (fun s : Int × Int => match s with | (v8, v9) => slices_MaxFunc_int_lookup_2_L1 a1 a2 a3 a4 v8 v9)
    (fun s : Int × Int => (match s with | (v8, v9) => [(0, .sl 3 a1), (1, .fn (.func 238) [] [.rp (c31 a2) 0, .rp [.fn (.func 236) [] [.rp (c31 a3) 0, .rp (c3 a4) 0]] 0]), (4, .z), (5, .v (.int .i64 v8)), (6, .v (.int .i64 v9))] : Fr DD)) (fun s : Int × Int => (match s with | (v8, v9) => [] : Heap DD)) (fun r => match r with | v19 => .exit 0) (fun r => match r with | v19 => [(4, .z), (5, .v (.int .i64 v19))]) (fun r => match r with | v19 => []) := by
  refine loop_sound3 (fun s q h => ?_) (fun r => ?_)
  · obtain ⟨v8, v9⟩ := s; replace h : slices_MaxFunc_int_lookup_2_L1 a1 a2 a3 a4 v8 v9 = some q := h
    unfold slices_MaxFunc_int_lookup_2_L1 at h
    rcases ite_out h with ⟨h10, h⟩ | ⟨h10, h⟩
    · obtain ⟨x11, h12, h⟩ := bind_out h
      obtain ⟨r13, h14, h⟩ := bind_out h
      rcases ite_out h with ⟨h15, h⟩ | ⟨h15, h⟩
      · obtain ⟨x16, h17, h⟩ := bind_out h
        injection h with h; subst h; exact runLp_sound mixedOrders (live := [0, 1, 4, 5, 6]) (ids := []) (π := [.dec true, .row (c3 x11), .callv (.v (.int .i64 r13)), .dec true, .row (c3 x16)]) (hx := by kernel_rfl) (hps := pc (h10) <| pc (ob3 h12) <| pc (k_route_lookup_2 h14) <| pc (h15) <| pc (ob3 h17) <| pn)
      · injection h with h; subst h; exact runLp_sound mixedOrders (live := [0, 1, 4, 5, 6]) (ids := []) (π := [.dec true, .row (c3 x11), .callv (.v (.int .i64 r13)), .dec false]) (hx := by kernel_rfl) (hps := pc (h10) <| pc (ob3 h12) <| pc (k_route_lookup_2 h14) <| pc (h15) <| pn)
    · injection h with h; subst h; exact runLp_sound mixedOrders (live := [4, 5]) (ids := []) (π := [.dec false]) (hx := by kernel_rfl) (hps := pc (h10) <| pn)
  · exact Ex.noConfusion

theorem k_slices_MaxFunc_int_lookup_2 {a1 : List Int} {a2 : Api_Net} {a3 : Api_Net} {a4 : Int} {r : Int} (h : slices_MaxFunc_int_lookup_2 a1 a2 a3 a4 = some r) :
    CallsOK Tryz.prog UU 237 [.sl 3 a1, .fn (.func 238) [] [.rp (c31 a2) 0, .rp [.fn (.func 236) [] [.rp (c31 a3) 0, .rp (c3 a4) 0]] 0]] [] (.v (.int .i64 r)) [] := by
  unfold slices_MaxFunc_int_lookup_2 at h
  rcases ite_out h with ⟨h5, h⟩ | ⟨h5, h⟩
  · cases h
  · obtain ⟨x6, h7, h⟩ := bind_out h
    obtain ⟨v19, h20, h⟩ := bind_out h
    injection h with h; subst h; exact runFn_sound mixedOrders Tryz.func237 rfl (keep := none) (π := [.dec false, .row (c3 x6), .sum [0, 1, 4, 5, 6] [] (.exit 0) [(4, .z), (5, .v (.int .i64 v19))] []]) (hrun := by kernel_rfl) (hps := pc (h5) <| pc (ob3 h7) <| pc (k_slices_MaxFunc_int_lookup_2_L1 _ _ h20) <| pn)

theorem k_route_lookup_J2 {a1 : Api_Net} {a2 : Int} {a3 : Int} {l4 : List Int} {v5 : Int} {x7 : Api_Irb} {r : Unit ⊕ Unit} (h : route_lookup_J2 a1 a2 a3 l4 v5 x7 = some r) :
    ExecOK Tryz.prog UU 0 56 (subC (codeOf Tryz.f221) [1, 1, 0, 1, 0, 0, 1, 1, 0, 0, 1, 0]) [(2, .v (.int .u32 a3)), (3, .op 0 1 0 0), (4, .op 1 1 0 0), (6, .z), (7, .v (.bool false)), (8, .os 2 (List.length l4)), (9, .v (.int .i64 v5)), (10, .op 3 1 0 0), (13, .sl 165 a1.irbs), (14, .v (.int .i64 (a1.irbs.length : Int))), (15, .v (.int .i64 v5))] [.box 31 (c31 a1) false, .box 3 [.v (.int .i64 a2)] false, .arr 3 l4 (List.length l4) false, .box 165 (c165 x7) false] ((fun r => match r with | Sum.inl _ => .ret | Sum.inr _ => .nor) r) ((fun r => match r with | Sum.inl _ => [(6, .z), (7, .v (.bool false))] | Sum.inr _ => [(2, .v (.int .u32 a3)), (3, .op 0 1 0 0), (4, .op 1 1 0 0), (6, .z), (7, .v (.bool false)), (8, .os 2 (List.length l4)), (9, .v (.int .i64 v5)), (10, .op 3 1 0 0), (13, .sl 165 a1.irbs), (14, .v (.int .i64 (a1.irbs.length : Int))), (15, .v (.int .i64 v5))]) r) ((fun r => match r with | Sum.inl _ => [] | Sum.inr _ => [.box 31 (c31 a1) false, .box 3 [.v (.int .i64 a2)] false, .arr 3 l4 (List.length l4) false, .box 165 (c165 x7) false]) r) := by
  unfold route_lookup_J2 at h
  obtain ⟨r9, h10, h⟩ := bind_out h
  obtain ⟨r11, h12, h⟩ := bind_out h
  rcases ite_out h with ⟨h13, h⟩ | ⟨h13, h⟩
  · rcases ite_out h with ⟨h14, h⟩ | ⟨h14, h⟩
    · injection h with h; subst h; exact runLp_sound mixedOrders (live := [6, 7]) (ids := []) (π := [.callv (.v (.int .i64 r9)), .callv (.v (.int .i64 r11)), .dec true, .dec true]) (hx := by kernel_rfl) (hps := pc (k_route_device h10) <| pc (k_route_device h12) <| pc (h13) <| pc (h14) <| pn)
    · injection h with h; subst h; exact runLp_sound mixedOrders (live := [2, 3, 4, 6, 7, 8, 9, 10, 13, 14, 15]) (ids := [0, 1, 2, 3]) (π := [.callv (.v (.int .i64 r9)), .callv (.v (.int .i64 r11)), .dec true, .dec false]) (hx := by kernel_rfl) (hps := pc (k_route_device h10) <| pc (k_route_device h12) <| pc (h13) <| pc (h14) <| pn)
  · injection h with h; subst h; exact runLp_sound mixedOrders (live := [2, 3, 4, 6, 7, 8, 9, 10, 13, 14, 15]) (ids := [0, 1, 2, 3]) (π := [.callv (.v (.int .i64 r9)), .callv (.v (.int .i64 r11)), .dec false]) (hx := by kernel_rfl) (hps := pc (k_route_device h10) <| pc (k_route_device h12) <| pc (h13) <| pn)

theorem k_route_lookup_L1 {a1 : Api_Net} {a2 : Int} {a3 : Int} : LoopOK Tryz.prog UU 0 56 (subC (codeOf Tryz.f221) [1, 1, 0, 1, 0, 0]) (fun s : (List Int) × Int => match s with | (l4, v5) => route_lookup_L1 a1 a2 a3 l4 v5)
    (fun s : (List Int) × Int => (match s with | (l4, v5) => [(2, .v (.int .u32 a3)), (3, .op 0 1 0 0), (4, .op 1 1 0 0), (6, .z), (7, .v (.bool false)), (8, .os 2 (List.length l4)), (13, .sl 165 a1.irbs), (14, .v (.int .i64 (a1.irbs.length : Int))), (15, .v (.int .i64 v5))] : Fr DD)) (fun s : (List Int) × Int => (match s with | (l4, v5) => [.box 31 (c31 a1) false, .box 3 [.v (.int .i64 a2)] false, .arr 3 l4 (List.length l4) false] : Heap DD)) (fun r => match r with | Sum.inl _ => .ret | Sum.inr l29 => .exit 0) (fun r => match r with | Sum.inl _ => [(6, .z), (7, .v (.bool false))] | Sum.inr l29 => [(3, .op 0 1 0 0), (4, .op 1 1 0 0), (6, .z), (7, .v (.bool false)), (8, .os 2 (List.length l29))]) (fun r => match r with | Sum.inl _ => [] | Sum.inr l29 => [.box 31 (c31 a1) false, .box 3 [.v (.int .i64 a2)] false, .arr 3 l29 (List.length l29) false]) := by
  refine loop_sound3 (fun s q h => ?_) (fun r => ?_)
  · obtain ⟨l4, v5⟩ := s; replace h : route_lookup_L1 a1 a2 a3 l4 v5 = some q := h
    unfold route_lookup_L1 at h
    rcases ite_out h with ⟨h6, h⟩ | ⟨h6, h⟩
    · obtain ⟨x7, h8, h⟩ := bind_out h
      obtain ⟨r16, h15, h⟩ := bind_out h
      rcases r16 with _ | _
      · injection h with h; subst h; exact runLp_sound mixedOrders (live := [6, 7]) (ids := []) (π := [.dec true, .row (c165 x7), .cut [2, 3, 4, 6, 7, 8, 9, 10, 13, 14, 15] [0, 1, 2, 3] .ret [(6, .z), (7, .v (.bool false))] []]) (hx := by kernel_rfl) (hps := pc (h6) <| pc (ob165 h8) <| pc (k_route_lookup_J2 h15) <| pn)
      · obtain ⟨r17, h18, h⟩ := bind_out h
        rcases ite_out h with ⟨h19, h⟩ | ⟨h19, h⟩
        · obtain ⟨r20, h21, h⟩ := bind_out h
          rcases ite_out h with ⟨h22, h⟩ | ⟨h22, h⟩
          · rcases ite_out h with ⟨h23, h⟩ | ⟨h23, h⟩
            · injection h with h; subst h; exact runLp_sound mixedOrders (live := [2, 3, 4, 6, 7, 8, 13, 14, 15]) (ids := [0, 1, 2]) (π := [.dec true, .row (c165 x7), .cut [2, 3, 4, 6, 7, 8, 9, 10, 13, 14, 15] [0, 1, 2, 3] .nor [(2, .v (.int .u32 a3)), (3, .op 0 1 0 0), (4, .op 1 1 0 0), (6, .z), (7, .v (.bool false)), (8, .os 2 (List.length l4)), (9, .v (.int .i64 v5)), (10, .op 3 1 0 0), (13, .sl 165 a1.irbs), (14, .v (.int .i64 (a1.irbs.length : Int))), (15, .v (.int .i64 v5))] [.box 31 (c31 a1) false, .box 3 [.v (.int .i64 a2)] false, .arr 3 l4 (List.length l4) false, .box 165 (c165 x7) false], .callv (.v (.bool r17)), .dec true, .callv (.v (.bool r20)), .dec true, .obj [] (.arr 3 [v5] (List.length [v5]) false), .obj [] (.arr 3 (l4 ++ [v5]) (List.length (l4 ++ [v5])) false)]) (hx := by kernel_rfl) (hps := pc (h6) <| pc (ob165 h8) <| pc (k_route_lookup_J2 h15) <| pc (k_addr_Has h18) <| pc (h19) <| pc (k_route_sees h21) <| pc (h22) <| pc (bs_ob 3 [v5]) <| pc (app_ob 3 (n := (List.length l4)) (l := l4) (xs := [v5]) h23) <| pc ((rfl : ((List.length [v5]) : Nat) = (List.length [v5]))) <| pn)
            · cases h
          · injection h with h; subst h; exact runLp_sound mixedOrders (live := [2, 3, 4, 6, 7, 8, 13, 14, 15]) (ids := [0, 1, 2]) (π := [.dec true, .row (c165 x7), .cut [2, 3, 4, 6, 7, 8, 9, 10, 13, 14, 15] [0, 1, 2, 3] .nor [(2, .v (.int .u32 a3)), (3, .op 0 1 0 0), (4, .op 1 1 0 0), (6, .z), (7, .v (.bool false)), (8, .os 2 (List.length l4)), (9, .v (.int .i64 v5)), (10, .op 3 1 0 0), (13, .sl 165 a1.irbs), (14, .v (.int .i64 (a1.irbs.length : Int))), (15, .v (.int .i64 v5))] [.box 31 (c31 a1) false, .box 3 [.v (.int .i64 a2)] false, .arr 3 l4 (List.length l4) false, .box 165 (c165 x7) false], .callv (.v (.bool r17)), .dec true, .callv (.v (.bool r20)), .dec false]) (hx := by kernel_rfl) (hps := pc (h6) <| pc (ob165 h8) <| pc (k_route_lookup_J2 h15) <| pc (k_addr_Has h18) <| pc (h19) <| pc (k_route_sees h21) <| pc (h22) <| pn)
        · injection h with h; subst h; exact runLp_sound mixedOrders (live := [2, 3, 4, 6, 7, 8, 13, 14, 15]) (ids := [0, 1, 2]) (π := [.dec true, .row (c165 x7), .cut [2, 3, 4, 6, 7, 8, 9, 10, 13, 14, 15] [0, 1, 2, 3] .nor [(2, .v (.int .u32 a3)), (3, .op 0 1 0 0), (4, .op 1 1 0 0), (6, .z), (7, .v (.bool false)), (8, .os 2 (List.length l4)), (9, .v (.int .i64 v5)), (10, .op 3 1 0 0), (13, .sl 165 a1.irbs), (14, .v (.int .i64 (a1.irbs.length : Int))), (15, .v (.int .i64 v5))] [.box 31 (c31 a1) false, .box 3 [.v (.int .i64 a2)] false, .arr 3 l4 (List.length l4) false, .box 165 (c165 x7) false], .callv (.v (.bool r17)), .dec false]) (hx := by kernel_rfl) (hps := pc (h6) <| pc (ob165 h8) <| pc (k_route_lookup_J2 h15) <| pc (k_addr_Has h18) <| pc (h19) <| pn)
    · injection h with h; subst h; exact runLp_sound mixedOrders (live := [3, 4, 6, 7, 8]) (ids := [0, 1, 2]) (π := [.dec false]) (hx := by kernel_rfl) (hps := pc (h6) <| pn)
  · rcases r with _ | _ <;> exact Ex.noConfusion

theorem k_route_lookup {a1 : Api_Net} {a2 : Int} {a3 : Int} {r : Int × Bool} (h : route_lookup a1 a2 a3 = some r) :
    CallsOK Tryz.prog UU 221 [.agg (c31 a1), .v (.int .i64 a2), .v (.int .u32 a3)] [] (.tup [.v (.int .i64 r.1), .v (.bool r.2)]) [] := by
  unfold route_lookup at h
  obtain ⟨r31, h30, h⟩ := bind_out h
  rcases r31 with _ | l29
  · injection h with h; subst h; exact runFn_sound mixedOrders Tryz.func221 rfl (keep := none) (π := [.sum [2, 3, 4, 6, 7, 8, 13, 14, 15] [0, 1, 2] .ret [(6, .z), (7, .v (.bool false))] []]) (hrun := by kernel_rfl) (hps := pc (k_route_lookup_L1 _ _ h30) <| pn)
  · rcases ite_out h with ⟨h32, h⟩ | ⟨h32, h⟩
    · injection h with h; subst h; exact runFn_sound mixedOrders Tryz.func221 rfl (keep := none) (π := [.sum [2, 3, 4, 6, 7, 8, 13, 14, 15] [0, 1, 2] (.exit 0) [(3, .op 0 1 0 0), (4, .op 1 1 0 0), (6, .z), (7, .v (.bool false)), (8, .os 2 (List.length l29))] [.box 31 (c31 a1) false, .box 3 [.v (.int .i64 a2)] false, .arr 3 l29 (List.length l29) false], .dec true]) (hrun := by kernel_rfl) (hps := pc (k_route_lookup_L1 _ _ h30) <| pc ((rfl : ((List.length l29) : Nat) = (List.length l29))) <| pc (h32) <| pn)
    · obtain ⟨r33, h34, h⟩ := bind_out h
      injection h with h; subst h; exact runFn_sound mixedOrders Tryz.func221 rfl (keep := none) (π := [.sum [2, 3, 4, 6, 7, 8, 13, 14, 15] [0, 1, 2] (.exit 0) [(3, .op 0 1 0 0), (4, .op 1 1 0 0), (6, .z), (7, .v (.bool false)), (8, .os 2 (List.length l29))] [.box 31 (c31 a1) false, .box 3 [.v (.int .i64 a2)] false, .arr 3 l29 (List.length l29) false], .dec false, .callv (.v (.int .i64 r33))]) (hrun := by kernel_rfl) (hps := pc (k_route_lookup_L1 _ _ h30) <| pc ((rfl : ((List.length l29) : Nat) = (List.length l29))) <| pc (h32) <| pc (k_slices_MaxFunc_int_lookup_2 h34) <| pc ((rfl : ((List.length l29) : Nat) = (List.length l29))) <| pn)

theorem k_route_Lookup {a1 : Api_Net} {a2 : Int} {a3 : Int} {r : Int × Bool} (h : route_Lookup a1 a2 a3 = some r) :
    CallsOK Tryz.prog UU 195 [.agg (c31 a1), .v (.int .i64 a2), .v (.int .u32 a3)] [] (.tup [.v (.int .i64 r.1), .v (.bool r.2)]) [] := by
  unfold route_Lookup at h
  rcases ite_out h with ⟨h4, h⟩ | ⟨h4, h⟩
  · injection h with h; subst h; exact runFn_sound mixedOrders Tryz.func195 rfl (keep := none) (π := [.dec true]) (hrun := by kernel_rfl) (hps := pc (h4) <| pn)
  · rcases ite_out h with ⟨h5, h⟩ | ⟨h5, h⟩
    · injection h with h; subst h; exact runFn_sound mixedOrders Tryz.func195 rfl (keep := none) (π := [.dec false, .dec true]) (hrun := by kernel_rfl) (hps := pc (h4) <| pc (h5) <| pn)
    · obtain ⟨r6, h7, h⟩ := bind_out h
      rcases ite_out h with ⟨h8, h⟩ | ⟨h8, h⟩
      · injection h with h; subst h; exact runFn_sound mixedOrders Tryz.func195 rfl (keep := none) (π := [.dec false, .dec false, .callv (.v (.bool r6)), .dec true]) (hrun := by kernel_rfl) (hps := pc (h4) <| pc (h5) <| pc (k_names_Right h7) <| pc (h8) <| pn)
      · obtain ⟨r9, h10, h⟩ := bind_out h
        injection h with h; subst h; exact runFn_sound mixedOrders Tryz.func195 rfl (keep := none) (π := [.dec false, .dec false, .callv (.v (.bool r6)), .dec false, .callv (.tup [.v (.int .i64 r9.1), .v (.bool r9.2)])]) (hrun := by kernel_rfl) (hps := pc (h4) <| pc (h5) <| pc (k_names_Right h7) <| pc (h8) <| pc (k_route_lookup h10) <| pn)

theorem k_choose_Address_1 {a1 : Api_Irb} {a2 : Int} {r : Bool} (h : choose_Address_1 a1 a2 = some r) :
    CallsOK Tryz.prog UU 197 [.agg (c165 a1), .rp (c48 a2) 0] [] (.v (.bool r)) [] := by
  unfold choose_Address_1 at h
  injection h with h; subst h; exact runFn_sound mixedOrders Tryz.func197 rfl (keep := none) (π := []) (hrun := by kernel_rfl) (hps := pn)

theorem k_slices_IndexFunc_Irb_Address_1_L1 {a1 : List Api_Irb} {a2 : Int} : LoopOK Tryz.prog UU 0 19 (subC (codeOf Tryz.f222) [1, 0, 1, 0, 0]) (ρ := Int ⊕ Unit) (slices_IndexFunc_Irb_Address_1_L1 a1 a2)
    (fun v3 : Int => ([(0, .sl 165 a1), (1, .fn (.func 197) [] [.rp (c48 a2) 0]), (4, .z), (7, .v (.int .i64 (a1.length : Int))), (8, .v (.int .i64 v3))] : Fr DD)) (fun v3 : Int => ([] : Heap DD)) (fun r => match r with | Sum.inl v11 => .ret | Sum.inr _ => .exit 0) (fun r => match r with | Sum.inl v11 => [(4, .v (.int .i64 v11))] | Sum.inr _ => [(4, .z)]) (fun r => match r with | Sum.inl v11 => [] | Sum.inr _ => []) := by
  refine loop_sound3 (fun s q h => ?_) (fun r => ?_)
  · replace h : slices_IndexFunc_Irb_Address_1_L1 a1 a2 s = some q := h; revert h; revert s; intro v3 h
    unfold slices_IndexFunc_Irb_Address_1_L1 at h
    rcases ite_out h with ⟨h4, h⟩ | ⟨h4, h⟩
    · obtain ⟨x5, h6, h⟩ := bind_out h
      obtain ⟨r7, h8, h⟩ := bind_out h
      rcases ite_out h with ⟨h9, h⟩ | ⟨h9, h⟩
      · injection h with h; subst h; exact runLp_sound mixedOrders (live := [4]) (ids := []) (π := [.dec true, .row (c165 x5), .callv (.v (.bool r7)), .dec true]) (hx := by kernel_rfl) (hps := pc (h4) <| pc (ob165 h6) <| pc (k_choose_Address_1 h8) <| pc (h9) <| pn)
      · injection h with h; subst h; exact runLp_sound mixedOrders (live := [0, 1, 4, 7, 8]) (ids := []) (π := [.dec true, .row (c165 x5), .callv (.v (.bool r7)), .dec false]) (hx := by kernel_rfl) (hps := pc (h4) <| pc (ob165 h6) <| pc (k_choose_Address_1 h8) <| pc (h9) <| pn)
    · injection h with h; subst h; exact runLp_sound mixedOrders (live := [4]) (ids := []) (π := [.dec false]) (hx := by kernel_rfl) (hps := pc (h4) <| pn)
  · rcases r with _ | _ <;> exact Ex.noConfusion

theorem k_slices_IndexFunc_Irb_Address_1 {a1 : List Api_Irb} {a2 : Int} {r : Int} (h : slices_IndexFunc_Irb_Address_1 a1 a2 = some r) :
    CallsOK Tryz.prog UU 222 [.sl 165 a1, .fn (.func 197) [] [.rp (c48 a2) 0]] [] (.v (.int .i64 r)) [] := by
  unfold slices_IndexFunc_Irb_Address_1 at h
  obtain ⟨r13, h12, h⟩ := bind_out h
  rcases r13 with v11 | _
  · injection h with h; subst h; exact runFn_sound mixedOrders Tryz.func222 rfl (keep := none) (π := [.sum [0, 1, 4, 7, 8] [] .ret [(4, .v (.int .i64 v11))] []]) (hrun := by kernel_rfl) (hps := pc (k_slices_IndexFunc_Irb_Address_1_L1 _ _ h12) <| pn)
  · injection h with h; subst h; exact runFn_sound mixedOrders Tryz.func222 rfl (keep := none) (π := [.sum [0, 1, 4, 7, 8] [] (.exit 0) [(4, .z)] []]) (hrun := by kernel_rfl) (hps := pc (k_slices_IndexFunc_Irb_Address_1_L1 _ _ h12) <| pn)

theorem k_slices_ContainsFunc_Irb_Address_1 {a1 : List Api_Irb} {a2 : Int} {r : Bool} (h : slices_ContainsFunc_Irb_Address_1 a1 a2 = some r) :
    CallsOK Tryz.prog UU 196 [.sl 165 a1, .fn (.func 197) [] [.rp (c48 a2) 0]] [] (.v (.bool r)) [] := by
  unfold slices_ContainsFunc_Irb_Address_1 at h
  obtain ⟨r3, h4, h⟩ := bind_out h
  injection h with h; subst h; exact runFn_sound mixedOrders Tryz.func196 rfl (keep := none) (π := [.callv (.v (.int .i64 r3))]) (hrun := by kernel_rfl) (hps := pc (k_slices_IndexFunc_Irb_Address_1 h4) <| pn)

theorem k_choose_past_1 {a1 : Api_Irb} {a2 : Int} {r : Bool} (h : choose_past_1 a1 a2 = some r) :
    CallsOK Tryz.prog UU 223 [.agg (c165 a1), .rp (c48 a2) 0] [] (.v (.bool r)) [] := by
  unfold choose_past_1 at h
  injection h with h; subst h; exact runFn_sound mixedOrders Tryz.func223 rfl (keep := none) (π := []) (hrun := by kernel_rfl) (hps := pn)

theorem k_slices_IndexFunc_Irb_past_1_L1 {a1 : List Api_Irb} {a2 : Int} : LoopOK Tryz.prog UU 0 19 (subC (codeOf Tryz.f222) [1, 0, 1, 0, 0]) (ρ := Int ⊕ Unit) (slices_IndexFunc_Irb_past_1_L1 a1 a2)
    (fun v3 : Int => ([(0, .sl 165 a1), (1, .fn (.func 223) [] [.rp (c48 a2) 0]), (4, .z), (7, .v (.int .i64 (a1.length : Int))), (8, .v (.int .i64 v3))] : Fr DD)) (fun v3 : Int => ([] : Heap DD)) (fun r => match r with | Sum.inl v11 => .ret | Sum.inr _ => .exit 0) (fun r => match r with | Sum.inl v11 => [(4, .v (.int .i64 v11))] | Sum.inr _ => [(4, .z)]) (fun r => match r with | Sum.inl v11 => [] | Sum.inr _ => []) := by
  refine loop_sound3 (fun s q h => ?_) (fun r => ?_)
  · replace h : slices_IndexFunc_Irb_past_1_L1 a1 a2 s = some q := h; revert h; revert s; intro v3 h
    unfold slices_IndexFunc_Irb_past_1_L1 at h
    rcases ite_out h with ⟨h4, h⟩ | ⟨h4, h⟩
    · obtain ⟨x5, h6, h⟩ := bind_out h
      obtain ⟨r7, h8, h⟩ := bind_out h
      rcases ite_out h with ⟨h9, h⟩ | ⟨h9, h⟩
      · injection h with h; subst h; exact runLp_sound mixedOrders (live := [4]) (ids := []) (π := [.dec true, .row (c165 x5), .callv (.v (.bool r7)), .dec true]) (hx := by kernel_rfl) (hps := pc (h4) <| pc (ob165 h6) <| pc (k_choose_past_1 h8) <| pc (h9) <| pn)
      · injection h with h; subst h; exact runLp_sound mixedOrders (live := [0, 1, 4, 7, 8]) (ids := []) (π := [.dec true, .row (c165 x5), .callv (.v (.bool r7)), .dec false]) (hx := by kernel_rfl) (hps := pc (h4) <| pc (ob165 h6) <| pc (k_choose_past_1 h8) <| pc (h9) <| pn)
    · injection h with h; subst h; exact runLp_sound mixedOrders (live := [4]) (ids := []) (π := [.dec false]) (hx := by kernel_rfl) (hps := pc (h4) <| pn)
  · rcases r with _ | _ <;> exact Ex.noConfusion

theorem k_slices_IndexFunc_Irb_past_1 {a1 : List Api_Irb} {a2 : Int} {r : Int} (h : slices_IndexFunc_Irb_past_1 a1 a2 = some r) :
    CallsOK Tryz.prog UU 222 [.sl 165 a1, .fn (.func 223) [] [.rp (c48 a2) 0]] [] (.v (.int .i64 r)) [] := by
  unfold slices_IndexFunc_Irb_past_1 at h
  obtain ⟨r13, h12, h⟩ := bind_out h
  rcases r13 with v11 | _
  · injection h with h; subst h; exact runFn_sound mixedOrders Tryz.func222 rfl (keep := none) (π := [.sum [0, 1, 4, 7, 8] [] .ret [(4, .v (.int .i64 v11))] []]) (hrun := by kernel_rfl) (hps := pc (k_slices_IndexFunc_Irb_past_1_L1 _ _ h12) <| pn)
  · injection h with h; subst h; exact runFn_sound mixedOrders Tryz.func222 rfl (keep := none) (π := [.sum [0, 1, 4, 7, 8] [] (.exit 0) [(4, .z)] []]) (hrun := by kernel_rfl) (hps := pc (k_slices_IndexFunc_Irb_past_1_L1 _ _ h12) <| pn)

theorem k_slices_ContainsFunc_Irb_past_1 {a1 : List Api_Irb} {a2 : Int} {r : Bool} (h : slices_ContainsFunc_Irb_past_1 a1 a2 = some r) :
    CallsOK Tryz.prog UU 196 [.sl 165 a1, .fn (.func 223) [] [.rp (c48 a2) 0]] [] (.v (.bool r)) [] := by
  unfold slices_ContainsFunc_Irb_past_1 at h
  obtain ⟨r3, h4, h⟩ := bind_out h
  injection h with h; subst h; exact runFn_sound mixedOrders Tryz.func196 rfl (keep := none) (π := [.callv (.v (.int .i64 r3))]) (hrun := by kernel_rfl) (hps := pc (k_slices_IndexFunc_Irb_past_1 h4) <| pn)

theorem k_choose_past {a1 : Api_Net} {a2 : Int} {a3 : Int} {r : Int} (h : choose_past a1 a2 a3 = some r) :
    CallsOK Tryz.prog UU 198 [.agg (c31 a1), .v (.int .u32 a2), .v (.int .i64 a3)] [] (.v (.int .i64 r)) [] := by
  unfold choose_past at h
  obtain ⟨r4, h5, h⟩ := bind_out h
  rcases ite_out h with ⟨h6, h⟩ | ⟨h6, h⟩
  · injection h with h; subst h; exact runFn_sound mixedOrders Tryz.func198 rfl (keep := none) (π := [.callv (.v (.bool r4)), .dec true]) (hrun := by kernel_rfl) (hps := pc (k_slices_ContainsFunc_Irb_past_1 h5) <| pc (h6) <| pn)
  · obtain ⟨x7, h8, h⟩ := bind_out h
    obtain ⟨r9, h10, h⟩ := bind_out h
    injection h with h; subst h; exact runFn_sound mixedOrders Tryz.func198 rfl (keep := none) (π := [.callv (.v (.bool r4)), .dec false, .row (c165 x7), .callv (.v (.int .u32 r9))]) (hrun := by kernel_rfl) (hps := pc (k_slices_ContainsFunc_Irb_past_1 h5) <| pc (h6) <| pc (ob165 h8) <| pc (k_addr_Last h10) <| pn)

theorem k_choose_Address_L1 {a1 : Api_Net} {a2 : Int} {a3 : Int} {r15 : Int} : LoopOK Tryz.prog UU 0 91 (subC (codeOf Tryz.f172) [1, 0, 1, 1, 1, 1, 0, 0, 0]) (ρ := Int ⊕ Unit) (choose_Address_L1 a1 a2 a3 r15)
    (fun v17 : Int => ([(1, .v (.int .i64 a2)), (2, .v (.int .i64 a3)), (3, .op 0 1 0 0), (6, .v (.int .u32 0)), (7, .v (.bool false)), (9, .v (.int .i64 v17)), (10, .v (.int .i64 (wr_i64 r15)))] : Fr DD)) (fun v17 : Int => ([.box 31 (c31 a1) false] : Heap DD)) (fun r => match r with | Sum.inl v44 => .ret | Sum.inr _ => .exit 0) (fun r => match r with | Sum.inl v44 => [(6, .v (.int .u32 v44)), (7, .v (.bool true))] | Sum.inr _ => [(6, .v (.int .u32 0)), (7, .v (.bool false))]) (fun r => match r with | Sum.inl v44 => [] | Sum.inr _ => []) := by
  refine loop_sound3 (fun s q h => ?_) (fun r => ?_)
  · replace h : choose_Address_L1 a1 a2 a3 r15 s = some q := h; revert h; revert s; intro v17 h
    unfold choose_Address_L1 at h
    rcases ite_out h with ⟨h18, h⟩ | ⟨h18, h⟩
    · obtain ⟨r19, h20, h⟩ := bind_out h
      obtain ⟨r21, h22, h⟩ := bind_out h
      rcases ite_out h with ⟨h23, h⟩ | ⟨h23, h⟩
      · rcases ite_out h with ⟨h24, h⟩ | ⟨h24, h⟩
        · rcases ite_out h with ⟨h25, h⟩ | ⟨h25, h⟩
          · injection h with h; subst h; exact runLp_sound mixedOrders (live := [6, 7]) (ids := []) (π := [.dec true, .callv (.tup [.v (.int .i64 r19.1), .v (.bool r19.2)]), .callv (.v (.bool r21)), .dec true, .dec true, .dec true]) (hx := by kernel_rfl) (hps := pc (h18) <| pc (k_route_Lookup h20) <| pc (k_slices_ContainsFunc_Irb_Address_1 h22) <| pc (h23) <| pc (h24) <| pc (h25) <| pn)
          · rcases ite_out h with ⟨h26, h⟩ | ⟨h26, h⟩
            · obtain ⟨r27, h28, h⟩ := bind_out h
              injection h with h; subst h; exact runLp_sound mixedOrders (live := [1, 2, 3, 6, 7, 9, 10]) (ids := [0]) (π := [.dec true, .callv (.tup [.v (.int .i64 r19.1), .v (.bool r19.2)]), .callv (.v (.bool r21)), .dec true, .dec true, .dec false, .dec true, .dec false, .callv (.v (.int .i64 r27))]) (hx := by kernel_rfl) (hps := pc (h18) <| pc (k_route_Lookup h20) <| pc (k_slices_ContainsFunc_Irb_Address_1 h22) <| pc (h23) <| pc (h24) <| pc (h25) <| pc (h26) <| pc (h25) <| pc (k_choose_past h28) <| pn)
            · obtain ⟨r29, h30, h⟩ := bind_out h
              injection h with h; subst h; exact runLp_sound mixedOrders (live := [1, 2, 3, 6, 7, 9, 10]) (ids := [0]) (π := [.dec true, .callv (.tup [.v (.int .i64 r19.1), .v (.bool r19.2)]), .callv (.v (.bool r21)), .dec true, .dec true, .dec false, .dec false, .callv (.v (.int .i64 r29))]) (hx := by kernel_rfl) (hps := pc (h18) <| pc (k_route_Lookup h20) <| pc (k_slices_ContainsFunc_Irb_Address_1 h22) <| pc (h23) <| pc (h24) <| pc (h25) <| pc (h26) <| pc (k_choose_past h30) <| pn)
        · rcases ite_out h with ⟨h31, h⟩ | ⟨h31, h⟩
          · rcases ite_out h with ⟨h32, h⟩ | ⟨h32, h⟩
            · injection h with h; subst h; exact runLp_sound mixedOrders (live := [6, 7]) (ids := []) (π := [.dec true, .callv (.tup [.v (.int .i64 r19.1), .v (.bool r19.2)]), .callv (.v (.bool r21)), .dec true, .dec false, .dec true, .dec true]) (hx := by kernel_rfl) (hps := pc (h18) <| pc (k_route_Lookup h20) <| pc (k_slices_ContainsFunc_Irb_Address_1 h22) <| pc (h23) <| pc (h24) <| pc (h31) <| pc (h32) <| pn)
            · obtain ⟨r33, h34, h⟩ := bind_out h
              injection h with h; subst h; exact runLp_sound mixedOrders (live := [1, 2, 3, 6, 7, 9, 10]) (ids := [0]) (π := [.dec true, .callv (.tup [.v (.int .i64 r19.1), .v (.bool r19.2)]), .callv (.v (.bool r21)), .dec true, .dec false, .dec true, .dec false, .callv (.v (.int .i64 r33))]) (hx := by kernel_rfl) (hps := pc (h18) <| pc (k_route_Lookup h20) <| pc (k_slices_ContainsFunc_Irb_Address_1 h22) <| pc (h23) <| pc (h24) <| pc (h31) <| pc (h32) <| pc (k_choose_past h34) <| pn)
          · obtain ⟨r35, h36, h⟩ := bind_out h
            injection h with h; subst h; exact runLp_sound mixedOrders (live := [1, 2, 3, 6, 7, 9, 10]) (ids := [0]) (π := [.dec true, .callv (.tup [.v (.int .i64 r19.1), .v (.bool r19.2)]), .callv (.v (.bool r21)), .dec true, .dec false, .dec false, .callv (.v (.int .i64 r35))]) (hx := by kernel_rfl) (hps := pc (h18) <| pc (k_route_Lookup h20) <| pc (k_slices_ContainsFunc_Irb_Address_1 h22) <| pc (h23) <| pc (h24) <| pc (h31) <| pc (k_choose_past h36) <| pn)
      · rcases ite_out h with ⟨h37, h⟩ | ⟨h37, h⟩
        · rcases ite_out h with ⟨h38, h⟩ | ⟨h38, h⟩
          · injection h with h; subst h; exact runLp_sound mixedOrders (live := [6, 7]) (ids := []) (π := [.dec true, .callv (.tup [.v (.int .i64 r19.1), .v (.bool r19.2)]), .callv (.v (.bool r21)), .dec false, .dec true, .dec true]) (hx := by kernel_rfl) (hps := pc (h18) <| pc (k_route_Lookup h20) <| pc (k_slices_ContainsFunc_Irb_Address_1 h22) <| pc (h23) <| pc (h37) <| pc (h38) <| pn)
          · obtain ⟨r39, h40, h⟩ := bind_out h
            injection h with h; subst h; exact runLp_sound mixedOrders (live := [1, 2, 3, 6, 7, 9, 10]) (ids := [0]) (π := [.dec true, .callv (.tup [.v (.int .i64 r19.1), .v (.bool r19.2)]), .callv (.v (.bool r21)), .dec false, .dec true, .dec false, .callv (.v (.int .i64 r39))]) (hx := by kernel_rfl) (hps := pc (h18) <| pc (k_route_Lookup h20) <| pc (k_slices_ContainsFunc_Irb_Address_1 h22) <| pc (h23) <| pc (h37) <| pc (h38) <| pc (k_choose_past h40) <| pn)
        · obtain ⟨r41, h42, h⟩ := bind_out h
          injection h with h; subst h; exact runLp_sound mixedOrders (live := [1, 2, 3, 6, 7, 9, 10]) (ids := [0]) (π := [.dec true, .callv (.tup [.v (.int .i64 r19.1), .v (.bool r19.2)]), .callv (.v (.bool r21)), .dec false, .dec false, .callv (.v (.int .i64 r41))]) (hx := by kernel_rfl) (hps := pc (h18) <| pc (k_route_Lookup h20) <| pc (k_slices_ContainsFunc_Irb_Address_1 h22) <| pc (h23) <| pc (h37) <| pc (k_choose_past h42) <| pn)
    · injection h with h; subst h; exact runLp_sound mixedOrders (live := [6, 7]) (ids := []) (π := [.dec false]) (hx := by kernel_rfl) (hps := pc (h18) <| pn)
  · rcases r with _ | _ <;> exact Ex.noConfusion

theorem k_choose_Address {a1 : Api_Net} {a2 : Int} {a3 : Int} {r : Int × Bool} (h : choose_Address a1 a2 a3 = some r) :
    CallsOK Tryz.prog UU 172 [.agg (c31 a1), .v (.int .i64 a2), .v (.int .i64 a3)] [] (.tup [.v (.int .u32 r.1), .v (.bool r.2)]) [] := by
  unfold choose_Address at h
  rcases ite_out h with ⟨h4, h⟩ | ⟨h4, h⟩
  · injection h with h; subst h; exact runFn_sound mixedOrders Tryz.func172 rfl (keep := none) (π := [.dec true]) (hrun := by kernel_rfl) (hps := pc (h4) <| pn)
  · rcases ite_out h with ⟨h5, h⟩ | ⟨h5, h⟩
    · injection h with h; subst h; exact runFn_sound mixedOrders Tryz.func172 rfl (keep := none) (π := [.dec false, .dec true]) (hrun := by kernel_rfl) (hps := pc (h4) <| pc (h5) <| pn)
    · rcases ite_out h with ⟨h6, h⟩ | ⟨h6, h⟩
      · injection h with h; subst h; exact runFn_sound mixedOrders Tryz.func172 rfl (keep := none) (π := [.dec false, .dec false, .dec true]) (hrun := by kernel_rfl) (hps := pc (h4) <| pc (h5) <| pc (h6) <| pn)
      · rcases ite_out h with ⟨h7, h⟩ | ⟨h7, h⟩
        · injection h with h; subst h; exact runFn_sound mixedOrders Tryz.func172 rfl (keep := none) (π := [.dec false, .dec false, .dec false, .dec true]) (hrun := by kernel_rfl) (hps := pc (h4) <| pc (h5) <| pc (h6) <| pc (h7) <| pn)
        · obtain ⟨r8, h9, h⟩ := bind_out h
          rcases ite_out h with ⟨h10, h⟩ | ⟨h10, h⟩
          · injection h with h; subst h; exact runFn_sound mixedOrders Tryz.func172 rfl (keep := none) (π := [.dec false, .dec false, .dec false, .dec false, .callv (.v (.bool r8)), .dec true]) (hrun := by kernel_rfl) (hps := pc (h4) <| pc (h5) <| pc (h6) <| pc (h7) <| pc (k_names_Right h9) <| pc (h10) <| pn)
          · obtain ⟨x11, h12, h⟩ := bind_out h
            obtain ⟨r13, h14, h⟩ := bind_out h
            obtain ⟨r15, h16, h⟩ := bind_out h
            obtain ⟨r46, h45, h⟩ := bind_out h
            rcases r46 with v44 | _
            · injection h with h; subst h; exact runFn_sound mixedOrders Tryz.func172 rfl (keep := none) (π := [.dec false, .dec false, .dec false, .dec false, .callv (.v (.bool r8)), .dec false, .row (c165 x11), .callv (.v (.int .u32 r13)), .callv (.v (.int .u32 r15)), .sum [1, 2, 3, 6, 7, 9, 10] [0] .ret [(6, .v (.int .u32 v44)), (7, .v (.bool true))] []]) (hrun := by kernel_rfl) (hps := pc (h4) <| pc (h5) <| pc (h6) <| pc (h7) <| pc (k_names_Right h9) <| pc (h10) <| pc (ob165 h12) <| pc (k_addr_First h14) <| pc (k_addr_Last h16) <| pc (k_choose_Address_L1 _ _ h45) <| pn)
            · injection h with h; subst h; exact runFn_sound mixedOrders Tryz.func172 rfl (keep := none) (π := [.dec false, .dec false, .dec false, .dec false, .callv (.v (.bool r8)), .dec false, .row (c165 x11), .callv (.v (.int .u32 r13)), .callv (.v (.int .u32 r15)), .sum [1, 2, 3, 6, 7, 9, 10] [0] (.exit 0) [(6, .v (.int .u32 0)), (7, .v (.bool false))] []]) (hrun := by kernel_rfl) (hps := pc (h4) <| pc (h5) <| pc (h6) <| pc (h7) <| pc (k_names_Right h9) <| pc (h10) <| pc (ob165 h12) <| pc (k_addr_First h14) <| pc (k_addr_Last h16) <| pc (k_choose_Address_L1 _ _ h45) <| pn)

theorem k_choose_Routes_L1 {a1 : Api_Net} {a2 : Int} : LoopOK Tryz.prog UU 0 64 (subC (codeOf Tryz.f142) [1, 1, 1, 0, 1, 0, 0]) (fun s : (List Choose_Lead) × Int => match s with | (l11, v12) => choose_Routes_L1 a1 a2 l11 v12)
    (fun s : (List Choose_Lead) × Int => (match s with | (l11, v12) => [(1, .v (.int .i64 a2)), (2, .op 0 1 0 0), (4, .os 1 0), (5, .os 2 (List.length l11)), (34, .sl 165 a1.irbs), (35, .v (.int .i64 (a1.irbs.length : Int))), (36, .v (.int .i64 v12))] : Fr DD)) (fun s : (List Choose_Lead) × Int => (match s with | (l11, v12) => [.box 31 (c31 a1) false, .n 193, .arr 193 l11 (List.length l11) false] : Heap DD)) (fun r => match r with | l24 => .exit 0) (fun r => match r with | l24 => [(4, .os 0 0), (5, .os 1 (List.length l24))]) (fun r => match r with | l24 => [.n 193, .arr 193 l24 (List.length l24) false]) := by
  refine loop_sound3 (fun s q h => ?_) (fun r => ?_)
  · obtain ⟨l11, v12⟩ := s; replace h : choose_Routes_L1 a1 a2 l11 v12 = some q := h
    unfold choose_Routes_L1 at h
    rcases ite_out h with ⟨h13, h⟩ | ⟨h13, h⟩
    · obtain ⟨x14, h15, h⟩ := bind_out h
      obtain ⟨x16, h17, h⟩ := bind_out h
      obtain ⟨r18, h19, h⟩ := bind_out h
      rcases ite_out h with ⟨h20, h⟩ | ⟨h20, h⟩
      · rcases ite_out h with ⟨h21, h⟩ | ⟨h21, h⟩
        · injection h with h; subst h; exact runLp_sound mixedOrders (live := [1, 2, 4, 5, 34, 35, 36]) (ids := [0, 1, 2]) (π := [.dec true, .row (c165 x14), .row (c67 x16), .callv (.tup [.v (.int .u32 r18.1), .v (.bool r18.2)]), .dec true, .obj [] (.arr 193 [(⟨v12, x14.domain, r18.1⟩ : Choose_Lead)] (List.length [(⟨v12, x14.domain, r18.1⟩ : Choose_Lead)]) false), .obj [] (.arr 193 (l11 ++ [(⟨v12, x14.domain, r18.1⟩ : Choose_Lead)]) (List.length (l11 ++ [(⟨v12, x14.domain, r18.1⟩ : Choose_Lead)])) false)]) (hx := by kernel_rfl) (hps := pc (h13) <| pc (ob165 h15) <| pc (ob67 h17) <| pc (k_choose_Address h19) <| pc (h20) <| pc (bs_ob 193 [(⟨v12, x14.domain, r18.1⟩ : Choose_Lead)]) <| pc (app_ob 193 (n := (List.length l11)) (l := l11) (xs := [(⟨v12, x14.domain, r18.1⟩ : Choose_Lead)]) h21) <| pc ((rfl : ((List.length [(⟨v12, x14.domain, r18.1⟩ : Choose_Lead)]) : Nat) = (List.length [(⟨v12, x14.domain, r18.1⟩ : Choose_Lead)]))) <| pn)
        · cases h
      · injection h with h; subst h; exact runLp_sound mixedOrders (live := [1, 2, 4, 5, 34, 35, 36]) (ids := [0, 1, 2]) (π := [.dec true, .row (c165 x14), .row (c67 x16), .callv (.tup [.v (.int .u32 r18.1), .v (.bool r18.2)]), .dec false]) (hx := by kernel_rfl) (hps := pc (h13) <| pc (ob165 h15) <| pc (ob67 h17) <| pc (k_choose_Address h19) <| pc (h20) <| pn)
    · injection h with h; subst h; exact runLp_sound mixedOrders (live := [4, 5]) (ids := [1, 2]) (π := [.dec false]) (hx := by kernel_rfl) (hps := pc (h13) <| pn)
  · exact Ex.noConfusion

theorem k_choose_Routes {a1 : Api_Net} {a2 : Int} {r : ((List Choose_Lead))} (h : choose_Routes a1 a2 = some r) :
    CallsOK Tryz.prog UU 142 [.agg (c31 a1), .v (.int .i64 a2)] [] ((fun r => match r with | l27 => .os 0 (List.length l27)) r) ((fun r => match r with | l27 => [.arr 193 l27 (List.length l27) false]) r) := by
  unfold choose_Routes at h
  rcases ite_out h with ⟨h3, h⟩ | ⟨h3, h⟩
  · injection h with h; subst h; exact runFn_sound mixedOrders Tryz.func142 rfl (keep := some [2]) (π := [.dec true]) (hrun := by kernel_rfl) (hps := pc (h3) <| pn)
  · rcases ite_out h with ⟨h4, h⟩ | ⟨h4, h⟩
    · injection h with h; subst h; exact runFn_sound mixedOrders Tryz.func142 rfl (keep := some [2]) (π := [.dec false, .dec true]) (hrun := by kernel_rfl) (hps := pc (h3) <| pc (h4) <| pn)
    · obtain ⟨x5, h6, h⟩ := bind_out h
      rcases ite_out h with ⟨h7, h⟩ | ⟨h7, h⟩
      · injection h with h; subst h; exact runFn_sound mixedOrders Tryz.func142 rfl (keep := some [2]) (π := [.dec false, .dec false, .row (c67 x5), .dec true]) (hrun := by kernel_rfl) (hps := pc (h3) <| pc (h4) <| pc (ob67 h6) <| pc (h7) <| pn)
      · obtain ⟨r8, h9, h⟩ := bind_out h
        rcases ite_out h with ⟨h10, h⟩ | ⟨h10, h⟩
        · injection h with h; subst h; exact runFn_sound mixedOrders Tryz.func142 rfl (keep := some [2]) (π := [.dec false, .dec false, .row (c67 x5), .dec false, .callv (.v (.bool r8)), .dec true]) (hrun := by kernel_rfl) (hps := pc (h3) <| pc (h4) <| pc (ob67 h6) <| pc (h7) <| pc (k_names_Right h9) <| pc (h10) <| pn)
        · obtain ⟨l24, h25, h⟩ := bind_out h
          injection h with h; subst h; exact runFn_sound mixedOrders Tryz.func142 rfl (keep := some [1]) (π := [.dec false, .dec false, .row (c67 x5), .dec false, .callv (.v (.bool r8)), .dec false, .sum [1, 2, 4, 5, 34, 35, 36] [0, 1, 2] (.exit 0) [(4, .os 0 0), (5, .os 1 (List.length l24))] [.n 193, .arr 193 l24 (List.length l24) false]]) (hrun := by kernel_rfl) (hps := pc (h3) <| pc (h4) <| pc (ob67 h6) <| pc (h7) <| pc (k_names_Right h9) <| pc (h10) <| pc (k_choose_Routes_L1 _ _ h25) <| pn)

theorem k_labels_routes_L1 {l5 : List Choose_Lead} : LoopOK Tryz.prog UU 0 23 (subC (codeOf Tryz.f86) [1, 1, 0, 1, 0, 0]) (fun s : (List Int) × Int => match s with | (l6, v7) => labels_routes_L1 l5 l6 v7)
    (fun s : (List Int) × Int => (match s with | (l6, v7) => [(4, .os 0 0), (5, .os 1 (List.length l6)), (10, .os 2 (List.length l5)), (11, .v (.int .i64 ((List.length l5) : Int))), (12, .v (.int .i64 v7))] : Fr DD)) (fun s : (List Int) × Int => (match s with | (l6, v7) => [.n 3, .arr 3 l6 (List.length l6) false, .arr 193 l5 (List.length l5) false] : Heap DD)) (fun r => match r with | l15 => .exit 0) (fun r => match r with | l15 => [(4, .os 0 0), (5, .os 1 (List.length l15))]) (fun r => match r with | l15 => [.n 3, .arr 3 l15 (List.length l15) false]) := by
  refine loop_sound3 (fun s q h => ?_) (fun r => ?_)
  · obtain ⟨l6, v7⟩ := s; replace h : labels_routes_L1 l5 l6 v7 = some q := h
    unfold labels_routes_L1 at h
    rcases ite_out h with ⟨h8, h⟩ | ⟨h8, h⟩
    · rcases ite_out h with ⟨h9, h⟩ | ⟨h9, h⟩
      · obtain ⟨x10, h11, h⟩ := bind_out h
        rcases ite_out h with ⟨h12, h⟩ | ⟨h12, h⟩
        · injection h with h; subst h; exact runLp_sound mixedOrders (live := [4, 5, 10, 11, 12]) (ids := [0, 1, 2]) (π := [.dec true, .row (c193 x10), .obj [] (.arr 3 [x10.domain] (List.length [x10.domain]) false), .obj [] (.arr 3 (l6 ++ [x10.domain]) (List.length (l6 ++ [x10.domain])) false)]) (hx := by kernel_rfl) (hps := pc (h8) <| pc (And.intro (rfl : ((List.length l5) : Nat) = (List.length l5)) (lin_ob h9)) <| pc (And.intro (rfl : ((List.length l5) : Nat) = (List.length l5)) (obn193 h11)) <| pc (bs_ob 3 [x10.domain]) <| pc (app_ob 3 (n := (List.length l6)) (l := l6) (xs := [x10.domain]) h12) <| pc ((rfl : ((List.length [x10.domain]) : Nat) = (List.length [x10.domain]))) <| pn)
        · cases h
      · cases h
    · injection h with h; subst h; exact runLp_sound mixedOrders (live := [4, 5]) (ids := [0, 1]) (π := [.dec false]) (hx := by kernel_rfl) (hps := pc (h8) <| pn)
  · exact Ex.noConfusion

theorem k_labels_routes {a1 : Api_Net} {a2 : Int} {r : ((List Int))} (h : labels_routes a1 a2 = some r) :
    CallsOK Tryz.prog UU 86 [.agg (c31 a1), .v (.int .i64 a2)] [] ((fun r => match r with | l18 => .os 0 (List.length l18)) r) ((fun r => match r with | l18 => [.arr 3 l18 (List.length l18) false]) r) := by
  unfold labels_routes at h
  obtain ⟨l5, h4, h⟩ := bind_out h
  obtain ⟨l15, h16, h⟩ := bind_out h
  injection h with h; subst h; exact runFn_sound mixedOrders Tryz.func86 rfl (keep := some [1]) (π := [.callo (.os 0 (List.length l5)) [.arr 193 l5 (List.length l5) false], .sum [4, 5, 10, 11, 12] [1, 2, 3] (.exit 0) [(4, .os 0 0), (5, .os 1 (List.length l15))] [.n 3, .arr 3 l15 (List.length l15) false]]) (hrun := by kernel_rfl) (hps := pc (k_choose_Routes h4) <| pc (im193 l5) <| pc ((rfl : ((List.length l5) : Nat) = (List.length l5))) <| pc (k_labels_routes_L1 _ _ h16) <| pn)

theorem k_labels_begin_L1 {a1 : Api_Net} : LoopOK Tryz.prog UU 0 44 (subC (codeOf Tryz.f37) [1, 1, 0, 1, 0, 0]) (fun s : (List (List Int)) × (List (List Int)) × Int => match s with | (l3, l4, v5) => labels_begin_L1 a1 l3 l4 v5)
    (fun s : (List (List Int)) × (List (List Int)) × Int => (match s with | (l3, l4, v5) => [(1, .op 0 1 0 0), (2, .v (.pointer none)), (3, .op 1 1 0 0), (14, .v (.int .i64 (a1.domains.length : Int))), (15, .v (.int .i64 v5))] : Fr DD)) (fun s : (List (List Int)) × (List (List Int)) × Int => (match s with | (l3, l4, v5) => [.box 31 (c31 a1) false, .box 81 [.sl 73 a1.devices, .sl 65 a1.ports, .sl 92 a1.links, .sl 67 a1.domains, .sl 154 a1.statics, .sl 69 a1.floods, .sl 71 a1.vrfs, .sl 165 a1.irbs, .os 2 (Int.toNat (a1.domains.length : Int)), .os 3 0, .os 4 (List.length l3), .os 5 (List.length l4)] false, .arr 43 (List.replicate (Int.toNat (a1.domains.length : Int)) (⟨0, 0⟩ : Labels_Label)) (Int.toNat (a1.domains.length : Int)) false, .n 131, .arr 32 l3 (List.length l3) false, .arr 32 l4 (List.length l4) false] : Heap DD)) (fun r => match r with | (l19, l20) => .exit 0) (fun r => match r with | (l19, l20) => [(2, .v (.pointer none)), (3, .op 0 1 0 0)]) (fun r => match r with | (l19, l20) => [.box 81 [.sl 73 a1.devices, .sl 65 a1.ports, .sl 92 a1.links, .sl 67 a1.domains, .sl 154 a1.statics, .sl 69 a1.floods, .sl 71 a1.vrfs, .sl 165 a1.irbs, .os 1 (Int.toNat (a1.domains.length : Int)), .os 2 0, .os 3 (List.length l19), .os 4 (List.length l20)] false, .arr 43 (List.replicate (Int.toNat (a1.domains.length : Int)) (⟨0, 0⟩ : Labels_Label)) (Int.toNat (a1.domains.length : Int)) false, .n 131, .arr 32 l19 (List.length l19) false, .arr 32 l20 (List.length l20) false]) := by
  refine loop_sound3 (fun s q h => ?_) (fun r => ?_)
  · obtain ⟨l3, l4, v5⟩ := s; replace h : labels_begin_L1 a1 l3 l4 v5 = some q := h
    unfold labels_begin_L1 at h
    rcases ite_out h with ⟨h6, h⟩ | ⟨h6, h⟩
    · obtain ⟨l9, h8, h⟩ := bind_out h
      rcases ite_out h with ⟨h10, h⟩ | ⟨h10, h⟩
      · obtain ⟨l13, h12, h⟩ := bind_out h
        rcases ite_out h with ⟨h14, h⟩ | ⟨h14, h⟩
        · injection h with h; subst h; exact runLp_sound mixedOrders (live := [1, 2, 3, 14, 15]) (ids := [0, 1, 2, 3, 4, 5]) (π := [.dec true, .sum [7] [] .nor [] [.box 31 (c31 a1) false, .box 81 [.sl 73 a1.devices, .sl 65 a1.ports, .sl 92 a1.links, .sl 67 a1.domains, .sl 154 a1.statics, .sl 69 a1.floods, .sl 71 a1.vrfs, .sl 165 a1.irbs, .os 2 (Int.toNat (a1.domains.length : Int)), .os 3 0, .os 4 (List.length l3), .os 5 (List.length l4)] false, .arr 43 (List.replicate (Int.toNat (a1.domains.length : Int)) (⟨0, 0⟩ : Labels_Label)) (Int.toNat (a1.domains.length : Int)) false, .n 131, .arr 32 l3 (List.length l3) false, .arr 32 l4 (List.length l4) false, .arr 3 l9 (List.length l9) false], .sum [8] [] .nor [] [.box 31 (c31 a1) false, .box 81 [.sl 73 a1.devices, .sl 65 a1.ports, .sl 92 a1.links, .sl 67 a1.domains, .sl 154 a1.statics, .sl 69 a1.floods, .sl 71 a1.vrfs, .sl 165 a1.irbs, .os 2 (Int.toNat (a1.domains.length : Int)), .os 3 0, .os 4 (List.length l3), .os 5 (List.length l4)] false, .arr 43 (List.replicate (Int.toNat (a1.domains.length : Int)) (⟨0, 0⟩ : Labels_Label)) (Int.toNat (a1.domains.length : Int)) false, .n 131, .arr 32 l3 (List.length l3) false, .arr 32 l4 (List.length l4) false, .arr 3 l9 (List.length l9) true, .arr 32 [l9] (List.length [l9]) false], .sum [9] [] .nor [] [.box 31 (c31 a1) false, .box 81 [.sl 73 a1.devices, .sl 65 a1.ports, .sl 92 a1.links, .sl 67 a1.domains, .sl 154 a1.statics, .sl 69 a1.floods, .sl 71 a1.vrfs, .sl 165 a1.irbs, .os 2 (Int.toNat (a1.domains.length : Int)), .os 3 0, .os 4 (List.length l3), .os 5 (List.length l4)] false, .arr 43 (List.replicate (Int.toNat (a1.domains.length : Int)) (⟨0, 0⟩ : Labels_Label)) (Int.toNat (a1.domains.length : Int)) false, .n 131, .arr 32 (l3 ++ [l9]) (List.length (l3 ++ [l9])) false, .arr 32 l4 (List.length l4) false, .arr 3 l9 (List.length l9) true, .arr 32 [l9] (List.length [l9]) false], .callo (.os 0 (List.length l9)) [.arr 3 l9 (List.length l9) false], .obj [6] (.arr 32 [l9] (List.length [l9]) false), .obj [] (.arr 32 (l3 ++ [l9]) (List.length (l3 ++ [l9])) false), .sum [7] [] .nor [] [.box 31 (c31 a1) false, .box 81 [.sl 73 a1.devices, .sl 65 a1.ports, .sl 92 a1.links, .sl 67 a1.domains, .sl 154 a1.statics, .sl 69 a1.floods, .sl 71 a1.vrfs, .sl 165 a1.irbs, .os 2 (Int.toNat (a1.domains.length : Int)), .os 3 0, .os 4 (List.length (l3 ++ [l9])), .os 5 (List.length l4)] false, .arr 43 (List.replicate (Int.toNat (a1.domains.length : Int)) (⟨0, 0⟩ : Labels_Label)) (Int.toNat (a1.domains.length : Int)) false, .n 131, .arr 32 (l3 ++ [l9]) (List.length (l3 ++ [l9])) false, .arr 32 l4 (List.length l4) false, .arr 3 l9 (List.length l9) true, .arr 32 [l9] (List.length [l9]) false, .arr 3 l13 (List.length l13) false], .sum [8] [] .nor [] [.box 31 (c31 a1) false, .box 81 [.sl 73 a1.devices, .sl 65 a1.ports, .sl 92 a1.links, .sl 67 a1.domains, .sl 154 a1.statics, .sl 69 a1.floods, .sl 71 a1.vrfs, .sl 165 a1.irbs, .os 2 (Int.toNat (a1.domains.length : Int)), .os 3 0, .os 4 (List.length (l3 ++ [l9])), .os 5 (List.length l4)] false, .arr 43 (List.replicate (Int.toNat (a1.domains.length : Int)) (⟨0, 0⟩ : Labels_Label)) (Int.toNat (a1.domains.length : Int)) false, .n 131, .arr 32 (l3 ++ [l9]) (List.length (l3 ++ [l9])) false, .arr 32 l4 (List.length l4) false, .arr 3 l9 (List.length l9) true, .arr 32 [l9] (List.length [l9]) false, .arr 3 l13 (List.length l13) true, .arr 32 [l13] (List.length [l13]) false], .sum [9] [] .nor [] [.box 31 (c31 a1) false, .box 81 [.sl 73 a1.devices, .sl 65 a1.ports, .sl 92 a1.links, .sl 67 a1.domains, .sl 154 a1.statics, .sl 69 a1.floods, .sl 71 a1.vrfs, .sl 165 a1.irbs, .os 2 (Int.toNat (a1.domains.length : Int)), .os 3 0, .os 4 (List.length (l3 ++ [l9])), .os 5 (List.length l4)] false, .arr 43 (List.replicate (Int.toNat (a1.domains.length : Int)) (⟨0, 0⟩ : Labels_Label)) (Int.toNat (a1.domains.length : Int)) false, .n 131, .arr 32 (l3 ++ [l9]) (List.length (l3 ++ [l9])) false, .arr 32 (l4 ++ [l13]) (List.length (l4 ++ [l13])) false, .arr 3 l9 (List.length l9) true, .arr 32 [l9] (List.length [l9]) false, .arr 3 l13 (List.length l13) true, .arr 32 [l13] (List.length [l13]) false], .callo (.os 0 (List.length l13)) [.arr 3 l13 (List.length l13) false], .obj [8] (.arr 32 [l13] (List.length [l13]) false), .obj [] (.arr 32 (l4 ++ [l13]) (List.length (l4 ++ [l13])) false)]) (hx := by kernel_rfl) (hps := pc (h6) <| pc ((rfl : (.op 1 1 0 0 : AV DD) = .op 1 1 0 0)) <| pc ((rfl : (.op 1 1 0 0 : AV DD) = .op 1 1 0 0)) <| pc ((rfl : (.op 1 1 0 0 : AV DD) = .op 1 1 0 0)) <| pc ((rfl : (.op 1 1 0 0 : AV DD) = .op 1 1 0 0)) <| pc ((rfl : (.op 1 1 0 0 : AV DD) = .op 1 1 0 0)) <| pc ((rfl : (.op 1 1 0 0 : AV DD) = .op 1 1 0 0)) <| pc ((rfl : (.op 1 1 0 0 : AV DD) = .op 1 1 0 0)) <| pc ((rfl : (.op 1 1 0 10 : AV DD) = .op 1 1 0 10)) <| pc ((rfl : (.op 1 1 0 10 : AV DD) = .op 1 1 0 10)) <| pc ((rfl : (.os 4 (List.length l3) : AV DD) = .os 4 (List.length l3))) <| pc ((rfl : (.os 4 (List.length l3) : AV DD) = .os 4 (List.length l3))) <| pc ((rfl : ([.box 31 (c31 a1) false, .box 81 [.sl 73 a1.devices, .sl 65 a1.ports, .sl 92 a1.links, .sl 67 a1.domains, .sl 154 a1.statics, .sl 69 a1.floods, .sl 71 a1.vrfs, .sl 165 a1.irbs, .os 2 (Int.toNat (a1.domains.length : Int)), .os 3 0, .os 4 (List.length l3), .os 5 (List.length l4)] false, .arr 43 (List.replicate (Int.toNat (a1.domains.length : Int)) (⟨0, 0⟩ : Labels_Label)) (Int.toNat (a1.domains.length : Int)) false, .n 131, .arr 32 l3 (List.length l3) false, .arr 32 l4 (List.length l4) false, .arr 3 l9 (List.length l9) false] : Heap DD) = [.box 31 (c31 a1) false, .box 81 [.sl 73 a1.devices, .sl 65 a1.ports, .sl 92 a1.links, .sl 67 a1.domains, .sl 154 a1.statics, .sl 69 a1.floods, .sl 71 a1.vrfs, .sl 165 a1.irbs, .os 2 (Int.toNat (a1.domains.length : Int)), .os 3 0, .os 4 (List.length l3), .os 5 (List.length l4)] false, .arr 43 (List.replicate (Int.toNat (a1.domains.length : Int)) (⟨0, 0⟩ : Labels_Label)) (Int.toNat (a1.domains.length : Int)) false, .n 131, .arr 32 l3 (List.length l3) false, .arr 32 l4 (List.length l4) false, .arr 3 l9 (List.length l9) false])) <| pc (k_labels_hops h8) <| pc (im3 l9) <| pc ((rfl : ([.box 31 (c31 a1) false, .box 81 [.sl 73 a1.devices, .sl 65 a1.ports, .sl 92 a1.links, .sl 67 a1.domains, .sl 154 a1.statics, .sl 69 a1.floods, .sl 71 a1.vrfs, .sl 165 a1.irbs, .os 2 (Int.toNat (a1.domains.length : Int)), .os 3 0, .os 4 (List.length l3), .os 5 (List.length l4)] false, .arr 43 (List.replicate (Int.toNat (a1.domains.length : Int)) (⟨0, 0⟩ : Labels_Label)) (Int.toNat (a1.domains.length : Int)) false, .n 131, .arr 32 l3 (List.length l3) false, .arr 32 l4 (List.length l4) false, .arr 3 l9 (List.length l9) true, .arr 32 [l9] (List.length [l9]) false] : Heap DD) = [.box 31 (c31 a1) false, .box 81 [.sl 73 a1.devices, .sl 65 a1.ports, .sl 92 a1.links, .sl 67 a1.domains, .sl 154 a1.statics, .sl 69 a1.floods, .sl 71 a1.vrfs, .sl 165 a1.irbs, .os 2 (Int.toNat (a1.domains.length : Int)), .os 3 0, .os 4 (List.length l3), .os 5 (List.length l4)] false, .arr 43 (List.replicate (Int.toNat (a1.domains.length : Int)) (⟨0, 0⟩ : Labels_Label)) (Int.toNat (a1.domains.length : Int)) false, .n 131, .arr 32 l3 (List.length l3) false, .arr 32 l4 (List.length l4) false, .arr 3 l9 (List.length l9) true, .arr 32 [l9] (List.length [l9]) false])) <| pc (bs_ob 32 [l9]) <| pc ((rfl : ((List.length l9) : Nat) = (List.length l9))) <| pc ((rfl : ([.box 31 (c31 a1) false, .box 81 [.sl 73 a1.devices, .sl 65 a1.ports, .sl 92 a1.links, .sl 67 a1.domains, .sl 154 a1.statics, .sl 69 a1.floods, .sl 71 a1.vrfs, .sl 165 a1.irbs, .os 2 (Int.toNat (a1.domains.length : Int)), .os 3 0, .os 4 (List.length l3), .os 5 (List.length l4)] false, .arr 43 (List.replicate (Int.toNat (a1.domains.length : Int)) (⟨0, 0⟩ : Labels_Label)) (Int.toNat (a1.domains.length : Int)) false, .n 131, .arr 32 (l3 ++ [l9]) (List.length (l3 ++ [l9])) false, .arr 32 l4 (List.length l4) false, .arr 3 l9 (List.length l9) true, .arr 32 [l9] (List.length [l9]) false] : Heap DD) = [.box 31 (c31 a1) false, .box 81 [.sl 73 a1.devices, .sl 65 a1.ports, .sl 92 a1.links, .sl 67 a1.domains, .sl 154 a1.statics, .sl 69 a1.floods, .sl 71 a1.vrfs, .sl 165 a1.irbs, .os 2 (Int.toNat (a1.domains.length : Int)), .os 3 0, .os 4 (List.length l3), .os 5 (List.length l4)] false, .arr 43 (List.replicate (Int.toNat (a1.domains.length : Int)) (⟨0, 0⟩ : Labels_Label)) (Int.toNat (a1.domains.length : Int)) false, .n 131, .arr 32 (l3 ++ [l9]) (List.length (l3 ++ [l9])) false, .arr 32 l4 (List.length l4) false, .arr 3 l9 (List.length l9) true, .arr 32 [l9] (List.length [l9]) false])) <| pc (app_ob 32 (n := (List.length l3)) (l := l3) (xs := [l9]) h10) <| pc ((rfl : ((List.length [l9]) : Nat) = (List.length [l9]))) <| pc ((rfl : (.op 1 1 0 0 : AV DD) = .op 1 1 0 0)) <| pc ((rfl : (.op 1 1 0 0 : AV DD) = .op 1 1 0 0)) <| pc ((rfl : (.op 1 1 0 0 : AV DD) = .op 1 1 0 0)) <| pc ((rfl : (.op 1 1 0 0 : AV DD) = .op 1 1 0 0)) <| pc ((rfl : (.op 1 1 0 0 : AV DD) = .op 1 1 0 0)) <| pc ((rfl : (.op 1 1 0 0 : AV DD) = .op 1 1 0 0)) <| pc ((rfl : (.op 1 1 0 0 : AV DD) = .op 1 1 0 0)) <| pc ((rfl : (.op 1 1 0 11 : AV DD) = .op 1 1 0 11)) <| pc ((rfl : (.op 1 1 0 11 : AV DD) = .op 1 1 0 11)) <| pc ((rfl : (.os 5 (List.length l4) : AV DD) = .os 5 (List.length l4))) <| pc ((rfl : (.os 5 (List.length l4) : AV DD) = .os 5 (List.length l4))) <| pc ((rfl : ([.box 31 (c31 a1) false, .box 81 [.sl 73 a1.devices, .sl 65 a1.ports, .sl 92 a1.links, .sl 67 a1.domains, .sl 154 a1.statics, .sl 69 a1.floods, .sl 71 a1.vrfs, .sl 165 a1.irbs, .os 2 (Int.toNat (a1.domains.length : Int)), .os 3 0, .os 4 (List.length (l3 ++ [l9])), .os 5 (List.length l4)] false, .arr 43 (List.replicate (Int.toNat (a1.domains.length : Int)) (⟨0, 0⟩ : Labels_Label)) (Int.toNat (a1.domains.length : Int)) false, .n 131, .arr 32 (l3 ++ [l9]) (List.length (l3 ++ [l9])) false, .arr 32 l4 (List.length l4) false, .arr 3 l9 (List.length l9) true, .arr 32 [l9] (List.length [l9]) false, .arr 3 l13 (List.length l13) false] : Heap DD) = [.box 31 (c31 a1) false, .box 81 [.sl 73 a1.devices, .sl 65 a1.ports, .sl 92 a1.links, .sl 67 a1.domains, .sl 154 a1.statics, .sl 69 a1.floods, .sl 71 a1.vrfs, .sl 165 a1.irbs, .os 2 (Int.toNat (a1.domains.length : Int)), .os 3 0, .os 4 (List.length (l3 ++ [l9])), .os 5 (List.length l4)] false, .arr 43 (List.replicate (Int.toNat (a1.domains.length : Int)) (⟨0, 0⟩ : Labels_Label)) (Int.toNat (a1.domains.length : Int)) false, .n 131, .arr 32 (l3 ++ [l9]) (List.length (l3 ++ [l9])) false, .arr 32 l4 (List.length l4) false, .arr 3 l9 (List.length l9) true, .arr 32 [l9] (List.length [l9]) false, .arr 3 l13 (List.length l13) false])) <| pc (k_labels_routes h12) <| pc (im3 l13) <| pc ((rfl : ([.box 31 (c31 a1) false, .box 81 [.sl 73 a1.devices, .sl 65 a1.ports, .sl 92 a1.links, .sl 67 a1.domains, .sl 154 a1.statics, .sl 69 a1.floods, .sl 71 a1.vrfs, .sl 165 a1.irbs, .os 2 (Int.toNat (a1.domains.length : Int)), .os 3 0, .os 4 (List.length (l3 ++ [l9])), .os 5 (List.length l4)] false, .arr 43 (List.replicate (Int.toNat (a1.domains.length : Int)) (⟨0, 0⟩ : Labels_Label)) (Int.toNat (a1.domains.length : Int)) false, .n 131, .arr 32 (l3 ++ [l9]) (List.length (l3 ++ [l9])) false, .arr 32 l4 (List.length l4) false, .arr 3 l9 (List.length l9) true, .arr 32 [l9] (List.length [l9]) false, .arr 3 l13 (List.length l13) true, .arr 32 [l13] (List.length [l13]) false] : Heap DD) = [.box 31 (c31 a1) false, .box 81 [.sl 73 a1.devices, .sl 65 a1.ports, .sl 92 a1.links, .sl 67 a1.domains, .sl 154 a1.statics, .sl 69 a1.floods, .sl 71 a1.vrfs, .sl 165 a1.irbs, .os 2 (Int.toNat (a1.domains.length : Int)), .os 3 0, .os 4 (List.length (l3 ++ [l9])), .os 5 (List.length l4)] false, .arr 43 (List.replicate (Int.toNat (a1.domains.length : Int)) (⟨0, 0⟩ : Labels_Label)) (Int.toNat (a1.domains.length : Int)) false, .n 131, .arr 32 (l3 ++ [l9]) (List.length (l3 ++ [l9])) false, .arr 32 l4 (List.length l4) false, .arr 3 l9 (List.length l9) true, .arr 32 [l9] (List.length [l9]) false, .arr 3 l13 (List.length l13) true, .arr 32 [l13] (List.length [l13]) false])) <| pc (bs_ob 32 [l13]) <| pc ((rfl : ((List.length l13) : Nat) = (List.length l13))) <| pc ((rfl : ([.box 31 (c31 a1) false, .box 81 [.sl 73 a1.devices, .sl 65 a1.ports, .sl 92 a1.links, .sl 67 a1.domains, .sl 154 a1.statics, .sl 69 a1.floods, .sl 71 a1.vrfs, .sl 165 a1.irbs, .os 2 (Int.toNat (a1.domains.length : Int)), .os 3 0, .os 4 (List.length (l3 ++ [l9])), .os 5 (List.length l4)] false, .arr 43 (List.replicate (Int.toNat (a1.domains.length : Int)) (⟨0, 0⟩ : Labels_Label)) (Int.toNat (a1.domains.length : Int)) false, .n 131, .arr 32 (l3 ++ [l9]) (List.length (l3 ++ [l9])) false, .arr 32 (l4 ++ [l13]) (List.length (l4 ++ [l13])) false, .arr 3 l9 (List.length l9) true, .arr 32 [l9] (List.length [l9]) false, .arr 3 l13 (List.length l13) true, .arr 32 [l13] (List.length [l13]) false] : Heap DD) = [.box 31 (c31 a1) false, .box 81 [.sl 73 a1.devices, .sl 65 a1.ports, .sl 92 a1.links, .sl 67 a1.domains, .sl 154 a1.statics, .sl 69 a1.floods, .sl 71 a1.vrfs, .sl 165 a1.irbs, .os 2 (Int.toNat (a1.domains.length : Int)), .os 3 0, .os 4 (List.length (l3 ++ [l9])), .os 5 (List.length l4)] false, .arr 43 (List.replicate (Int.toNat (a1.domains.length : Int)) (⟨0, 0⟩ : Labels_Label)) (Int.toNat (a1.domains.length : Int)) false, .n 131, .arr 32 (l3 ++ [l9]) (List.length (l3 ++ [l9])) false, .arr 32 (l4 ++ [l13]) (List.length (l4 ++ [l13])) false, .arr 3 l9 (List.length l9) true, .arr 32 [l9] (List.length [l9]) false, .arr 3 l13 (List.length l13) true, .arr 32 [l13] (List.length [l13]) false])) <| pc (app_ob 32 (n := (List.length l4)) (l := l4) (xs := [l13]) h14) <| pc ((rfl : ((List.length [l13]) : Nat) = (List.length [l13]))) <| pn)
        · cases h
      · cases h
    · injection h with h; subst h; exact runLp_sound mixedOrders (live := [2, 3]) (ids := [1, 2, 3, 4, 5]) (π := [.dec false]) (hx := by kernel_rfl) (hps := pc (h6) <| pn)
  · exact Ex.noConfusion

theorem k_labels_begin {a1 : Api_Net} {r : ((List (List Int)) × (List (List Int)))} (h : labels_begin a1 = some r) :
    CallsOK Tryz.prog UU 37 [.agg (c31 a1)] [] ((fun r => match r with | (l23, l24) => .op 0 1 0 0) r) ((fun r => match r with | (l23, l24) => [.box 81 [.sl 73 a1.devices, .sl 65 a1.ports, .sl 92 a1.links, .sl 67 a1.domains, .sl 154 a1.statics, .sl 69 a1.floods, .sl 71 a1.vrfs, .sl 165 a1.irbs, .os 1 (Int.toNat (a1.domains.length : Int)), .os 2 0, .os 3 (List.length l23), .os 4 (List.length l24)] false, .arr 43 (List.replicate (Int.toNat (a1.domains.length : Int)) (⟨0, 0⟩ : Labels_Label)) (Int.toNat (a1.domains.length : Int)) false, .n 131, .arr 32 l23 (List.length l23) false, .arr 32 l24 (List.length l24) false]) r) := by
  unfold labels_begin at h
  rcases ite_out h with ⟨h2, h⟩ | ⟨h2, h⟩
  · obtain ⟨r22, h21, h⟩ := bind_out h
    obtain ⟨l19, l20⟩ := r22
    injection h with h; subst h; exact runFn_sound mixedOrders Tryz.func37 rfl (keep := some [0, 1, 2, 3, 4]) (π := [.sum [4] [] .nor [] [.box 31 (c31 a1) false, .arr 43 (List.replicate (Int.toNat (a1.domains.length : Int)) (⟨0, 0⟩ : Labels_Label)) (Int.toNat (a1.domains.length : Int)) false], .obj [] (.arr 43 (List.replicate (Int.toNat (a1.domains.length : Int)) (⟨0, 0⟩ : Labels_Label)) (Int.toNat (a1.domains.length : Int)) false), .sum [1, 2, 3, 14, 15] [0, 5, 1, 2, 3, 4] (.exit 0) [(2, .v (.pointer none)), (3, .op 0 1 0 0)] [.box 81 [.sl 73 a1.devices, .sl 65 a1.ports, .sl 92 a1.links, .sl 67 a1.domains, .sl 154 a1.statics, .sl 69 a1.floods, .sl 71 a1.vrfs, .sl 165 a1.irbs, .os 1 (Int.toNat (a1.domains.length : Int)), .os 2 0, .os 3 (List.length l19), .os 4 (List.length l20)] false, .arr 43 (List.replicate (Int.toNat (a1.domains.length : Int)) (⟨0, 0⟩ : Labels_Label)) (Int.toNat (a1.domains.length : Int)) false, .n 131, .arr 32 l19 (List.length l19) false, .arr 32 l20 (List.length l20) false]]) (hrun := by kernel_rfl) (hps := pc ((rfl : (.agg [.sl 73 a1.devices, .sl 65 a1.ports, .sl 92 a1.links, .sl 67 a1.domains, .sl 154 a1.statics, .sl 69 a1.floods, .sl 71 a1.vrfs, .sl 165 a1.irbs] : AV DD) = .agg [.sl 73 a1.devices, .sl 65 a1.ports, .sl 92 a1.links, .sl 67 a1.domains, .sl 154 a1.statics, .sl 69 a1.floods, .sl 71 a1.vrfs, .sl 165 a1.irbs])) <| pc ((rfl : ([.box 31 (c31 a1) false, .arr 43 (List.replicate (Int.toNat (a1.domains.length : Int)) (⟨0, 0⟩ : Labels_Label)) (Int.toNat (a1.domains.length : Int)) false] : Heap DD) = [.box 31 (c31 a1) false, .arr 43 (List.replicate (Int.toNat (a1.domains.length : Int)) (⟨0, 0⟩ : Labels_Label)) (Int.toNat (a1.domains.length : Int)) false])) <| pc (mk_ob 43 (⟨0, 0⟩ : Labels_Label) h2) <| pc ((rfl : ((Int.toNat (a1.domains.length : Int)) : Nat) = (Int.toNat (a1.domains.length : Int)))) <| pc (k_labels_begin_L1 _ _ h21) <| pn)
  · cases h

theorem k_labels_spread_grow_own {a1 : List Api_Device} {a2 : List Api_Port} {a3 : List Api_Link} {a4 : List Api_Domain} {a5 : List Api_Static} {a6 : List Api_Flood} {a7 : List Api_Vrf} {a8 : List Api_Irb} {a9 : List Labels_Label} {n10 : Nat} {a11 : List Labels_queued} {a12 : List (List Int)} {a13 : List (List Int)} {a14 : Int} {a15 : Labels_Label} {r : ((List Labels_Label) × (List Labels_queued))} (h : labels_spread_grow_own a1 a2 a3 a4 a5 a6 a7 a8 a9 n10 a11 a12 a13 a14 a15 = some r) :
    CallsOK Tryz.prog UU 39 [.op 0 1 0 0, .v (.int .i64 a14), .agg (c43 a15)] [.box 81 [.sl 73 a1, .sl 65 a2, .sl 92 a3, .sl 67 a4, .sl 154 a5, .sl 69 a6, .sl 71 a7, .sl 165 a8, .os 1 n10, .os 2 (List.length a11), .os 3 (List.length a12), .os 4 (List.length a13)] false, .arr 43 a9 n10 false, .arr 131 a11 (List.length a11) false, .arr 32 a12 (List.length a12) false, .arr 32 a13 (List.length a13) false] ((fun r => match r with | (l23, l24) => .tup []) r) ((fun r => match r with | (l23, l24) => [.box 81 [.sl 73 a1, .sl 65 a2, .sl 92 a3, .sl 67 a4, .sl 154 a5, .sl 69 a6, .sl 71 a7, .sl 165 a8, .os 1 n10, .os 2 (List.length l24), .os 3 (List.length a12), .os 4 (List.length a13)] false, .arr 43 l23 n10 false, .arr 131 l24 (List.length l24) false, .arr 32 a12 (List.length a12) false, .arr 32 a13 (List.length a13) false]) r) := by
  unfold labels_spread_grow_own at h
  rcases ite_out h with ⟨h16, h⟩ | ⟨h16, h⟩
  · obtain ⟨x17, h18, h⟩ := bind_out h
    rcases ite_out h with ⟨h19, h⟩ | ⟨h19, h⟩
    · obtain ⟨x20, h21, h⟩ := bind_out h
      rcases ite_out h with ⟨h22, h⟩ | ⟨h22, h⟩
      · injection h with h; subst h; exact runFn_sound mixedOrders Tryz.func39 rfl (keep := some [0, 1, 2, 3, 4]) (π := [.row (c43 x17), .dec true, .row (c43 x20), .obj [] (.arr 43 (List.set a9 (Int.toNat a14) (⟨bits_or .i64 x17.plain a15.plain, bits_or .i64 x17.led a15.led⟩ : Labels_Label)) n10 false), .obj [] (.arr 131 [(⟨(⟨a14⟩ : Labels_task), false⟩ : Labels_queued)] (List.length [(⟨(⟨a14⟩ : Labels_task), false⟩ : Labels_queued)]) false), .obj [] (.arr 131 (a11 ++ [(⟨(⟨a14⟩ : Labels_task), false⟩ : Labels_queued)]) (List.length (a11 ++ [(⟨(⟨a14⟩ : Labels_task), false⟩ : Labels_queued)])) false)]) (hrun := by kernel_rfl) (hps := pc (And.intro (rfl : (n10 : Nat) = n10) (lin_ob h16)) <| pc (And.intro (rfl : (n10 : Nat) = n10) (obn43 h18)) <| pc (h19) <| pc (And.intro (rfl : (n10 : Nat) = n10) (lin_ob h16)) <| pc (st_ob (e := 43) (n := n10) (l := a9) (i := (Int.toNat a14)) (⟨bits_or .i64 x17.plain a15.plain, bits_or .i64 x17.led a15.led⟩ : Labels_Label) [.v (.int .i64 (bits_or .i64 x17.plain a15.plain)), .v (.int .i64 (bits_or .i64 x17.led a15.led))] (obn43 h21) rfl) <| pc (bs_ob 131 [(⟨(⟨a14⟩ : Labels_task), false⟩ : Labels_queued)]) <| pc (app_ob 131 (n := (List.length a11)) (l := a11) (xs := [(⟨(⟨a14⟩ : Labels_task), false⟩ : Labels_queued)]) h22) <| pc ((rfl : ((List.length [(⟨(⟨a14⟩ : Labels_task), false⟩ : Labels_queued)]) : Nat) = (List.length [(⟨(⟨a14⟩ : Labels_task), false⟩ : Labels_queued)]))) <| pn)
      · cases h
    · injection h with h; subst h; exact runFn_sound mixedOrders Tryz.func39 rfl (keep := some [0, 1, 2, 3, 4]) (π := [.row (c43 x17), .dec false]) (hrun := by kernel_rfl) (hps := pc (And.intro (rfl : (n10 : Nat) = n10) (lin_ob h16)) <| pc (And.intro (rfl : (n10 : Nat) = n10) (obn43 h18)) <| pc (h19) <| pn)
  · cases h

theorem k_labels_spread_grow_ownx {a1 : List Api_Device} {a2 : List Api_Port} {a3 : List Api_Link} {a4 : List Api_Domain} {a5 : List Api_Static} {a6 : List Api_Flood} {a7 : List Api_Vrf} {a8 : List Api_Irb} {a9 : List Labels_Label} {n10 : Nat} {a11 : List Labels_queued} {n12 : Nat} {a13 : List (List Int)} {a14 : List (List Int)} {a15 : Int} {a16 : Labels_Label} {r : ((List Labels_Label) × (List Labels_queued) × Nat)} (h : labels_spread_grow_ownx a1 a2 a3 a4 a5 a6 a7 a8 a9 n10 a11 n12 a13 a14 a15 a16 = some r) :
    CallsOK Tryz.prog UU 39 [.op 0 1 0 0, .v (.int .i64 a15), .agg (c43 a16)] [.box 81 [.sl 73 a1, .sl 65 a2, .sl 92 a3, .sl 67 a4, .sl 154 a5, .sl 69 a6, .sl 71 a7, .sl 165 a8, .os 1 n10, .os 2 n12, .os 3 (List.length a13), .os 4 (List.length a14)] false, .arr 43 a9 n10 false, .arr 131 a11 n12 false, .arr 32 a13 (List.length a13) false, .arr 32 a14 (List.length a14) false] ((fun r => match r with | (l24, l25, n26) => .tup []) r) ((fun r => match r with | (l24, l25, n26) => [.box 81 [.sl 73 a1, .sl 65 a2, .sl 92 a3, .sl 67 a4, .sl 154 a5, .sl 69 a6, .sl 71 a7, .sl 165 a8, .os 1 n10, .os 2 n26, .os 3 (List.length a13), .os 4 (List.length a14)] false, .arr 43 l24 n10 false, .arr 131 l25 n26 false, .arr 32 a13 (List.length a13) false, .arr 32 a14 (List.length a14) false]) r) := by
  unfold labels_spread_grow_ownx at h
  rcases ite_out h with ⟨h17, h⟩ | ⟨h17, h⟩
  · obtain ⟨x18, h19, h⟩ := bind_out h
    rcases ite_out h with ⟨h20, h⟩ | ⟨h20, h⟩
    · obtain ⟨x21, h22, h⟩ := bind_out h
      rcases ite_out h with ⟨h23, h⟩ | ⟨h23, h⟩
      · injection h with h; subst h; exact runFn_sound mixedOrders Tryz.func39 rfl (keep := some [0, 1, 2, 3, 4]) (π := [.row (c43 x18), .dec true, .row (c43 x21), .obj [] (.arr 43 (List.set a9 (Int.toNat a15) (⟨bits_or .i64 x18.plain a16.plain, bits_or .i64 x18.led a16.led⟩ : Labels_Label)) n10 false), .obj [] (.arr 131 [(⟨(⟨a15⟩ : Labels_task), false⟩ : Labels_queued)] (List.length [(⟨(⟨a15⟩ : Labels_task), false⟩ : Labels_queued)]) false), .obj [] (.arr 131 (a11 ++ [(⟨(⟨a15⟩ : Labels_task), false⟩ : Labels_queued)]) (List.length (a11 ++ [(⟨(⟨a15⟩ : Labels_task), false⟩ : Labels_queued)])) false)]) (hrun := by kernel_rfl) (hps := pc (And.intro (rfl : (n10 : Nat) = n10) (lin_ob h17)) <| pc (And.intro (rfl : (n10 : Nat) = n10) (obn43 h19)) <| pc (h20) <| pc (And.intro (rfl : (n10 : Nat) = n10) (lin_ob h17)) <| pc (st_ob (e := 43) (n := n10) (l := a9) (i := (Int.toNat a15)) (⟨bits_or .i64 x18.plain a16.plain, bits_or .i64 x18.led a16.led⟩ : Labels_Label) [.v (.int .i64 (bits_or .i64 x18.plain a16.plain)), .v (.int .i64 (bits_or .i64 x18.led a16.led))] (obn43 h22) rfl) <| pc (bs_ob 131 [(⟨(⟨a15⟩ : Labels_task), false⟩ : Labels_queued)]) <| pc (app_ob 131 (n := n12) (l := a11) (xs := [(⟨(⟨a15⟩ : Labels_task), false⟩ : Labels_queued)]) h23) <| pc ((rfl : ((List.length [(⟨(⟨a15⟩ : Labels_task), false⟩ : Labels_queued)]) : Nat) = (List.length [(⟨(⟨a15⟩ : Labels_task), false⟩ : Labels_queued)]))) <| pn)
      · cases h
    · injection h with h; subst h; exact runFn_sound mixedOrders Tryz.func39 rfl (keep := some [0, 1, 2, 3, 4]) (π := [.row (c43 x18), .dec false]) (hrun := by kernel_rfl) (hps := pc (And.intro (rfl : (n10 : Nat) = n10) (lin_ob h17)) <| pc (And.intro (rfl : (n10 : Nat) = n10) (obn43 h19)) <| pc (h20) <| pn)
  · cases h

theorem k_labels_spread_run_own_L2 {a1 : List Api_Device} {a2 : List Api_Port} {a3 : List Api_Link} {a4 : List Api_Domain} {a5 : List Api_Static} {a6 : List Api_Flood} {a7 : List Api_Vrf} {a8 : List Api_Irb} {n10 : Nat} {a12 : List (List Int)} {a13 : List (List Int)} {v17 : Int} {x26 : Labels_queued} {x29 : Labels_Label} {x32 : List Int} : LoopOK Tryz.prog UU 5 85 (subC (codeOf Tryz.f40) [1, 0, 0, 1, 0, 0, 1, 1, 1, 1, 0, 1, 0, 0]) (fun s : (List Labels_Label) × (List Labels_queued) × Nat × Int => match s with | (l34, l35, n36, v37) => labels_spread_run_own_L2 a1 a2 a3 a4 a5 a6 a7 a8 n10 a12 a13 v17 x26 x29 x32 l34 l35 n36 v37)
    (fun s : (List Labels_Label) × (List Labels_queued) × Nat × Int => (match s with | (l34, l35, n36, v37) => [(0, .op 0 1 0 0), (2, .v (.int .i64 v17)), (3, .v (.int .i64 x26.task.domain)), (4, .op 5 1 0 0), (55, .sl 3 x32), (56, .v (.int .i64 (x32.length : Int))), (57, .v (.int .i64 v37))] : Fr DD)) (fun s : (List Labels_Label) × (List Labels_queued) × Nat × Int => (match s with | (l34, l35, n36, v37) => [.box 81 [.sl 73 a1, .sl 65 a2, .sl 92 a3, .sl 67 a4, .sl 154 a5, .sl 69 a6, .sl 71 a7, .sl 165 a8, .os 1 n10, .os 2 n36, .os 3 (List.length a12), .os 4 (List.length a13)] false, .arr 43 l34 n10 false, .arr 131 l35 n36 false, .arr 32 a12 (List.length a12) false, .arr 32 a13 (List.length a13) false, .box 43 (c43 x29) false] : Heap DD)) (fun r => match r with | (l58, l59, n60) => .exit 2) (fun r => match r with | (l58, l59, n60) => [(0, .op 0 1 0 0), (2, .v (.int .i64 v17)), (3, .v (.int .i64 x26.task.domain)), (4, .op 5 1 0 0)]) (fun r => match r with | (l58, l59, n60) => [.box 81 [.sl 73 a1, .sl 65 a2, .sl 92 a3, .sl 67 a4, .sl 154 a5, .sl 69 a6, .sl 71 a7, .sl 165 a8, .os 1 n10, .os 2 n60, .os 3 (List.length a12), .os 4 (List.length a13)] false, .arr 43 l58 n10 false, .arr 131 l59 n60 false, .arr 32 a12 (List.length a12) false, .arr 32 a13 (List.length a13) false, .box 43 (c43 x29) false]) := by
  refine loop_sound3 (fun s q h => ?_) (fun r => ?_)
  · obtain ⟨l34, l35, n36, v37⟩ := s; replace h : labels_spread_run_own_L2 a1 a2 a3 a4 a5 a6 a7 a8 n10 a12 a13 v17 x26 x29 x32 l34 l35 n36 v37 = some q := h
    unfold labels_spread_run_own_L2 at h
    rcases ite_out h with ⟨h38, h⟩ | ⟨h38, h⟩
    · obtain ⟨x39, h40, h⟩ := bind_out h
      obtain ⟨r41, h42, h⟩ := bind_out h
      obtain ⟨l43, l44, n45⟩ := r41
      injection h with h; subst h; exact runLp_sound mixedOrders (live := [0, 2, 3, 4, 55, 56, 57]) (ids := [0, 1, 2, 3, 4, 5]) (π := [.dec true, .row (c3 x39), .callm [0, 1, 2, 3, 4] (.tup []) [.box 81 [.sl 73 a1, .sl 65 a2, .sl 92 a3, .sl 67 a4, .sl 154 a5, .sl 69 a6, .sl 71 a7, .sl 165 a8, .os 1 n10, .os 2 n45, .os 3 (List.length a12), .os 4 (List.length a13)] false, .arr 43 l43 n10 false, .arr 131 l44 n45 false, .arr 32 a12 (List.length a12) false, .arr 32 a13 (List.length a13) false]]) (hx := by kernel_rfl) (hps := pc (h38) <| pc (ob3 h40) <| pc (k_labels_spread_grow_ownx h42) <| pn)
    · injection h with h; subst h; exact runLp_sound mixedOrders (live := [0, 2, 3, 4]) (ids := [0, 1, 2, 3, 4, 5]) (π := [.dec false]) (hx := by kernel_rfl) (hps := pc (h38) <| pn)
  · exact Ex.noConfusion

theorem k_labels_spread_run_own_L3 {a1 : List Api_Device} {a2 : List Api_Port} {a3 : List Api_Link} {a4 : List Api_Domain} {a5 : List Api_Static} {a6 : List Api_Flood} {a7 : List Api_Vrf} {a8 : List Api_Irb} {n10 : Nat} {a12 : List (List Int)} {a13 : List (List Int)} {v17 : Int} {x29 : Labels_Label} {x64 : List Int} : LoopOK Tryz.prog UU 5 85 (subC (codeOf Tryz.f40) [1, 0, 0, 1, 0, 0, 1, 1, 1, 1, 1, 1, 0, 0]) (fun s : (List Labels_Label) × (List Labels_queued) × Nat × Int => match s with | (l66, l67, n68, v69) => labels_spread_run_own_L3 a1 a2 a3 a4 a5 a6 a7 a8 n10 a12 a13 v17 x29 x64 l66 l67 n68 v69)
    (fun s : (List Labels_Label) × (List Labels_queued) × Nat × Int => (match s with | (l66, l67, n68, v69) => [(0, .op 0 1 0 0), (2, .v (.int .i64 v17)), (4, .op 5 1 0 0), (72, .sl 3 x64), (73, .v (.int .i64 (x64.length : Int))), (74, .v (.int .i64 v69))] : Fr DD)) (fun s : (List Labels_Label) × (List Labels_queued) × Nat × Int => (match s with | (l66, l67, n68, v69) => [.box 81 [.sl 73 a1, .sl 65 a2, .sl 92 a3, .sl 67 a4, .sl 154 a5, .sl 69 a6, .sl 71 a7, .sl 165 a8, .os 1 n10, .os 2 n68, .os 3 (List.length a12), .os 4 (List.length a13)] false, .arr 43 l66 n10 false, .arr 131 l67 n68 false, .arr 32 a12 (List.length a12) false, .arr 32 a13 (List.length a13) false, .box 43 (c43 x29) false] : Heap DD)) (fun r => match r with | (l84, l85, n86) => .exit 4) (fun r => match r with | (l84, l85, n86) => [(0, .op 0 1 0 0), (2, .v (.int .i64 v17))]) (fun r => match r with | (l84, l85, n86) => [.box 81 [.sl 73 a1, .sl 65 a2, .sl 92 a3, .sl 67 a4, .sl 154 a5, .sl 69 a6, .sl 71 a7, .sl 165 a8, .os 1 n10, .os 2 n86, .os 3 (List.length a12), .os 4 (List.length a13)] false, .arr 43 l84 n10 false, .arr 131 l85 n86 false, .arr 32 a12 (List.length a12) false, .arr 32 a13 (List.length a13) false]) := by
  refine loop_sound3 (fun s q h => ?_) (fun r => ?_)
  · obtain ⟨l66, l67, n68, v69⟩ := s; replace h : labels_spread_run_own_L3 a1 a2 a3 a4 a5 a6 a7 a8 n10 a12 a13 v17 x29 x64 l66 l67 n68 v69 = some q := h
    unfold labels_spread_run_own_L3 at h
    rcases ite_out h with ⟨h70, h⟩ | ⟨h70, h⟩
    · obtain ⟨x71, h72, h⟩ := bind_out h
      obtain ⟨r73, h74, h⟩ := bind_out h
      obtain ⟨l75, l76, n77⟩ := r73
      injection h with h; subst h; exact runLp_sound mixedOrders (live := [0, 2, 4, 72, 73, 74]) (ids := [0, 1, 2, 3, 4, 5]) (π := [.dec true, .row (c3 x71), .callm [0, 1, 2, 3, 4] (.tup []) [.box 81 [.sl 73 a1, .sl 65 a2, .sl 92 a3, .sl 67 a4, .sl 154 a5, .sl 69 a6, .sl 71 a7, .sl 165 a8, .os 1 n10, .os 2 n77, .os 3 (List.length a12), .os 4 (List.length a13)] false, .arr 43 l75 n10 false, .arr 131 l76 n77 false, .arr 32 a12 (List.length a12) false, .arr 32 a13 (List.length a13) false]]) (hx := by kernel_rfl) (hps := pc (h70) <| pc (ob3 h72) <| pc (k_labels_spread_grow_ownx h74) <| pn)
    · injection h with h; subst h; exact runLp_sound mixedOrders (live := [0, 2]) (ids := [0, 1, 2, 3, 4]) (π := [.dec false]) (hx := by kernel_rfl) (hps := pc (h70) <| pn)
  · exact Ex.noConfusion

theorem k_labels_spread_run_own_L1 {a1 : List Api_Device} {a2 : List Api_Port} {a3 : List Api_Link} {a4 : List Api_Domain} {a5 : List Api_Static} {a6 : List Api_Flood} {a7 : List Api_Vrf} {a8 : List Api_Irb} {n10 : Nat} {a12 : List (List Int)} {a13 : List (List Int)} : LoopOK Tryz.prog UU 5 85 (subC (codeOf Tryz.f40) [1, 0, 0]) (fun s : (List Labels_Label) × (List Labels_queued) × Nat × Int => match s with | (l14, l15, n16, v17) => labels_spread_run_own_L1 a1 a2 a3 a4 a5 a6 a7 a8 n10 a12 a13 l14 l15 n16 v17)
    (fun s : (List Labels_Label) × (List Labels_queued) × Nat × Int => (match s with | (l14, l15, n16, v17) => [(0, .op 0 1 0 0), (2, .v (.int .i64 v17))] : Fr DD)) (fun s : (List Labels_Label) × (List Labels_queued) × Nat × Int => (match s with | (l14, l15, n16, v17) => [.box 81 [.sl 73 a1, .sl 65 a2, .sl 92 a3, .sl 67 a4, .sl 154 a5, .sl 69 a6, .sl 71 a7, .sl 165 a8, .os 1 n10, .os 2 n16, .os 3 (List.length a12), .os 4 (List.length a13)] false, .arr 43 l14 n10 false, .arr 131 l15 n16 false, .arr 32 a12 (List.length a12) false, .arr 32 a13 (List.length a13) false] : Heap DD)) (fun r => match r with | (l89, l90, n91) => .exit 0) (fun r => match r with | (l89, l90, n91) => []) (fun r => match r with | (l89, l90, n91) => [.box 81 [.sl 73 a1, .sl 65 a2, .sl 92 a3, .sl 67 a4, .sl 154 a5, .sl 69 a6, .sl 71 a7, .sl 165 a8, .os 1 n10, .os 2 n91, .os 3 (List.length a12), .os 4 (List.length a13)] false, .arr 43 l89 n10 false, .arr 131 l90 n91 false, .arr 32 a12 (List.length a12) false, .arr 32 a13 (List.length a13) false]) := by
  refine loop_sound3 (fun s q h => ?_) (fun r => ?_)
  · obtain ⟨l14, l15, n16, v17⟩ := s; replace h : labels_spread_run_own_L1 a1 a2 a3 a4 a5 a6 a7 a8 n10 a12 a13 l14 l15 n16 v17 = some q := h
    unfold labels_spread_run_own_L1 at h
    rcases ite_out h with ⟨h18, h⟩ | ⟨h18, h⟩
    · rcases ite_out h with ⟨h19, h⟩ | ⟨h19, h⟩
      · obtain ⟨x20, h21, h⟩ := bind_out h
        rcases ite_out h with ⟨h22, h⟩ | ⟨h22, h⟩
        · injection h with h; subst h; exact runLp_sound mixedOrders (live := [0, 2]) (ids := [0, 1, 2, 3, 4]) (π := [.dec true, .row (c131 x20), .dec true]) (hx := by kernel_rfl) (hps := pc ((rfl : (n16 : Nat) = n16)) <| pc (h18) <| pc (And.intro (rfl : (n16 : Nat) = n16) (lin_ob h19)) <| pc ((rfl : (n16 : Nat) = n16)) <| pc (And.intro (rfl : (n16 : Nat) = n16) (obn131 h21)) <| pc (h22) <| pn)
        · obtain ⟨x23, h24, h⟩ := bind_out h
          rcases ite_out h with ⟨h25, h⟩ | ⟨h25, h⟩
          · obtain ⟨x26, h27, h⟩ := bind_out h
            rcases ite_out h with ⟨h28, h⟩ | ⟨h28, h⟩
            · obtain ⟨x29, h30, h⟩ := bind_out h
              rcases ite_out h with ⟨h31, h⟩ | ⟨h31, h⟩
              · obtain ⟨x32, h33, h⟩ := bind_out h
                obtain ⟨r62, h61, h⟩ := bind_out h
                obtain ⟨l58, l59, n60⟩ := r62
                rcases ite_out h with ⟨h63, h⟩ | ⟨h63, h⟩
                · obtain ⟨x64, h65, h⟩ := bind_out h
                  obtain ⟨r88, h87, h⟩ := bind_out h
                  obtain ⟨l84, l85, n86⟩ := r88
                  injection h with h; subst h; exact runLp_sound mixedOrders (live := [0, 2]) (ids := [0, 1, 2, 3, 4]) (π := [.dec true, .row (c131 x20), .dec false, .row (c131 x23), .obj [] (.arr 131 (List.set l15 (Int.toNat v17) (⟨x23.task, true⟩ : Labels_queued)) n16 false), .row (c131 x26), .row (c43 x29), .row (c32 x32), .sum [0, 2, 3, 4, 55, 56, 57] [0, 1, 2, 3, 4, 5] (.exit 2) [(0, .op 0 1 0 0), (2, .v (.int .i64 v17)), (3, .v (.int .i64 x26.task.domain)), (4, .op 5 1 0 0)] [.box 81 [.sl 73 a1, .sl 65 a2, .sl 92 a3, .sl 67 a4, .sl 154 a5, .sl 69 a6, .sl 71 a7, .sl 165 a8, .os 1 n10, .os 2 n60, .os 3 (List.length a12), .os 4 (List.length a13)] false, .arr 43 l58 n10 false, .arr 131 l59 n60 false, .arr 32 a12 (List.length a12) false, .arr 32 a13 (List.length a13) false, .box 43 (c43 x29) false], .row (c32 x64), .sum [0, 2, 4, 72, 73, 74] [0, 1, 2, 3, 4, 5] (.exit 4) [(0, .op 0 1 0 0), (2, .v (.int .i64 v17))] [.box 81 [.sl 73 a1, .sl 65 a2, .sl 92 a3, .sl 67 a4, .sl 154 a5, .sl 69 a6, .sl 71 a7, .sl 165 a8, .os 1 n10, .os 2 n86, .os 3 (List.length a12), .os 4 (List.length a13)] false, .arr 43 l84 n10 false, .arr 131 l85 n86 false, .arr 32 a12 (List.length a12) false, .arr 32 a13 (List.length a13) false]]) (hx := by kernel_rfl) (hps := pc ((rfl : (n16 : Nat) = n16)) <| pc (h18) <| pc (And.intro (rfl : (n16 : Nat) = n16) (lin_ob h19)) <| pc ((rfl : (n16 : Nat) = n16)) <| pc (And.intro (rfl : (n16 : Nat) = n16) (obn131 h21)) <| pc (h22) <| pc (And.intro (rfl : (n16 : Nat) = n16) (lin_ob h19)) <| pc ((rfl : (n16 : Nat) = n16)) <| pc (st_ob (e := 131) (n := n16) (l := l15) (i := (Int.toNat v17)) (⟨x23.task, true⟩ : Labels_queued) [.v (.int .i64 x23.task.domain), .v (.bool true)] (obn131 h24) rfl) <| pc (And.intro (rfl : (n16 : Nat) = n16) (lin_ob h25)) <| pc ((rfl : (n16 : Nat) = n16)) <| pc ((rfl : (n16 : Nat) = n16)) <| pc (And.intro (rfl : (n16 : Nat) = n16) (obn131 h27)) <| pc (And.intro (rfl : (n10 : Nat) = n10) (lin_ob h28)) <| pc (And.intro (rfl : (n10 : Nat) = n10) (obn43 h30)) <| pc (And.intro (rfl : ((List.length a12) : Nat) = (List.length a12)) (lin_ob h31)) <| pc (And.intro (rfl : ((List.length a12) : Nat) = (List.length a12)) (obn32 h33)) <| pc (k_labels_spread_run_own_L2 _ _ h61) <| pc (And.intro (rfl : ((List.length a13) : Nat) = (List.length a13)) (lin_ob h63)) <| pc (And.intro (rfl : ((List.length a13) : Nat) = (List.length a13)) (obn32 h65)) <| pc (k_labels_spread_run_own_L3 _ _ h87) <| pn)
                · cases h
              · cases h
            · cases h
          · cases h
      · cases h
    · injection h with h; subst h; exact runLp_sound mixedOrders (live := []) (ids := [0, 1, 2, 3, 4]) (π := [.dec false]) (hx := by kernel_rfl) (hps := pc ((rfl : (n16 : Nat) = n16)) <| pc (h18) <| pn)
  · exact Ex.noConfusion

theorem k_labels_spread_run_own {a1 : List Api_Device} {a2 : List Api_Port} {a3 : List Api_Link} {a4 : List Api_Domain} {a5 : List Api_Static} {a6 : List Api_Flood} {a7 : List Api_Vrf} {a8 : List Api_Irb} {a9 : List Labels_Label} {n10 : Nat} {a11 : List Labels_queued} {a12 : List (List Int)} {a13 : List (List Int)} {r : ((List Labels_Label) × (List Labels_queued) × Nat)} (h : labels_spread_run_own a1 a2 a3 a4 a5 a6 a7 a8 a9 n10 a11 a12 a13 = some r) :
    CallsOK Tryz.prog UU 40 [.op 0 1 0 0] [.box 81 [.sl 73 a1, .sl 65 a2, .sl 92 a3, .sl 67 a4, .sl 154 a5, .sl 69 a6, .sl 71 a7, .sl 165 a8, .os 1 n10, .os 2 (List.length a11), .os 3 (List.length a12), .os 4 (List.length a13)] false, .arr 43 a9 n10 false, .arr 131 a11 (List.length a11) false, .arr 32 a12 (List.length a12) false, .arr 32 a13 (List.length a13) false] ((fun r => match r with | (l94, l95, n96) => .tup []) r) ((fun r => match r with | (l94, l95, n96) => [.box 81 [.sl 73 a1, .sl 65 a2, .sl 92 a3, .sl 67 a4, .sl 154 a5, .sl 69 a6, .sl 71 a7, .sl 165 a8, .os 1 n10, .os 2 n96, .os 3 (List.length a12), .os 4 (List.length a13)] false, .arr 43 l94 n10 false, .arr 131 l95 n96 false, .arr 32 a12 (List.length a12) false, .arr 32 a13 (List.length a13) false]) r) := by
  unfold labels_spread_run_own at h
  obtain ⟨r93, h92, h⟩ := bind_out h
  obtain ⟨l89, l90, n91⟩ := r93
  injection h with h; subst h; exact runFn_sound mixedOrders Tryz.func40 rfl (keep := some [0, 1, 2, 3, 4]) (π := [.sum [0, 2] [0, 1, 2, 3, 4] (.exit 0) [] [.box 81 [.sl 73 a1, .sl 65 a2, .sl 92 a3, .sl 67 a4, .sl 154 a5, .sl 69 a6, .sl 71 a7, .sl 165 a8, .os 1 n10, .os 2 n91, .os 3 (List.length a12), .os 4 (List.length a13)] false, .arr 43 l89 n10 false, .arr 131 l90 n91 false, .arr 32 a12 (List.length a12) false, .arr 32 a13 (List.length a13) false]]) (hrun := by kernel_rfl) (hps := pc (k_labels_spread_run_own_L1 _ _ h92) <| pn)

theorem k_labels_All_L2 {a1 : Api_Net} {a2 : List Int} {l8 : List (List Int)} {l9 : List (List Int)} {v12 : Int} {l16 : List Int} : LoopOK Tryz.prog UU 0 52 (subC (codeOf Tryz.f10) [1, 1, 1, 0, 1, 0, 0, 1, 1, 0, 0, 1, 1, 0, 0]) (fun s : (List Labels_Label) × (List Labels_queued) × Int => match s with | (l17, l18, v19) => labels_All_L2 a1 a2 l8 l9 v12 l16 l17 l18 v19)
    (fun s : (List Labels_Label) × (List Labels_queued) × Int => (match s with | (l17, l18, v19) => [(1, .sl 3 a2), (2, .op 0 1 0 0), (4, .os 1 0), (5, .v (.bool false)), (6, .op 2 1 0 0), (7, .v (.int .i64 v12)), (18, .v (.int .i64 (a1.domains.length : Int))), (19, .v (.int .i64 v12)), (24, .os 7 (List.length l16)), (25, .v (.int .i64 ((List.length l16) : Int))), (26, .v (.int .i64 v19))] : Fr DD)) (fun s : (List Labels_Label) × (List Labels_queued) × Int => (match s with | (l17, l18, v19) => [.box 31 (c31 a1) false, .n 43, .box 81 [.sl 73 a1.devices, .sl 65 a1.ports, .sl 92 a1.links, .sl 67 a1.domains, .sl 154 a1.statics, .sl 69 a1.floods, .sl 71 a1.vrfs, .sl 165 a1.irbs, .os 3 (Int.toNat (a1.domains.length : Int)), .os 4 (List.length l18), .os 5 (List.length l8), .os 6 (List.length l9)] false, .arr 43 l17 (Int.toNat (a1.domains.length : Int)) false, .arr 131 l18 (List.length l18) false, .arr 32 l8 (List.length l8) false, .arr 32 l9 (List.length l9) false, .arr 3 l16 (List.length l16) false] : Heap DD)) (fun r => match r with | (l48, l49) => .exit 2) (fun r => match r with | (l48, l49) => [(1, .sl 3 a2), (2, .op 0 1 0 0), (4, .os 1 0), (5, .v (.bool false)), (6, .op 2 1 0 0), (18, .v (.int .i64 (a1.domains.length : Int))), (19, .v (.int .i64 v12))]) (fun r => match r with | (l48, l49) => [.box 31 (c31 a1) false, .n 43, .box 81 [.sl 73 a1.devices, .sl 65 a1.ports, .sl 92 a1.links, .sl 67 a1.domains, .sl 154 a1.statics, .sl 69 a1.floods, .sl 71 a1.vrfs, .sl 165 a1.irbs, .os 3 (Int.toNat (a1.domains.length : Int)), .os 4 (List.length l49), .os 5 (List.length l8), .os 6 (List.length l9)] false, .arr 43 l48 (Int.toNat (a1.domains.length : Int)) false, .arr 131 l49 (List.length l49) false, .arr 32 l8 (List.length l8) false, .arr 32 l9 (List.length l9) false]) := by
  refine loop_sound3 (fun s q h => ?_) (fun r => ?_)
  · obtain ⟨l17, l18, v19⟩ := s; replace h : labels_All_L2 a1 a2 l8 l9 v12 l16 l17 l18 v19 = some q := h
    unfold labels_All_L2 at h
    rcases ite_out h with ⟨h20, h⟩ | ⟨h20, h⟩
    · rcases ite_out h with ⟨h21, h⟩ | ⟨h21, h⟩
      · obtain ⟨x22, h23, h⟩ := bind_out h
        obtain ⟨x24, h25, h⟩ := bind_out h
        rcases ite_out h with ⟨h26, h⟩ | ⟨h26, h⟩
        · obtain ⟨x27, h28, h⟩ := bind_out h
          rcases ite_out h with ⟨h29, h⟩ | ⟨h29, h⟩
          · obtain ⟨r30, h31, h⟩ := bind_out h
            obtain ⟨l32, l33⟩ := r30
            injection h with h; subst h; exact runLp_sound mixedOrders (live := [1, 2, 4, 5, 6, 7, 18, 19, 24, 25, 26]) (ids := [0, 1, 2, 3, 4, 5, 6, 7]) (π := [.dec true, .row (c3 x22), .row (c3 x24), .dec true, .row (c3 x27), .callm [2, 3, 4, 5, 6] (.tup []) [.box 81 [.sl 73 a1.devices, .sl 65 a1.ports, .sl 92 a1.links, .sl 67 a1.domains, .sl 154 a1.statics, .sl 69 a1.floods, .sl 71 a1.vrfs, .sl 165 a1.irbs, .os 1 (Int.toNat (a1.domains.length : Int)), .os 2 (List.length l33), .os 3 (List.length l8), .os 4 (List.length l9)] false, .arr 43 l32 (Int.toNat (a1.domains.length : Int)) false, .arr 131 l33 (List.length l33) false, .arr 32 l8 (List.length l8) false, .arr 32 l9 (List.length l9) false]]) (hx := by kernel_rfl) (hps := pc (h20) <| pc (And.intro (rfl : ((List.length l16) : Nat) = (List.length l16)) (lin_ob h21)) <| pc (And.intro (rfl : ((List.length l16) : Nat) = (List.length l16)) (obn3 h23)) <| pc (ob3 h25) <| pc (h26) <| pc (ob3 h28) <| pc (of_decide_eq_true h29) <| pc (k_labels_spread_grow_own h31) <| pn)
          · cases h
        · injection h with h; subst h; exact runLp_sound mixedOrders (live := [1, 2, 4, 5, 6, 7, 18, 19, 24, 25, 26]) (ids := [0, 1, 2, 3, 4, 5, 6, 7]) (π := [.dec true, .row (c3 x22), .row (c3 x24), .dec false]) (hx := by kernel_rfl) (hps := pc (h20) <| pc (And.intro (rfl : ((List.length l16) : Nat) = (List.length l16)) (lin_ob h21)) <| pc (And.intro (rfl : ((List.length l16) : Nat) = (List.length l16)) (obn3 h23)) <| pc (ob3 h25) <| pc (h26) <| pn)
      · cases h
    · injection h with h; subst h; exact runLp_sound mixedOrders (live := [1, 2, 4, 5, 6, 18, 19]) (ids := [0, 1, 2, 3, 4, 5, 6]) (π := [.dec false]) (hx := by kernel_rfl) (hps := pc (h20) <| pn)
  · exact Ex.noConfusion

theorem k_labels_All_L1 {a1 : Api_Net} {a2 : List Int} {l8 : List (List Int)} {l9 : List (List Int)} : LoopOK Tryz.prog UU 0 52 (subC (codeOf Tryz.f10) [1, 1, 1, 0, 1, 0, 0]) (fun s : (List Labels_Label) × (List Labels_queued) × Int => match s with | (l10, l11, v12) => labels_All_L1 a1 a2 l8 l9 l10 l11 v12)
    (fun s : (List Labels_Label) × (List Labels_queued) × Int => (match s with | (l10, l11, v12) => [(1, .sl 3 a2), (2, .op 0 1 0 0), (4, .os 1 0), (5, .v (.bool false)), (6, .op 2 1 0 0), (18, .v (.int .i64 (a1.domains.length : Int))), (19, .v (.int .i64 v12))] : Fr DD)) (fun s : (List Labels_Label) × (List Labels_queued) × Int => (match s with | (l10, l11, v12) => [.box 31 (c31 a1) false, .n 43, .box 81 [.sl 73 a1.devices, .sl 65 a1.ports, .sl 92 a1.links, .sl 67 a1.domains, .sl 154 a1.statics, .sl 69 a1.floods, .sl 71 a1.vrfs, .sl 165 a1.irbs, .os 3 (Int.toNat (a1.domains.length : Int)), .os 4 (List.length l11), .os 5 (List.length l8), .os 6 (List.length l9)] false, .arr 43 l10 (Int.toNat (a1.domains.length : Int)) false, .arr 131 l11 (List.length l11) false, .arr 32 l8 (List.length l8) false, .arr 32 l9 (List.length l9) false] : Heap DD)) (fun r => match r with | (l58, l59) => .exit 0) (fun r => match r with | (l58, l59) => [(4, .os 0 0), (5, .v (.bool false)), (6, .op 1 1 0 0)]) (fun r => match r with | (l58, l59) => [.n 43, .box 81 [.sl 73 a1.devices, .sl 65 a1.ports, .sl 92 a1.links, .sl 67 a1.domains, .sl 154 a1.statics, .sl 69 a1.floods, .sl 71 a1.vrfs, .sl 165 a1.irbs, .os 2 (Int.toNat (a1.domains.length : Int)), .os 3 (List.length l59), .os 4 (List.length l8), .os 5 (List.length l9)] false, .arr 43 l58 (Int.toNat (a1.domains.length : Int)) false, .arr 131 l59 (List.length l59) false, .arr 32 l8 (List.length l8) false, .arr 32 l9 (List.length l9) false]) := by
  refine loop_sound3 (fun s q h => ?_) (fun r => ?_)
  · obtain ⟨l10, l11, v12⟩ := s; replace h : labels_All_L1 a1 a2 l8 l9 l10 l11 v12 = some q := h
    unfold labels_All_L1 at h
    rcases ite_out h with ⟨h13, h⟩ | ⟨h13, h⟩
    · obtain ⟨l16, h15, h⟩ := bind_out h
      obtain ⟨r51, h50, h⟩ := bind_out h
      obtain ⟨l48, l49⟩ := r51
      injection h with h; subst h; exact runLp_sound mixedOrders (live := [1, 2, 4, 5, 6, 18, 19]) (ids := [0, 1, 2, 3, 4, 5, 6]) (π := [.dec true, .callo (.os 0 (List.length l16)) [.arr 3 l16 (List.length l16) false], .sum [1, 2, 4, 5, 6, 7, 18, 19, 24, 25, 26] [0, 1, 2, 3, 4, 5, 6, 7] (.exit 2) [(1, .sl 3 a2), (2, .op 0 1 0 0), (4, .os 1 0), (5, .v (.bool false)), (6, .op 2 1 0 0), (18, .v (.int .i64 (a1.domains.length : Int))), (19, .v (.int .i64 v12))] [.box 31 (c31 a1) false, .n 43, .box 81 [.sl 73 a1.devices, .sl 65 a1.ports, .sl 92 a1.links, .sl 67 a1.domains, .sl 154 a1.statics, .sl 69 a1.floods, .sl 71 a1.vrfs, .sl 165 a1.irbs, .os 3 (Int.toNat (a1.domains.length : Int)), .os 4 (List.length l49), .os 5 (List.length l8), .os 6 (List.length l9)] false, .arr 43 l48 (Int.toNat (a1.domains.length : Int)) false, .arr 131 l49 (List.length l49) false, .arr 32 l8 (List.length l8) false, .arr 32 l9 (List.length l9) false]]) (hx := by kernel_rfl) (hps := pc (h13) <| pc (k_names_Members h15) <| pc (im3 l16) <| pc ((rfl : ((List.length l16) : Nat) = (List.length l16))) <| pc (k_labels_All_L2 _ _ h50) <| pn)
    · injection h with h; subst h; exact runLp_sound mixedOrders (live := [4, 5, 6]) (ids := [1, 2, 3, 4, 5, 6]) (π := [.dec false]) (hx := by kernel_rfl) (hps := pc (h13) <| pn)
  · exact Ex.noConfusion

theorem k_labels_All {a1 : Api_Net} {a2 : List Int} {r : ((List Labels_Label) × Nat × Bool)} (h : labels_All a1 a2 = some r) :
    CallsOK Tryz.prog UU 10 [.agg (c31 a1), .sl 3 a2] [] ((fun r => match r with | (l67, n68, v69) => .tup [.os 0 n68, .v (.bool v69)]) r) ((fun r => match r with | (l67, n68, v69) => [.arr 43 l67 n68 false]) r) := by
  unfold labels_All at h
  obtain ⟨r3, h4, h⟩ := bind_out h
  rcases ite_out h with ⟨h5, h⟩ | ⟨h5, h⟩
  · injection h with h; subst h; exact runFn_sound mixedOrders Tryz.func10 rfl (keep := some [2]) (π := [.callv (.v (.bool r3)), .dec true]) (hrun := by kernel_rfl) (hps := pc (k_owners_Right h4) <| pc (h5) <| pn)
  · obtain ⟨r6, h7, h⟩ := bind_out h
    obtain ⟨l8, l9⟩ := r6
    obtain ⟨r61, h60, h⟩ := bind_out h
    obtain ⟨l58, l59⟩ := r61
    obtain ⟨r62, h63, h⟩ := bind_out h
    obtain ⟨l64, l65, n66⟩ := r62
    injection h with h; subst h; exact runFn_sound mixedOrders Tryz.func10 rfl (keep := some [2]) (π := [.callv (.v (.bool r3)), .dec false, .callm [] (.op 0 1 0 0) [.box 81 [.sl 73 a1.devices, .sl 65 a1.ports, .sl 92 a1.links, .sl 67 a1.domains, .sl 154 a1.statics, .sl 69 a1.floods, .sl 71 a1.vrfs, .sl 165 a1.irbs, .os 1 (Int.toNat (a1.domains.length : Int)), .os 2 0, .os 3 (List.length l8), .os 4 (List.length l9)] false, .arr 43 (List.replicate (Int.toNat (a1.domains.length : Int)) (⟨0, 0⟩ : Labels_Label)) (Int.toNat (a1.domains.length : Int)) false, .n 131, .arr 32 l8 (List.length l8) false, .arr 32 l9 (List.length l9) false], .sum [1, 2, 4, 5, 6, 18, 19] [0, 1, 2, 3, 4, 5, 6] (.exit 0) [(4, .os 0 0), (5, .v (.bool false)), (6, .op 1 1 0 0)] [.n 43, .box 81 [.sl 73 a1.devices, .sl 65 a1.ports, .sl 92 a1.links, .sl 67 a1.domains, .sl 154 a1.statics, .sl 69 a1.floods, .sl 71 a1.vrfs, .sl 165 a1.irbs, .os 2 (Int.toNat (a1.domains.length : Int)), .os 3 (List.length l59), .os 4 (List.length l8), .os 5 (List.length l9)] false, .arr 43 l58 (Int.toNat (a1.domains.length : Int)) false, .arr 131 l59 (List.length l59) false, .arr 32 l8 (List.length l8) false, .arr 32 l9 (List.length l9) false], .callm [1, 2, 3, 4, 5] (.tup []) [.box 81 [.sl 73 a1.devices, .sl 65 a1.ports, .sl 92 a1.links, .sl 67 a1.domains, .sl 154 a1.statics, .sl 69 a1.floods, .sl 71 a1.vrfs, .sl 165 a1.irbs, .os 1 (Int.toNat (a1.domains.length : Int)), .os 2 n66, .os 3 (List.length l8), .os 4 (List.length l9)] false, .arr 43 l64 (Int.toNat (a1.domains.length : Int)) false, .arr 131 l65 n66 false, .arr 32 l8 (List.length l8) false, .arr 32 l9 (List.length l9) false]]) (hrun := by kernel_rfl) (hps := pc (k_owners_Right h4) <| pc (h5) <| pc (k_labels_begin h7) <| pc (k_labels_All_L1 _ _ h60) <| pc (k_labels_spread_run_own h63) <| pn)

end Go.Eng
