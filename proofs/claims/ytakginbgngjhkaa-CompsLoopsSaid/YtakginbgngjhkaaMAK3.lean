/- Part of the proof of CompsLoops: printed mirrors of the functions, or their contracts. No conditions. -/
import Derived.Test.YtakginbgngjhkaaMAK2
set_option linter.unusedVariables false
set_option maxRecDepth 100000
namespace Go.Eng
open Go Go.Proofs
theorem k_palingref17_Cross_J1 {a3 : Int} {r4 : Int} {x8 : Api_Port} {x10 : Api_Port} {r : Unit ⊕ Unit} (h : palingref17_Cross_J1 a3 r4 x8 x10 = some r) :
    ExecOK Try.prog UU 0 55 (subC (codeOf Try.f148) [1, 1, 1, 1, 0]) [(2, .v (.int .i64 a3)), (6, .v (.int .i64 0)), (7, .v (.int .i64 0)), (8, .v (.bool false)), (9, .v (.int .i64 r4)), (10, .op 0 1 0 0), (11, .op 1 1 0 0)] [.box 60 (c60 x8) false, .box 60 (c60 x10) false] ((fun r => match r with | Sum.inl _ => .ret | Sum.inr _ => .nor) r) ((fun r => match r with | Sum.inl _ => [(6, .v (.int .i64 r4)), (7, .v (.int .i64 x10.native)), (8, .v (.bool true))] | Sum.inr _ => [(2, .v (.int .i64 a3)), (6, .v (.int .i64 0)), (7, .v (.int .i64 0)), (8, .v (.bool false)), (9, .v (.int .i64 r4)), (10, .op 0 1 0 0), (11, .op 1 1 0 0)]) r) ((fun r => match r with | Sum.inl _ => [] | Sum.inr _ => [.box 60 (c60 x8) false, .box 60 (c60 x10) false]) r) := by
  unfold palingref17_Cross_J1 at h
  rcases ite_out h with ⟨h12, h⟩ | ⟨h12, h⟩
  · rcases ite_out h with ⟨h13, h⟩ | ⟨h13, h⟩
    · injection h with h; subst h; exact runLp_sound mixedOrders (live := [6, 7, 8]) (ids := []) (π := [.dec true, .dec true]) (hx := by kernel_rfl) (hps := pc (h12) <| pc (h13) <| pn)
    · injection h with h; subst h; exact runLp_sound mixedOrders (live := [2, 6, 7, 8, 9, 10, 11]) (ids := [0, 1]) (π := [.dec true, .dec false]) (hx := by kernel_rfl) (hps := pc (h12) <| pc (h13) <| pn)
  · injection h with h; subst h; exact runLp_sound mixedOrders (live := [2, 6, 7, 8, 9, 10, 11]) (ids := [0, 1]) (π := [.dec false]) (hx := by kernel_rfl) (hps := pc (h12) <| pn)

theorem k_palingref17_Cross {a1 : Api_Net} {a2 : Int} {a3 : Int} {r : Int × Int × Bool} (h : palingref17_Cross a1 a2 a3 = some r) :
    CallsOK Try.prog UU 148 [.agg (c31 a1), .v (.int .i64 a2), .v (.int .i64 a3)] [] (.tup [.v (.int .i64 r.1), .v (.int .i64 r.2.1), .v (.bool r.2.2)]) [] := by
  unfold palingref17_Cross at h
  obtain ⟨r4, h5, h⟩ := bind_out h
  rcases ite_out h with ⟨h6, h⟩ | ⟨h6, h⟩
  · injection h with h; subst h; exact runFn_sound mixedOrders Try.func148 rfl (keep := none) (π := [.callv (.v (.int .i64 r4)), .dec true]) (hrun := by kernel_rfl) (hps := pc (k_palingref17_Other h5) <| pc (h6) <| pn)
  · rcases ite_out h with ⟨h7, h⟩ | ⟨h7, h⟩
    · injection h with h; subst h; exact runFn_sound mixedOrders Try.func148 rfl (keep := none) (π := [.callv (.v (.int .i64 r4)), .dec false, .dec true]) (hrun := by kernel_rfl) (hps := pc (k_palingref17_Other h5) <| pc (h6) <| pc (h7) <| pn)
    · obtain ⟨x8, h9, h⟩ := bind_out h
      obtain ⟨x10, h11, h⟩ := bind_out h
      obtain ⟨r15, h14, h⟩ := bind_out h
      rcases r15 with _ | _
      · injection h with h; subst h; exact runFn_sound mixedOrders Try.func148 rfl (keep := none) (π := [.callv (.v (.int .i64 r4)), .dec false, .dec false, .row (c60 x8), .row (c60 x10), .cut [2, 6, 7, 8, 9, 10, 11] [1, 3] .ret [(6, .v (.int .i64 r4)), (7, .v (.int .i64 x10.native)), (8, .v (.bool true))] []]) (hrun := by kernel_rfl) (hps := pc (k_palingref17_Other h5) <| pc (h6) <| pc (h7) <| pc (ob60 h9) <| pc (ob60 h11) <| pc (k_palingref17_Cross_J1 h14) <| pn)
      · obtain ⟨r16, h17, h⟩ := bind_out h
        rcases ite_out h with ⟨h18, h⟩ | ⟨h18, h⟩
        · obtain ⟨r19, h20, h⟩ := bind_out h
          rcases ite_out h with ⟨h21, h⟩ | ⟨h21, h⟩
          · injection h with h; subst h; exact runFn_sound mixedOrders Try.func148 rfl (keep := none) (π := [.callv (.v (.int .i64 r4)), .dec false, .dec false, .row (c60 x8), .row (c60 x10), .cut [2, 6, 7, 8, 9, 10, 11] [1, 3] .nor [(2, .v (.int .i64 a3)), (6, .v (.int .i64 0)), (7, .v (.int .i64 0)), (8, .v (.bool false)), (9, .v (.int .i64 r4)), (10, .op 0 1 0 0), (11, .op 1 1 0 0)] [.box 60 (c60 x8) false, .box 60 (c60 x10) false], .callv (.v (.bool r16)), .dec true, .callv (.v (.bool r19)), .dec true]) (hrun := by kernel_rfl) (hps := pc (k_palingref17_Other h5) <| pc (h6) <| pc (h7) <| pc (ob60 h9) <| pc (ob60 h11) <| pc (k_palingref17_Cross_J1 h14) <| pc (k_palingref15_In h17) <| pc (h18) <| pc (k_palingref15_In h20) <| pc (h21) <| pn)
          · injection h with h; subst h; exact runFn_sound mixedOrders Try.func148 rfl (keep := none) (π := [.callv (.v (.int .i64 r4)), .dec false, .dec false, .row (c60 x8), .row (c60 x10), .cut [2, 6, 7, 8, 9, 10, 11] [1, 3] .nor [(2, .v (.int .i64 a3)), (6, .v (.int .i64 0)), (7, .v (.int .i64 0)), (8, .v (.bool false)), (9, .v (.int .i64 r4)), (10, .op 0 1 0 0), (11, .op 1 1 0 0)] [.box 60 (c60 x8) false, .box 60 (c60 x10) false], .callv (.v (.bool r16)), .dec true, .callv (.v (.bool r19)), .dec false]) (hrun := by kernel_rfl) (hps := pc (k_palingref17_Other h5) <| pc (h6) <| pc (h7) <| pc (ob60 h9) <| pc (ob60 h11) <| pc (k_palingref17_Cross_J1 h14) <| pc (k_palingref15_In h17) <| pc (h18) <| pc (k_palingref15_In h20) <| pc (h21) <| pn)
        · injection h with h; subst h; exact runFn_sound mixedOrders Try.func148 rfl (keep := none) (π := [.callv (.v (.int .i64 r4)), .dec false, .dec false, .row (c60 x8), .row (c60 x10), .cut [2, 6, 7, 8, 9, 10, 11] [1, 3] .nor [(2, .v (.int .i64 a3)), (6, .v (.int .i64 0)), (7, .v (.int .i64 0)), (8, .v (.bool false)), (9, .v (.int .i64 r4)), (10, .op 0 1 0 0), (11, .op 1 1 0 0)] [.box 60 (c60 x8) false, .box 60 (c60 x10) false], .callv (.v (.bool r16)), .dec false]) (hrun := by kernel_rfl) (hps := pc (k_palingref17_Other h5) <| pc (h6) <| pc (h7) <| pc (ob60 h9) <| pc (ob60 h11) <| pc (k_palingref17_Cross_J1 h14) <| pc (k_palingref15_In h17) <| pc (h18) <| pn)

theorem k_palingref17_Domain {a1 : Api_Net} {a2 : Int} {a3 : Int} {r : Int × Bool} (h : palingref17_Domain a1 a2 a3 = some r) :
    CallsOK Try.prog UU 107 [.agg (c31 a1), .v (.int .i64 a2), .v (.int .i64 a3)] [] (.tup [.v (.int .i64 r.1), .v (.bool r.2)]) [] := by
  unfold palingref17_Domain at h
  obtain ⟨r4, h5, h⟩ := bind_out h
  rcases ite_out h with ⟨h6, h⟩ | ⟨h6, h⟩
  · injection h with h; subst h; exact runFn_sound mixedOrders Try.func107 rfl (keep := none) (π := [.callv (.tup [.v (.int .i64 r4.1), .v (.int .i64 r4.2.1), .v (.bool r4.2.2)]), .dec true]) (hrun := by kernel_rfl) (hps := pc (k_palingref17_Cross h5) <| pc (h6) <| pn)
  · obtain ⟨x7, h8, h⟩ := bind_out h
    obtain ⟨r9, h10, h⟩ := bind_out h
    injection h with h; subst h; exact runFn_sound mixedOrders Try.func107 rfl (keep := none) (π := [.callv (.tup [.v (.int .i64 r4.1), .v (.int .i64 r4.2.1), .v (.bool r4.2.2)]), .dec false, .row (c60 x7), .callv (.v (.int .i64 r9))]) (hrun := by kernel_rfl) (hps := pc (k_palingref17_Cross h5) <| pc (h6) <| pc (ob60 h8) <| pc (k_palingref15_At h10) <| pn)

theorem k_palingref21_Crossed_L1 {a1 : Api_Net} {a2 : Int} {l5 : List Int} : LoopOK Try.prog UU 0 40 (subC (codeOf Try.f124) [1, 1, 1, 0, 1, 0, 0]) (fun s : (List Int) × Int => match s with | (l6, v7) => palingref21_Crossed_L1 a1 a2 l5 l6 v7)
    (fun s : (List Int) × Int => (match s with | (l6, v7) => [(1, .v (.int .i64 a2)), (2, .op 0 1 0 0), (4, .os 1 0), (5, .os 2 (List.length l6)), (6, .os 3 (List.length l5)), (7, .v (.int .i64 v7))] : Fr DD)) (fun s : (List Int) × Int => (match s with | (l6, v7) => [.box 31 (c31 a1) false, .arr 3 [] 0 false, .arr 3 l6 (List.length l6) false, .arr 3 l5 (List.length l5) false] : Heap DD)) (fun r => match r with | l20 => .exit 0) (fun r => match r with | l20 => [(4, .os 0 0), (5, .os 1 (List.length l20))]) (fun r => match r with | l20 => [.arr 3 [] 0 false, .arr 3 l20 (List.length l20) false]) := by
  refine loop_sound3 (fun s q h => ?_) (fun r => ?_)
  · obtain ⟨l6, v7⟩ := s; replace h : palingref21_Crossed_L1 a1 a2 l5 l6 v7 = some q := h
    unfold palingref21_Crossed_L1 at h
    rcases ite_out h with ⟨h8, h⟩ | ⟨h8, h⟩
    · rcases ite_out h with ⟨h9, h⟩ | ⟨h9, h⟩
      · obtain ⟨x10, h11, h⟩ := bind_out h
        obtain ⟨x12, h13, h⟩ := bind_out h
        obtain ⟨r14, h15, h⟩ := bind_out h
        rcases ite_out h with ⟨h16, h⟩ | ⟨h16, h⟩
        · rcases ite_out h with ⟨h17, h⟩ | ⟨h17, h⟩
          · injection h with h; subst h; exact runLp_sound mixedOrders (live := [1, 2, 4, 5, 6, 7]) (ids := [0, 1, 2, 3]) (π := [.dec true, .row (c3 x10), .row (c40 x12), .callv (.tup [.v (.int .i64 r14.1), .v (.bool r14.2)]), .dec true, .obj [] (.arr 3 [r14.1] (List.length [r14.1]) false), .obj [4] (.arr 3 (l6 ++ [r14.1]) (List.length (l6 ++ [r14.1])) false)]) (hx := by kernel_rfl) (hps := pc ((rfl : ((List.length l5) : Nat) = (List.length l5))) <| pc (h8) <| pc (And.intro (rfl : ((List.length l5) : Nat) = (List.length l5)) (lin_ob h9)) <| pc (And.intro (rfl : ((List.length l5) : Nat) = (List.length l5)) (obn3 h11)) <| pc (ob40 h13) <| pc (k_palingref17_Domain h15) <| pc (h16) <| pc (bs_ob 3 [r14.1]) <| pc (app_ob 3 (n := (List.length l6)) (l := l6) (xs := [r14.1]) h17) <| pc ((rfl : ((List.length [r14.1]) : Nat) = (List.length [r14.1]))) <| pn)
          · cases h
        · injection h with h; subst h; exact runLp_sound mixedOrders (live := [1, 2, 4, 5, 6, 7]) (ids := [0, 1, 2, 3]) (π := [.dec true, .row (c3 x10), .row (c40 x12), .callv (.tup [.v (.int .i64 r14.1), .v (.bool r14.2)]), .dec false]) (hx := by kernel_rfl) (hps := pc ((rfl : ((List.length l5) : Nat) = (List.length l5))) <| pc (h8) <| pc (And.intro (rfl : ((List.length l5) : Nat) = (List.length l5)) (lin_ob h9)) <| pc (And.intro (rfl : ((List.length l5) : Nat) = (List.length l5)) (obn3 h11)) <| pc (ob40 h13) <| pc (k_palingref17_Domain h15) <| pc (h16) <| pn)
      · cases h
    · injection h with h; subst h; exact runLp_sound mixedOrders (live := [4, 5]) (ids := [1, 2]) (π := [.dec false]) (hx := by kernel_rfl) (hps := pc ((rfl : ((List.length l5) : Nat) = (List.length l5))) <| pc (h8) <| pn)
  · exact Ex.noConfusion

theorem k_palingref21_Crossed {a1 : Api_Net} {a2 : Int} {r : ((List Int))} (h : palingref21_Crossed a1 a2 = some r) :
    CallsOK Try.prog UU 124 [.agg (c31 a1), .v (.int .i64 a2)] [] ((fun r => match r with | l23 => .os 0 (List.length l23)) r) ((fun r => match r with | l23 => [.arr 3 l23 (List.length l23) false]) r) := by
  unfold palingref21_Crossed at h
  obtain ⟨l5, h4, h⟩ := bind_out h
  obtain ⟨l20, h21, h⟩ := bind_out h
  injection h with h; subst h; exact runFn_sound mixedOrders Try.func124 rfl (keep := some [1]) (π := [.callo (.os 0 (List.length l5)) [.arr 3 l5 (List.length l5) false], .sum [1, 2, 4, 5, 6, 7] [0, 1, 2, 3] (.exit 0) [(4, .os 0 0), (5, .os 1 (List.length l20))] [.arr 3 [] 0 false, .arr 3 l20 (List.length l20) false]]) (hrun := by kernel_rfl) (hps := pc (k_palingref15_Members h4) <| pc (im3 l5) <| pc (k_palingref21_Crossed_L1 _ _ h21) <| pn)

theorem k_palingref21_least_L1 {a1 : Api_Net} {a2 : Bool} : LoopOK Try.prog UU 0 87 (subC (codeOf Try.f70) [1, 1, 0, 1, 0, 0]) (fun s : (List Int) × Int => match s with | (l3, v4) => palingref21_least_L1 a1 a2 l3 v4)
    (fun s : (List Int) × Int => (match s with | (l3, v4) => [(1, .v (.bool a2)), (2, .op 0 1 0 0), (4, .os 1 0), (5, .os 2 (List.length l3)), (6, .v (.int .i64 v4))] : Fr DD)) (fun s : (List Int) × Int => (match s with | (l3, v4) => [.box 31 (c31 a1) false, .arr 3 [] 0 false, .arr 3 l3 (List.length l3) false] : Heap DD)) (fun r => match r with | l11 => .exit 0) (fun r => match r with | l11 => [(1, .v (.bool a2)), (2, .op 0 1 0 0), (4, .os 1 0), (5, .os 2 (List.length l11))]) (fun r => match r with | l11 => [.box 31 (c31 a1) false, .arr 3 [] 0 false, .arr 3 l11 (List.length l11) false]) := by
  refine loop_sound3 (fun s q h => ?_) (fun r => ?_)
  · obtain ⟨l3, v4⟩ := s; replace h : palingref21_least_L1 a1 a2 l3 v4 = some q := h
    unfold palingref21_least_L1 at h
    rcases ite_out h with ⟨h5, h⟩ | ⟨h5, h⟩
    · rcases ite_out h with ⟨h6, h⟩ | ⟨h6, h⟩
      · injection h with h; subst h; exact runLp_sound mixedOrders (live := [1, 2, 4, 5, 6]) (ids := [0, 1, 2]) (π := [.dec true, .obj [] (.arr 3 [v4] (List.length [v4]) false), .obj [3] (.arr 3 (l3 ++ [v4]) (List.length (l3 ++ [v4])) false)]) (hx := by kernel_rfl) (hps := pc (h5) <| pc (bs_ob 3 [v4]) <| pc (app_ob 3 (n := (List.length l3)) (l := l3) (xs := [v4]) h6) <| pc ((rfl : ((List.length [v4]) : Nat) = (List.length [v4]))) <| pn)
      · cases h
    · injection h with h; subst h; exact runLp_sound mixedOrders (live := [1, 2, 4, 5]) (ids := [0, 1, 2]) (π := [.dec false]) (hx := by kernel_rfl) (hps := pc (h5) <| pn)
  · exact Ex.noConfusion

theorem k_palingref21_least_J4 {a1 : Api_Net} {a2 : Bool} {l11 : List Int} {v15 : Int} {l17 : List Int} {v18 : Int} {l22 : List Int} {r : (List Int)} (h : palingref21_least_J4 a1 a2 l11 v15 l17 v18 l22 = some r) :
    ExecOK Try.prog UU 0 87 (subC (codeOf Try.f70) [1, 1, 1, 0, 1, 0, 0, 1, 0, 0, 1, 0, 0, 1, 0, 0, 1, 0]) [(1, .v (.bool a2)), (2, .op 0 1 0 0), (4, .os 1 0), (5, .os 2 (List.length l11)), (7, .v (.int .i64 v15)), (8, .v (.int .i64 v18)), (9, .os 3 (List.length l22))] [.box 31 (c31 a1) false, .arr 3 [] 0 false, .arr 3 l17 (List.length l11) false, .arr 3 l22 (List.length l22) false] ((fun r => match r with | l34 => .nor) r) ((fun r => match r with | l34 => [(1, .v (.bool a2)), (2, .op 0 1 0 0), (4, .os 1 0), (5, .os 2 (List.length l11)), (7, .v (.int .i64 v15)), (8, .v (.int .i64 v18)), (9, .os 3 (List.length l34))]) r) ((fun r => match r with | l34 => [.box 31 (c31 a1) false, .arr 3 [] 0 false, .arr 3 l17 (List.length l11) false, .arr 3 l34 (List.length l34) false]) r) := by
  unfold palingref21_least_J4 at h
  rcases ite_out h with ⟨h23, h⟩ | ⟨h23, h⟩
  · obtain ⟨x24, h25, h⟩ := bind_out h
    rcases ite_out h with ⟨h26, h⟩ | ⟨h26, h⟩
    · injection h with h; subst h; exact runLp_sound mixedOrders (live := [1, 2, 4, 5, 7, 8, 9]) (ids := [0, 1, 2, 3]) (π := [.dec true, .row (c40 x24), .obj [] (.arr 3 (l22 ++ x24.peers) (List.length (l22 ++ x24.peers)) false)]) (hx := by kernel_rfl) (hps := pc (h23) <| pc (ob40 h25) <| pc (app_ob 3 (n := (List.length l22)) (l := l22) (xs := x24.peers) h26) <| pn)
    · cases h
  · injection h with h; subst h; exact runLp_sound mixedOrders (live := [1, 2, 4, 5, 7, 8, 9]) (ids := [0, 1, 2, 3]) (π := [.dec false]) (hx := by kernel_rfl) (hps := pc (h23) <| pn)

theorem k_palingref21_least_J6 {a1 : Api_Net} {a2 : Bool} {l11 : List Int} {v15 : Int} {v18 : Int} {l34 : List Int} {l37 : List Int} {v38 : Int} {x41 : Int} {r : Int} (h : palingref21_least_J6 a1 a2 l11 v15 v18 l34 l37 v38 x41 = some r) :
    ExecOK Try.prog UU 0 87 (subC (codeOf Try.f70) [1, 1, 1, 0, 1, 0, 0, 1, 0, 0, 1, 0, 0, 1, 0, 0, 1, 1, 1, 0, 0, 1, 0, 0, 1, 0]) [(1, .v (.bool a2)), (2, .op 0 1 0 0), (4, .os 1 0), (5, .os 2 (List.length l11)), (7, .v (.int .i64 v15)), (8, .v (.int .i64 v18)), (9, .os 3 (List.length l34)), (10, .v (.int .i64 v38)), (11, .v (.int .i64 x41))] [.box 31 (c31 a1) false, .arr 3 [] 0 false, .arr 3 l37 (List.length l11) false, .arr 3 l34 (List.length l34) false] ((fun r => match r with | v56 => .nor) r) ((fun r => match r with | v56 => [(1, .v (.bool a2)), (2, .op 0 1 0 0), (4, .os 1 0), (5, .os 2 (List.length l11)), (7, .v (.int .i64 v15)), (8, .v (.int .i64 v18)), (9, .os 3 (List.length l34)), (10, .v (.int .i64 v38)), (11, .v (.int .i64 v56))]) r) ((fun r => match r with | v56 => [.box 31 (c31 a1) false, .arr 3 [] 0 false, .arr 3 l37 (List.length l11) false, .arr 3 l34 (List.length l34) false]) r) := by
  unfold palingref21_least_J6 at h
  rcases ite_out h with ⟨h43, h⟩ | ⟨h43, h⟩
  · obtain ⟨x44, h45, h⟩ := bind_out h
    rcases ite_out h with ⟨h46, h⟩ | ⟨h46, h⟩
    · obtain ⟨x47, h48, h⟩ := bind_out h
      rcases ite_out h with ⟨h49, h⟩ | ⟨h49, h⟩
      · obtain ⟨x50, h51, h⟩ := bind_out h
        rcases ite_out h with ⟨h52, h⟩ | ⟨h52, h⟩
        · obtain ⟨x53, h54, h⟩ := bind_out h
          injection h with h; subst h; exact runLp_sound mixedOrders (live := [1, 2, 4, 5, 7, 8, 9, 10, 11]) (ids := [0, 1, 2, 3]) (π := [.row (c3 x44), .row (c3 x47), .dec true, .row (c3 x50), .row (c3 x53)]) (hx := by kernel_rfl) (hps := pc (And.intro (rfl : ((List.length l34) : Nat) = (List.length l34)) (lin_ob h43)) <| pc (And.intro (rfl : ((List.length l34) : Nat) = (List.length l34)) (obn3 h45)) <| pc (And.intro (rfl : ((List.length l11) : Nat) = (List.length l11)) (lin_ob h46)) <| pc (And.intro (rfl : ((List.length l11) : Nat) = (List.length l11)) (obn3 h48)) <| pc (h49) <| pc (And.intro (rfl : ((List.length l34) : Nat) = (List.length l34)) (lin_ob h43)) <| pc (And.intro (rfl : ((List.length l34) : Nat) = (List.length l34)) (obn3 h51)) <| pc (And.intro (rfl : ((List.length l11) : Nat) = (List.length l11)) (lin_ob h52)) <| pc (And.intro (rfl : ((List.length l11) : Nat) = (List.length l11)) (obn3 h54)) <| pn)
        · cases h
      · injection h with h; subst h; exact runLp_sound mixedOrders (live := [1, 2, 4, 5, 7, 8, 9, 10, 11]) (ids := [0, 1, 2, 3]) (π := [.row (c3 x44), .row (c3 x47), .dec false]) (hx := by kernel_rfl) (hps := pc (And.intro (rfl : ((List.length l34) : Nat) = (List.length l34)) (lin_ob h43)) <| pc (And.intro (rfl : ((List.length l34) : Nat) = (List.length l34)) (obn3 h45)) <| pc (And.intro (rfl : ((List.length l11) : Nat) = (List.length l11)) (lin_ob h46)) <| pc (And.intro (rfl : ((List.length l11) : Nat) = (List.length l11)) (obn3 h48)) <| pc (h49) <| pn)
    · cases h
  · cases h

theorem k_palingref21_least_L5 {a1 : Api_Net} {a2 : Bool} {l11 : List Int} {v15 : Int} {v18 : Int} {l34 : List Int} : LoopOK Try.prog UU 0 87 (subC (codeOf Try.f70) [1, 1, 1, 0, 1, 0, 0, 1, 0, 0, 1, 0, 0, 1, 0, 0, 1, 1, 1, 0, 0]) (fun s : (List Int) × Int => match s with | (l37, v38) => palingref21_least_L5 a1 a2 l11 v15 v18 l34 l37 v38)
    (fun s : (List Int) × Int => (match s with | (l37, v38) => [(1, .v (.bool a2)), (2, .op 0 1 0 0), (4, .os 1 0), (5, .os 2 (List.length l11)), (7, .v (.int .i64 v15)), (8, .v (.int .i64 v18)), (9, .os 3 (List.length l34)), (10, .v (.int .i64 v38))] : Fr DD)) (fun s : (List Int) × Int => (match s with | (l37, v38) => [.box 31 (c31 a1) false, .arr 3 [] 0 false, .arr 3 l37 (List.length l11) false, .arr 3 l34 (List.length l34) false] : Heap DD)) (fun r => match r with | l73 => .exit 6) (fun r => match r with | l73 => [(1, .v (.bool a2)), (2, .op 0 1 0 0), (4, .os 1 0), (5, .os 2 (List.length l11)), (7, .v (.int .i64 v15)), (8, .v (.int .i64 v18))]) (fun r => match r with | l73 => [.box 31 (c31 a1) false, .arr 3 [] 0 false, .arr 3 l73 (List.length l11) false]) := by
  refine loop_sound3 (fun s q h => ?_) (fun r => ?_)
  · obtain ⟨l37, v38⟩ := s; replace h : palingref21_least_L5 a1 a2 l11 v15 v18 l34 l37 v38 = some q := h
    unfold palingref21_least_L5 at h
    rcases ite_out h with ⟨h39, h⟩ | ⟨h39, h⟩
    · rcases ite_out h with ⟨h40, h⟩ | ⟨h40, h⟩
      · obtain ⟨x41, h42, h⟩ := bind_out h
        obtain ⟨v56, h57, h⟩ := bind_out h
        obtain ⟨x59, h60, h⟩ := bind_out h
        rcases ite_out h with ⟨h61, h⟩ | ⟨h61, h⟩
        · obtain ⟨x62, h63, h⟩ := bind_out h
          rcases ite_out h with ⟨h64, h⟩ | ⟨h64, h⟩
          · obtain ⟨x65, h66, h⟩ := bind_out h
            injection h with h; subst h; exact runLp_sound mixedOrders (live := [1, 2, 4, 5, 7, 8, 9, 10]) (ids := [0, 1, 2, 3]) (π := [.dec true, .row (c3 x41), .cut [1, 2, 4, 5, 7, 8, 9, 10, 11] [0, 1, 2, 3] .nor [(1, .v (.bool a2)), (2, .op 0 1 0 0), (4, .os 1 0), (5, .os 2 (List.length l11)), (7, .v (.int .i64 v15)), (8, .v (.int .i64 v18)), (9, .os 3 (List.length l34)), (10, .v (.int .i64 v38)), (11, .v (.int .i64 v56))] [.box 31 (c31 a1) false, .arr 3 [] 0 false, .arr 3 l37 (List.length l11) false, .arr 3 l34 (List.length l34) false], .row (c3 x59), .obj [] (.arr 3 (List.set l37 (Int.toNat v18) v56) (List.length l11) false), .row (c3 x62), .row (c3 x65), .obj [] (.arr 3 (List.set (List.set l37 (Int.toNat v18) v56) (Int.toNat x62) v56) (List.length l11) false)]) (hx := by kernel_rfl) (hps := pc ((rfl : ((List.length l34) : Nat) = (List.length l34))) <| pc (h39) <| pc (And.intro (rfl : ((List.length l11) : Nat) = (List.length l11)) (lin_ob h40)) <| pc (And.intro (rfl : ((List.length l11) : Nat) = (List.length l11)) (obn3 h42)) <| pc (k_palingref21_least_J6 h57) <| pc (And.intro (rfl : ((List.length l11) : Nat) = (List.length l11)) (lin_ob h40)) <| pc (st_ob (e := 3) (n := (List.length l11)) (l := l37) (i := (Int.toNat v18)) v56 [.v (.int .i64 v56)] (obn3 h60) rfl) <| pc (And.intro (rfl : ((List.length l34) : Nat) = (List.length l34)) (lin_ob h61)) <| pc (And.intro (rfl : ((List.length l34) : Nat) = (List.length l34)) (obn3 h63)) <| pc (And.intro (rfl : ((List.length l11) : Nat) = (List.length l11)) (lin_ob h64)) <| pc (st_ob (e := 3) (n := (List.length l11)) (l := List.set l37 (Int.toNat v18) v56) (i := (Int.toNat x62)) v56 [.v (.int .i64 v56)] (obn3 h66) rfl) <| pn)
          · cases h
        · cases h
      · cases h
    · injection h with h; subst h; exact runLp_sound mixedOrders (live := [1, 2, 4, 5, 7, 8]) (ids := [0, 1, 2]) (π := [.dec false]) (hx := by kernel_rfl) (hps := pc ((rfl : ((List.length l34) : Nat) = (List.length l34))) <| pc (h39) <| pn)
  · exact Ex.noConfusion

theorem k_palingref21_least_L3 {a1 : Api_Net} {a2 : Bool} {l11 : List Int} {v15 : Int} : LoopOK Try.prog UU 0 87 (subC (codeOf Try.f70) [1, 1, 1, 0, 1, 0, 0, 1, 0, 0, 1, 0, 0]) (fun s : (List Int) × Int => match s with | (l17, v18) => palingref21_least_L3 a1 a2 l11 v15 l17 v18)
    (fun s : (List Int) × Int => (match s with | (l17, v18) => [(1, .v (.bool a2)), (2, .op 0 1 0 0), (4, .os 1 0), (5, .os 2 (List.length l11)), (7, .v (.int .i64 v15)), (8, .v (.int .i64 v18))] : Fr DD)) (fun s : (List Int) × Int => (match s with | (l17, v18) => [.box 31 (c31 a1) false, .arr 3 [] 0 false, .arr 3 l17 (List.length l11) false] : Heap DD)) (fun r => match r with | l81 => .exit 4) (fun r => match r with | l81 => [(1, .v (.bool a2)), (2, .op 0 1 0 0), (4, .os 1 0), (5, .os 2 (List.length l11)), (7, .v (.int .i64 v15))]) (fun r => match r with | l81 => [.box 31 (c31 a1) false, .arr 3 [] 0 false, .arr 3 l81 (List.length l11) false]) := by
  refine loop_sound3 (fun s q h => ?_) (fun r => ?_)
  · obtain ⟨l17, v18⟩ := s; replace h : palingref21_least_L3 a1 a2 l11 v15 l17 v18 = some q := h
    unfold palingref21_least_L3 at h
    rcases ite_out h with ⟨h19, h⟩ | ⟨h19, h⟩
    · obtain ⟨l22, h21, h⟩ := bind_out h
      obtain ⟨l34, h35, h⟩ := bind_out h
      obtain ⟨l73, h74, h⟩ := bind_out h
      injection h with h; subst h; exact runLp_sound mixedOrders (live := [1, 2, 4, 5, 7, 8]) (ids := [0, 1, 2]) (π := [.dec true, .callo (.os 0 (List.length l22)) [.arr 3 l22 (List.length l22) false], .cut [1, 2, 4, 5, 7, 8, 9] [0, 1, 2, 3] .nor [(1, .v (.bool a2)), (2, .op 0 1 0 0), (4, .os 1 0), (5, .os 2 (List.length l11)), (7, .v (.int .i64 v15)), (8, .v (.int .i64 v18)), (9, .os 3 (List.length l34))] [.box 31 (c31 a1) false, .arr 3 [] 0 false, .arr 3 l17 (List.length l11) false, .arr 3 l34 (List.length l34) false], .sum [1, 2, 4, 5, 7, 8, 9, 10] [0, 1, 2, 3] (.exit 6) [(1, .v (.bool a2)), (2, .op 0 1 0 0), (4, .os 1 0), (5, .os 2 (List.length l11)), (7, .v (.int .i64 v15)), (8, .v (.int .i64 v18))] [.box 31 (c31 a1) false, .arr 3 [] 0 false, .arr 3 l73 (List.length l11) false]]) (hx := by kernel_rfl) (hps := pc (h19) <| pc (k_palingref21_Crossed h21) <| pc (im3 l22) <| pc (k_palingref21_least_J4 h35) <| pc (k_palingref21_least_L5 _ _ h74) <| pn)
    · injection h with h; subst h; exact runLp_sound mixedOrders (live := [1, 2, 4, 5, 7]) (ids := [0, 1, 2]) (π := [.dec false]) (hx := by kernel_rfl) (hps := pc (h19) <| pn)
  · exact Ex.noConfusion

theorem k_palingref21_least_L2 {a1 : Api_Net} {a2 : Bool} {l11 : List Int} : LoopOK Try.prog UU 0 87 (subC (codeOf Try.f70) [1, 1, 1, 0, 1, 0, 0]) (fun s : (List Int) × Int => match s with | (l14, v15) => palingref21_least_L2 a1 a2 l11 l14 v15)
    (fun s : (List Int) × Int => (match s with | (l14, v15) => [(1, .v (.bool a2)), (2, .op 0 1 0 0), (4, .os 1 0), (5, .os 2 (List.length l11)), (7, .v (.int .i64 v15))] : Fr DD)) (fun s : (List Int) × Int => (match s with | (l14, v15) => [.box 31 (c31 a1) false, .arr 3 [] 0 false, .arr 3 l14 (List.length l11) false] : Heap DD)) (fun r => match r with | l86 => .exit 2) (fun r => match r with | l86 => [(4, .os 0 0), (5, .os 1 (List.length l11))]) (fun r => match r with | l86 => [.arr 3 [] 0 false, .arr 3 l86 (List.length l11) false]) := by
  refine loop_sound3 (fun s q h => ?_) (fun r => ?_)
  · obtain ⟨l14, v15⟩ := s; replace h : palingref21_least_L2 a1 a2 l11 l14 v15 = some q := h
    unfold palingref21_least_L2 at h
    rcases ite_out h with ⟨h16, h⟩ | ⟨h16, h⟩
    · obtain ⟨l81, h82, h⟩ := bind_out h
      injection h with h; subst h; exact runLp_sound mixedOrders (live := [1, 2, 4, 5, 7]) (ids := [0, 1, 2]) (π := [.dec true, .sum [1, 2, 4, 5, 7, 8] [0, 1, 2] (.exit 4) [(1, .v (.bool a2)), (2, .op 0 1 0 0), (4, .os 1 0), (5, .os 2 (List.length l11)), (7, .v (.int .i64 v15))] [.box 31 (c31 a1) false, .arr 3 [] 0 false, .arr 3 l81 (List.length l11) false]]) (hx := by kernel_rfl) (hps := pc (h16) <| pc (k_palingref21_least_L3 _ _ h82) <| pn)
    · injection h with h; subst h; exact runLp_sound mixedOrders (live := [4, 5]) (ids := [1, 2]) (π := [.dec false]) (hx := by kernel_rfl) (hps := pc (h16) <| pn)
  · exact Ex.noConfusion

theorem k_palingref21_least {a1 : Api_Net} {a2 : Bool} {r : ((List Int) × Nat)} (h : palingref21_least a1 a2 = some r) :
    CallsOK Try.prog UU 70 [.agg (c31 a1), .v (.bool a2)] [] ((fun r => match r with | (l89, n90) => .os 0 n90) r) ((fun r => match r with | (l89, n90) => [.arr 3 l89 n90 false]) r) := by
  unfold palingref21_least at h
  obtain ⟨l11, h12, h⟩ := bind_out h
  obtain ⟨l86, h87, h⟩ := bind_out h
  injection h with h; subst h; exact runFn_sound mixedOrders Try.func70 rfl (keep := some [1]) (π := [.sum [1, 2, 4, 5, 6] [0, 1, 2] (.exit 0) [(1, .v (.bool a2)), (2, .op 0 1 0 0), (4, .os 1 0), (5, .os 2 (List.length l11))] [.box 31 (c31 a1) false, .arr 3 [] 0 false, .arr 3 l11 (List.length l11) false], .sum [1, 2, 4, 5, 7] [0, 1, 2] (.exit 2) [(4, .os 0 0), (5, .os 1 (List.length l11))] [.arr 3 [] 0 false, .arr 3 l86 (List.length l11) false]]) (hrun := by kernel_rfl) (hps := pc (k_palingref21_least_L1 _ _ h12) <| pc (k_palingref21_least_L2 _ _ h87) <| pn)

theorem k_palingref21_Links {a1 : Api_Net} {r : ((List Int) × Nat)} (h : palingref21_Links a1 = some r) :
    CallsOK Try.prog UU 24 [.agg (c31 a1)] [] ((fun r => match r with | (l6, n7) => .os 0 n7) r) ((fun r => match r with | (l6, n7) => [.arr 3 l6 n7 false]) r) := by
  unfold palingref21_Links at h
  obtain ⟨r2, h3, h⟩ := bind_out h
  obtain ⟨l4, n5⟩ := r2
  injection h with h; subst h; exact runFn_sound mixedOrders Try.func24 rfl (keep := some [2]) (π := [.callo (.os 0 n5) [.arr 3 l4 n5 false]]) (hrun := by kernel_rfl) (hps := pc (k_palingref21_least h3) <| pc (im3 l4) <| pn)

theorem k_palingref21_mesh_L1 {a1 : Api_Net} {a2 : Int} : LoopOK Try.prog UU 0 40 (subC (codeOf Try.f68) [1, 1, 0, 1, 0, 0]) (fun s : Int × Int => match s with | (v3, v4) => palingref21_mesh_L1 a1 a2 v3 v4)
    (fun s : Int × Int => (match s with | (v3, v4) => [(1, .v (.int .i64 a2)), (2, .op 0 1 0 0), (4, .v (.int .i64 0)), (5, .v (.int .i64 v3)), (6, .v (.int .i64 v4))] : Fr DD)) (fun s : Int × Int => (match s with | (v3, v4) => [.box 31 (c31 a1) false] : Heap DD)) (fun r => match r with | v18 => .exit 0) (fun r => match r with | v18 => [(4, .v (.int .i64 0)), (5, .v (.int .i64 v18))]) (fun r => match r with | v18 => []) := by
  refine loop_sound3 (fun s q h => ?_) (fun r => ?_)
  · obtain ⟨v3, v4⟩ := s; replace h : palingref21_mesh_L1 a1 a2 v3 v4 = some q := h
    unfold palingref21_mesh_L1 at h
    obtain ⟨x5, h6, h⟩ := bind_out h
    rcases ite_out h with ⟨h7, h⟩ | ⟨h7, h⟩
    · obtain ⟨x8, h9, h⟩ := bind_out h
      obtain ⟨x10, h11, h⟩ := bind_out h
      rcases ite_out h with ⟨h12, h⟩ | ⟨h12, h⟩
      · obtain ⟨x13, h14, h⟩ := bind_out h
        obtain ⟨x15, h16, h⟩ := bind_out h
        injection h with h; subst h; exact runLp_sound mixedOrders (live := [1, 2, 4, 5, 6]) (ids := [0]) (π := [.row (c40 x5), .dec true, .row (c40 x8), .row (c3 x10), .dec true, .row (c40 x13), .row (c3 x15)]) (hx := by kernel_rfl) (hps := pc (ob40 h6) <| pc (h7) <| pc (ob40 h9) <| pc (ob3 h11) <| pc (h12) <| pc (ob40 h14) <| pc (ob3 h16) <| pn)
      · injection h with h; subst h; exact runLp_sound mixedOrders (live := [1, 2, 4, 5, 6]) (ids := [0]) (π := [.row (c40 x5), .dec true, .row (c40 x8), .row (c3 x10), .dec false]) (hx := by kernel_rfl) (hps := pc (ob40 h6) <| pc (h7) <| pc (ob40 h9) <| pc (ob3 h11) <| pc (h12) <| pn)
    · injection h with h; subst h; exact runLp_sound mixedOrders (live := [4, 5]) (ids := []) (π := [.row (c40 x5), .dec false]) (hx := by kernel_rfl) (hps := pc (ob40 h6) <| pc (h7) <| pn)
  · exact Ex.noConfusion

theorem k_palingref21_mesh {a1 : Api_Net} {a2 : Int} {r : Int} (h : palingref21_mesh a1 a2 = some r) :
    CallsOK Try.prog UU 68 [.agg (c31 a1), .v (.int .i64 a2)] [] (.v (.int .i64 r)) [] := by
  unfold palingref21_mesh at h
  obtain ⟨v18, h19, h⟩ := bind_out h
  injection h with h; subst h; exact runFn_sound mixedOrders Try.func68 rfl (keep := none) (π := [.sum [1, 2, 4, 5, 6] [0] (.exit 0) [(4, .v (.int .i64 0)), (5, .v (.int .i64 v18))] []]) (hrun := by kernel_rfl) (hps := pc (k_palingref21_mesh_L1 _ _ h19) <| pn)

theorem k_palingref21_way_J3 {a1 : List Int} {a2 : List Int} {a4 : Int} {v7 : Int} {l9 : List Int} {l10 : List Int} {v11 : Int} {r : (List Int)} (h : palingref21_way_J3 a1 a2 a4 v7 l9 l10 v11 = some r) :
    ExecOK Try.prog UU 0 75 (subC (codeOf Try.f67) [1, 1, 1, 0, 1, 0, 0, 1, 0, 0, 1, 0, 0, 1, 0, 0, 0]) [(0, .sl 3 a1), (1, .sl 3 a2), (3, .v (.int .i64 a4)), (8, .v (.bool false)), (9, .os 0 (List.length l9)), (10, .os 1 (List.length l10)), (11, .v (.int .i64 v7)), (12, .v (.int .i64 v11))] [.arr 3 l9 (List.length l9) false, .arr 3 l10 (List.length l10) false] ((fun r => match r with | l34 => .nor) r) ((fun r => match r with | l34 => [(0, .sl 3 a1), (1, .sl 3 a2), (3, .v (.int .i64 a4)), (8, .v (.bool false)), (9, .os 0 (List.length l9)), (10, .os 1 (List.length l34)), (11, .v (.int .i64 v7)), (12, .v (.int .i64 v11))]) r) ((fun r => match r with | l34 => [.arr 3 l9 (List.length l9) false, .arr 3 l34 (List.length l34) false]) r) := by
  unfold palingref21_way_J3 at h
  obtain ⟨x13, h14, h⟩ := bind_out h
  obtain ⟨r15, h16, h⟩ := bind_out h
  rcases ite_out h with ⟨h17, h⟩ | ⟨h17, h⟩
  · obtain ⟨x18, h19, h⟩ := bind_out h
    obtain ⟨r20, h21, h⟩ := bind_out h
    rcases ite_out h with ⟨h22, h⟩ | ⟨h22, h⟩
    · obtain ⟨x23, h24, h⟩ := bind_out h
      rcases ite_out h with ⟨h25, h⟩ | ⟨h25, h⟩
      · injection h with h; subst h; exact runLp_sound mixedOrders (live := [0, 1, 3, 8, 9, 10, 11, 12]) (ids := [0, 1]) (π := [.row (c3 x13), .callv (.v (.bool r15)), .dec true, .row (c3 x18), .callv (.v (.bool r20)), .dec true, .row (c3 x23), .obj [] (.arr 3 [x23] (List.length [x23]) false), .obj [2] (.arr 3 (l10 ++ [x23]) (List.length (l10 ++ [x23])) false)]) (hx := by kernel_rfl) (hps := pc (ob3 h14) <| pc (k_palingref15_In h16) <| pc ((rfl : ((List.length l9) : Nat) = (List.length l9))) <| pc (h17) <| pc (ob3 h19) <| pc (k_palingref15_In h21) <| pc ((rfl : ((List.length l10) : Nat) = (List.length l10))) <| pc (h22) <| pc (ob3 h24) <| pc (bs_ob 3 [x23]) <| pc (app_ob 3 (n := (List.length l10)) (l := l10) (xs := [x23]) h25) <| pc ((rfl : ((List.length [x23]) : Nat) = (List.length [x23]))) <| pn)
      · cases h
    · injection h with h; subst h; exact runLp_sound mixedOrders (live := [0, 1, 3, 8, 9, 10, 11, 12]) (ids := [0, 1]) (π := [.row (c3 x13), .callv (.v (.bool r15)), .dec true, .row (c3 x18), .callv (.v (.bool r20)), .dec false]) (hx := by kernel_rfl) (hps := pc (ob3 h14) <| pc (k_palingref15_In h16) <| pc ((rfl : ((List.length l9) : Nat) = (List.length l9))) <| pc (h17) <| pc (ob3 h19) <| pc (k_palingref15_In h21) <| pc ((rfl : ((List.length l10) : Nat) = (List.length l10))) <| pc (h22) <| pn)
  · injection h with h; subst h; exact runLp_sound mixedOrders (live := [0, 1, 3, 8, 9, 10, 11, 12]) (ids := [0, 1]) (π := [.row (c3 x13), .callv (.v (.bool r15)), .dec false]) (hx := by kernel_rfl) (hps := pc (ob3 h14) <| pc (k_palingref15_In h16) <| pc ((rfl : ((List.length l9) : Nat) = (List.length l9))) <| pc (h17) <| pn)

theorem k_palingref21_way_L2 {a1 : List Int} {a2 : List Int} {a4 : Int} {v7 : Int} : LoopOK Try.prog UU 0 75 (subC (codeOf Try.f67) [1, 1, 1, 0, 1, 0, 0, 1, 0, 0, 1, 0, 0]) (fun s : (List Int) × (List Int) × Int => match s with | (l9, l10, v11) => palingref21_way_L2 a1 a2 a4 v7 l9 l10 v11)
    (fun s : (List Int) × (List Int) × Int => (match s with | (l9, l10, v11) => [(0, .sl 3 a1), (1, .sl 3 a2), (3, .v (.int .i64 a4)), (8, .v (.bool false)), (9, .os 0 (List.length l9)), (10, .os 1 (List.length l10)), (11, .v (.int .i64 v7)), (12, .v (.int .i64 v11))] : Fr DD)) (fun s : (List Int) × (List Int) × Int => (match s with | (l9, l10, v11) => [.arr 3 l9 (List.length l9) false, .arr 3 l10 (List.length l10) false] : Heap DD)) (fun r => match r with | (l64, l65) => .exit 2) (fun r => match r with | (l64, l65) => [(0, .sl 3 a1), (1, .sl 3 a2), (3, .v (.int .i64 a4)), (8, .v (.bool false)), (9, .os 0 (List.length l64)), (10, .os 1 (List.length l65)), (11, .v (.int .i64 v7))]) (fun r => match r with | (l64, l65) => [.arr 3 l64 (List.length l64) false, .arr 3 l65 (List.length l65) false]) := by
  refine loop_sound3 (fun s q h => ?_) (fun r => ?_)
  · obtain ⟨l9, l10, v11⟩ := s; replace h : palingref21_way_L2 a1 a2 a4 v7 l9 l10 v11 = some q := h
    unfold palingref21_way_L2 at h
    rcases ite_out h with ⟨h12, h⟩ | ⟨h12, h⟩
    · obtain ⟨l34, h35, h⟩ := bind_out h
      obtain ⟨x37, h38, h⟩ := bind_out h
      obtain ⟨r39, h40, h⟩ := bind_out h
      rcases ite_out h with ⟨h41, h⟩ | ⟨h41, h⟩
      · obtain ⟨x42, h43, h⟩ := bind_out h
        obtain ⟨r44, h45, h⟩ := bind_out h
        rcases ite_out h with ⟨h46, h⟩ | ⟨h46, h⟩
        · obtain ⟨x47, h48, h⟩ := bind_out h
          rcases ite_out h with ⟨h49, h⟩ | ⟨h49, h⟩
          · injection h with h; subst h; exact runLp_sound mixedOrders (live := [0, 1, 3, 8, 9, 10, 11, 12]) (ids := [0, 1]) (π := [.dec true, .skp, .cut [0, 1, 3, 8, 9, 10, 11, 12] [0, 1] .nor [(0, .sl 3 a1), (1, .sl 3 a2), (3, .v (.int .i64 a4)), (8, .v (.bool false)), (9, .os 0 (List.length l9)), (10, .os 1 (List.length l34)), (11, .v (.int .i64 v7)), (12, .v (.int .i64 v11))] [.arr 3 l9 (List.length l9) false, .arr 3 l34 (List.length l34) false], .row (c3 x37), .callv (.v (.bool r39)), .dec true, .row (c3 x42), .callv (.v (.bool r44)), .dec true, .row (c3 x47), .obj [] (.arr 3 [x47] (List.length [x47]) false), .obj [2] (.arr 3 (l9 ++ [x47]) (List.length (l9 ++ [x47])) false)]) (hx := by kernel_rfl) (hps := pc (h12) <| pc (k_palingref21_way_J3 h35) <| pc (ob3 h38) <| pc (k_palingref15_In h40) <| pc ((rfl : ((List.length l34) : Nat) = (List.length l34))) <| pc (h41) <| pc (ob3 h43) <| pc (k_palingref15_In h45) <| pc ((rfl : ((List.length l9) : Nat) = (List.length l9))) <| pc (h46) <| pc (ob3 h48) <| pc (bs_ob 3 [x47]) <| pc (app_ob 3 (n := (List.length l9)) (l := l9) (xs := [x47]) h49) <| pc ((rfl : ((List.length [x47]) : Nat) = (List.length [x47]))) <| pn)
          · cases h
        · injection h with h; subst h; exact runLp_sound mixedOrders (live := [0, 1, 3, 8, 9, 10, 11, 12]) (ids := [0, 1]) (π := [.dec true, .skp, .cut [0, 1, 3, 8, 9, 10, 11, 12] [0, 1] .nor [(0, .sl 3 a1), (1, .sl 3 a2), (3, .v (.int .i64 a4)), (8, .v (.bool false)), (9, .os 0 (List.length l9)), (10, .os 1 (List.length l34)), (11, .v (.int .i64 v7)), (12, .v (.int .i64 v11))] [.arr 3 l9 (List.length l9) false, .arr 3 l34 (List.length l34) false], .row (c3 x37), .callv (.v (.bool r39)), .dec true, .row (c3 x42), .callv (.v (.bool r44)), .dec false]) (hx := by kernel_rfl) (hps := pc (h12) <| pc (k_palingref21_way_J3 h35) <| pc (ob3 h38) <| pc (k_palingref15_In h40) <| pc ((rfl : ((List.length l34) : Nat) = (List.length l34))) <| pc (h41) <| pc (ob3 h43) <| pc (k_palingref15_In h45) <| pc ((rfl : ((List.length l9) : Nat) = (List.length l9))) <| pc (h46) <| pn)
      · injection h with h; subst h; exact runLp_sound mixedOrders (live := [0, 1, 3, 8, 9, 10, 11, 12]) (ids := [0, 1]) (π := [.dec true, .skp, .cut [0, 1, 3, 8, 9, 10, 11, 12] [0, 1] .nor [(0, .sl 3 a1), (1, .sl 3 a2), (3, .v (.int .i64 a4)), (8, .v (.bool false)), (9, .os 0 (List.length l9)), (10, .os 1 (List.length l34)), (11, .v (.int .i64 v7)), (12, .v (.int .i64 v11))] [.arr 3 l9 (List.length l9) false, .arr 3 l34 (List.length l34) false], .row (c3 x37), .callv (.v (.bool r39)), .dec false]) (hx := by kernel_rfl) (hps := pc (h12) <| pc (k_palingref21_way_J3 h35) <| pc (ob3 h38) <| pc (k_palingref15_In h40) <| pc ((rfl : ((List.length l34) : Nat) = (List.length l34))) <| pc (h41) <| pn)
    · injection h with h; subst h; exact runLp_sound mixedOrders (live := [0, 1, 3, 8, 9, 10, 11]) (ids := [0, 1]) (π := [.dec false]) (hx := by kernel_rfl) (hps := pc (h12) <| pn)
  · exact Ex.noConfusion

theorem k_palingref21_way_L1 {a1 : List Int} {a2 : List Int} {a4 : Int} : LoopOK Try.prog UU 0 75 (subC (codeOf Try.f67) [1, 1, 1, 0, 1, 0, 0]) (fun s : (List Int) × (List Int) × Int => match s with | (l5, l6, v7) => palingref21_way_L1 a1 a2 a4 l5 l6 v7)
    (fun s : (List Int) × (List Int) × Int => (match s with | (l5, l6, v7) => [(0, .sl 3 a1), (1, .sl 3 a2), (3, .v (.int .i64 a4)), (8, .v (.bool false)), (9, .os 0 (List.length l5)), (10, .os 1 (List.length l6)), (11, .v (.int .i64 v7))] : Fr DD)) (fun s : (List Int) × (List Int) × Int => (match s with | (l5, l6, v7) => [.arr 3 l5 (List.length l5) false, .arr 3 l6 (List.length l6) false] : Heap DD)) (fun r => match r with | l71 => .exit 0) (fun r => match r with | l71 => [(3, .v (.int .i64 a4)), (8, .v (.bool false)), (10, .os 0 (List.length l71))]) (fun r => match r with | l71 => [.arr 3 l71 (List.length l71) false]) := by
  refine loop_sound3 (fun s q h => ?_) (fun r => ?_)
  · obtain ⟨l5, l6, v7⟩ := s; replace h : palingref21_way_L1 a1 a2 a4 l5 l6 v7 = some q := h
    unfold palingref21_way_L1 at h
    rcases ite_out h with ⟨h8, h⟩ | ⟨h8, h⟩
    · obtain ⟨r67, h66, h⟩ := bind_out h
      obtain ⟨l64, l65⟩ := r67
      injection h with h; subst h; exact runLp_sound mixedOrders (live := [0, 1, 3, 8, 9, 10, 11]) (ids := [0, 1]) (π := [.dec true, .sum [0, 1, 3, 8, 9, 10, 11, 12] [0, 1] (.exit 2) [(0, .sl 3 a1), (1, .sl 3 a2), (3, .v (.int .i64 a4)), (8, .v (.bool false)), (9, .os 0 (List.length l64)), (10, .os 1 (List.length l65)), (11, .v (.int .i64 v7))] [.arr 3 l64 (List.length l64) false, .arr 3 l65 (List.length l65) false]]) (hx := by kernel_rfl) (hps := pc (h8) <| pc (k_palingref21_way_L2 _ _ h66) <| pn)
    · injection h with h; subst h; exact runLp_sound mixedOrders (live := [3, 8, 10]) (ids := [1]) (π := [.dec false]) (hx := by kernel_rfl) (hps := pc (h8) <| pn)
  · exact Ex.noConfusion

theorem k_palingref21_way {a1 : List Int} {a2 : List Int} {a3 : Int} {a4 : Int} {r : Bool} (h : palingref21_way a1 a2 a3 a4 = some r) :
    CallsOK Try.prog UU 67 [.sl 3 a1, .sl 3 a2, .v (.int .i64 a3), .v (.int .i64 a4)] [] (.v (.bool r)) [] := by
  unfold palingref21_way at h
  obtain ⟨l71, h72, h⟩ := bind_out h
  obtain ⟨r74, h75, h⟩ := bind_out h
  injection h with h; subst h; exact runFn_sound mixedOrders Try.func67 rfl (keep := none) (π := [.obj [] (.arr 3 [a3] (List.length [a3]) false), .sum [0, 1, 3, 8, 9, 10, 11] [0, 1] (.exit 0) [(3, .v (.int .i64 a4)), (8, .v (.bool false)), (10, .os 0 (List.length l71))] [.arr 3 l71 (List.length l71) false], .callv (.v (.bool r74))]) (hrun := by kernel_rfl) (hps := pc (bs_ob 3 [a3]) <| pc (k_palingref21_way_L1 _ _ h72) <| pc (k_palingref15_In h75) <| pc ((rfl : ((List.length l71) : Nat) = (List.length l71))) <| pn)

theorem k_palingref21_Loop_L1 {a1 : Api_Net} {l4 : List Int} {n5 : Nat} : LoopOK Try.prog UU 0 54 (subC (codeOf Try.f20) [1, 1, 1, 1, 0, 1, 0, 0]) (fun s : (List Int) × (List Int) × Int => match s with | (l6, l7, v8) => palingref21_Loop_L1 a1 l4 n5 l6 l7 v8)
    (fun s : (List Int) × (List Int) × Int => (match s with | (l6, l7, v8) => [(1, .op 0 1 0 0), (2, .v (.int .i64 0)), (3, .v (.bool false)), (4, .os 1 n5), (5, .os 2 (List.length l6)), (6, .os 3 (List.length l7)), (7, .v (.int .i64 v8))] : Fr DD)) (fun s : (List Int) × (List Int) × Int => (match s with | (l6, l7, v8) => [.box 31 (c31 a1) false, .arr 3 l4 n5 false, .arr 3 l6 (List.length l6) false, .arr 3 l7 (List.length l7) false] : Heap DD)) (fun r => match r with | Sum.inl v30 => .ret | Sum.inr _ => .exit 0) (fun r => match r with | Sum.inl v30 => [(2, .v (.int .i64 v30)), (3, .v (.bool true))] | Sum.inr _ => [(2, .v (.int .i64 0)), (3, .v (.bool false))]) (fun r => match r with | Sum.inl v30 => [] | Sum.inr _ => []) := by
  refine loop_sound3 (fun s q h => ?_) (fun r => ?_)
  · obtain ⟨l6, l7, v8⟩ := s; replace h : palingref21_Loop_L1 a1 l4 n5 l6 l7 v8 = some q := h
    unfold palingref21_Loop_L1 at h
    rcases ite_out h with ⟨h9, h⟩ | ⟨h9, h⟩
    · obtain ⟨x10, h11, h⟩ := bind_out h
      rcases ite_out h with ⟨h12, h⟩ | ⟨h12, h⟩
      · injection h with h; subst h; exact runLp_sound mixedOrders (live := [1, 2, 3, 4, 5, 6, 7]) (ids := [0, 1, 2, 3]) (π := [.dec true, .row (c40 x10), .dec true]) (hx := by kernel_rfl) (hps := pc (h9) <| pc (ob40 h11) <| pc (h12) <| pn)
      · rcases ite_out h with ⟨h13, h⟩ | ⟨h13, h⟩
        · obtain ⟨x14, h15, h⟩ := bind_out h
          obtain ⟨r16, h17, h⟩ := bind_out h
          obtain ⟨r18, h19, h⟩ := bind_out h
          rcases ite_out h with ⟨h20, h⟩ | ⟨h20, h⟩
          · obtain ⟨x21, h22, h⟩ := bind_out h
            injection h with h; subst h; exact runLp_sound mixedOrders (live := [2, 3]) (ids := []) (π := [.dec true, .row (c40 x10), .dec false, .row (c3 x14), .callv (.v (.int .i64 r16)), .callv (.v (.bool r18)), .dec true, .row (c40 x21)]) (hx := by kernel_rfl) (hps := pc (h9) <| pc (ob40 h11) <| pc (h12) <| pc (And.intro (rfl : (n5 : Nat) = n5) (lin_ob h13)) <| pc (And.intro (rfl : (n5 : Nat) = n5) (obn3 h15)) <| pc (k_palingref21_mesh h17) <| pc (k_palingref21_way h19) <| pc ((rfl : ((List.length l6) : Nat) = (List.length l6))) <| pc ((rfl : ((List.length l7) : Nat) = (List.length l7))) <| pc (h20) <| pc (ob40 h22) <| pn)
          · obtain ⟨x23, h24, h⟩ := bind_out h
            rcases ite_out h with ⟨h25, h⟩ | ⟨h25, h⟩
            · obtain ⟨r26, h27, h⟩ := bind_out h
              rcases ite_out h with ⟨h28, h⟩ | ⟨h28, h⟩
              · injection h with h; subst h; exact runLp_sound mixedOrders (live := [1, 2, 3, 4, 5, 6, 7]) (ids := [0, 1, 2, 3]) (π := [.dec true, .row (c40 x10), .dec false, .row (c3 x14), .callv (.v (.int .i64 r16)), .callv (.v (.bool r18)), .dec false, .row (c3 x23), .obj [] (.arr 3 [x23] (List.length [x23]) false), .obj [4] (.arr 3 (l6 ++ [x23]) (List.length (l6 ++ [x23])) false), .callv (.v (.int .i64 r26)), .obj [] (.arr 3 [r26] (List.length [r26]) false), .obj [5] (.arr 3 (l7 ++ [r26]) (List.length (l7 ++ [r26])) false)]) (hx := by kernel_rfl) (hps := pc (h9) <| pc (ob40 h11) <| pc (h12) <| pc (And.intro (rfl : (n5 : Nat) = n5) (lin_ob h13)) <| pc (And.intro (rfl : (n5 : Nat) = n5) (obn3 h15)) <| pc (k_palingref21_mesh h17) <| pc (k_palingref21_way h19) <| pc ((rfl : ((List.length l6) : Nat) = (List.length l6))) <| pc ((rfl : ((List.length l7) : Nat) = (List.length l7))) <| pc (h20) <| pc (And.intro (rfl : (n5 : Nat) = n5) (lin_ob h13)) <| pc (And.intro (rfl : (n5 : Nat) = n5) (obn3 h24)) <| pc (bs_ob 3 [x23]) <| pc (app_ob 3 (n := (List.length l6)) (l := l6) (xs := [x23]) h25) <| pc ((rfl : ((List.length [x23]) : Nat) = (List.length [x23]))) <| pc (k_palingref21_mesh h27) <| pc (bs_ob 3 [r26]) <| pc (app_ob 3 (n := (List.length l7)) (l := l7) (xs := [r26]) h28) <| pc ((rfl : ((List.length [r26]) : Nat) = (List.length [r26]))) <| pn)
              · cases h
            · cases h
        · cases h
    · injection h with h; subst h; exact runLp_sound mixedOrders (live := [2, 3]) (ids := []) (π := [.dec false]) (hx := by kernel_rfl) (hps := pc (h9) <| pn)
  · rcases r with _ | _ <;> exact Ex.noConfusion

theorem k_palingref21_Loop {a1 : Api_Net} {r : Int × Bool} (h : palingref21_Loop a1 = some r) :
    CallsOK Try.prog UU 20 [.agg (c31 a1)] [] (.tup [.v (.int .i64 r.1), .v (.bool r.2)]) [] := by
  unfold palingref21_Loop at h
  obtain ⟨r2, h3, h⟩ := bind_out h
  obtain ⟨l4, n5⟩ := r2
  obtain ⟨r32, h31, h⟩ := bind_out h
  rcases r32 with v30 | _
  · injection h with h; subst h; exact runFn_sound mixedOrders Try.func20 rfl (keep := none) (π := [.callo (.os 0 n5) [.arr 3 l4 n5 false], .sum [1, 2, 3, 4, 5, 6, 7] [0, 1, 2, 3] .ret [(2, .v (.int .i64 v30)), (3, .v (.bool true))] []]) (hrun := by kernel_rfl) (hps := pc (k_palingref21_Links h3) <| pc (im3 l4) <| pc (k_palingref21_Loop_L1 _ _ h31) <| pn)
  · injection h with h; subst h; exact runFn_sound mixedOrders Try.func20 rfl (keep := none) (π := [.callo (.os 0 n5) [.arr 3 l4 n5 false], .sum [1, 2, 3, 4, 5, 6, 7] [0, 1, 2, 3] (.exit 0) [(2, .v (.int .i64 0)), (3, .v (.bool false))] []]) (hrun := by kernel_rfl) (hps := pc (k_palingref21_Links h3) <| pc (im3 l4) <| pc (k_palingref21_Loop_L1 _ _ h31) <| pn)

theorem k_palinglaw21_CompsLoops {a1 : Api_Net} {r : Bool} (h : palinglaw21_CompsLoops a1 = some r) :
    CallsOK Try.prog UU 3 [.agg (c31 a1)] [] (.v (.bool r)) [] := by
  unfold palinglaw21_CompsLoops at h
  obtain ⟨r2, h3, h⟩ := bind_out h
  rcases ite_out h with ⟨h4, h⟩ | ⟨h4, h⟩
  · obtain ⟨r5, h6, h⟩ := bind_out h
    injection h with h; subst h; exact runFn_sound mixedOrders Try.func3 rfl (keep := none) (π := [.callv (.v (.bool r2)), .dec true, .callv (.v (.bool r5))]) (hrun := by kernel_rfl) (hps := pc (k_palinglaw15_Great h3) <| pc (h4) <| pc (k_palinglaw21_works h6) <| pn)
  · obtain ⟨r7, h8, h⟩ := bind_out h
    obtain ⟨r9, h10, h⟩ := bind_out h
    rcases ite_out h with ⟨h11, h⟩ | ⟨h11, h⟩
    · rcases ite_out h with ⟨h12, h⟩ | ⟨h12, h⟩
      · rcases ite_out h with ⟨h13, h⟩ | ⟨h13, h⟩
        · obtain ⟨r14, h15, h⟩ := bind_out h
          injection h with h; subst h; exact runFn_sound mixedOrders Try.func3 rfl (keep := none) (π := [.callv (.v (.bool r2)), .dec false, .callv (.tup [.v (.int .i64 r7.1), .v (.bool r7.2)]), .callv (.v (.bool r9)), .dec true, .dec true, .dec true, .callv (.v (.bool r14))]) (hrun := by kernel_rfl) (hps := pc (k_palinglaw15_Great h3) <| pc (h4) <| pc (k_comps_Loop h8) <| pc (k_palingref15_Right h10) <| pc (h11) <| pc (h12) <| pc (h13) <| pc (k_palinglaw21_works h15) <| pn)
        · injection h with h; subst h; exact runFn_sound mixedOrders Try.func3 rfl (keep := none) (π := [.callv (.v (.bool r2)), .dec false, .callv (.tup [.v (.int .i64 r7.1), .v (.bool r7.2)]), .callv (.v (.bool r9)), .dec true, .dec true, .dec false]) (hrun := by kernel_rfl) (hps := pc (k_palinglaw15_Great h3) <| pc (h4) <| pc (k_comps_Loop h8) <| pc (k_palingref15_Right h10) <| pc (h11) <| pc (h12) <| pc (h13) <| pn)
      · injection h with h; subst h; exact runFn_sound mixedOrders Try.func3 rfl (keep := none) (π := [.callv (.v (.bool r2)), .dec false, .callv (.tup [.v (.int .i64 r7.1), .v (.bool r7.2)]), .callv (.v (.bool r9)), .dec true, .dec false]) (hrun := by kernel_rfl) (hps := pc (k_palinglaw15_Great h3) <| pc (h4) <| pc (k_comps_Loop h8) <| pc (k_palingref15_Right h10) <| pc (h11) <| pc (h12) <| pn)
    · obtain ⟨r16, h17, h⟩ := bind_out h
      rcases ite_out h with ⟨h18, h⟩ | ⟨h18, h⟩
      · rcases ite_out h with ⟨h19, h⟩ | ⟨h19, h⟩
        · obtain ⟨r20, h21, h⟩ := bind_out h
          injection h with h; subst h; exact runFn_sound mixedOrders Try.func3 rfl (keep := none) (π := [.callv (.v (.bool r2)), .dec false, .callv (.tup [.v (.int .i64 r7.1), .v (.bool r7.2)]), .callv (.v (.bool r9)), .dec false, .callv (.tup [.v (.int .i64 r16.1), .v (.bool r16.2)]), .dec true, .dec true, .callv (.v (.bool r20))]) (hrun := by kernel_rfl) (hps := pc (k_palinglaw15_Great h3) <| pc (h4) <| pc (k_comps_Loop h8) <| pc (k_palingref15_Right h10) <| pc (h11) <| pc (k_palingref21_Loop h17) <| pc (h18) <| pc (h19) <| pc (k_palinglaw21_works h21) <| pn)
        · injection h with h; subst h; exact runFn_sound mixedOrders Try.func3 rfl (keep := none) (π := [.callv (.v (.bool r2)), .dec false, .callv (.tup [.v (.int .i64 r7.1), .v (.bool r7.2)]), .callv (.v (.bool r9)), .dec false, .callv (.tup [.v (.int .i64 r16.1), .v (.bool r16.2)]), .dec true, .dec false]) (hrun := by kernel_rfl) (hps := pc (k_palinglaw15_Great h3) <| pc (h4) <| pc (k_comps_Loop h8) <| pc (k_palingref15_Right h10) <| pc (h11) <| pc (k_palingref21_Loop h17) <| pc (h18) <| pc (h19) <| pn)
      · injection h with h; subst h; exact runFn_sound mixedOrders Try.func3 rfl (keep := none) (π := [.callv (.v (.bool r2)), .dec false, .callv (.tup [.v (.int .i64 r7.1), .v (.bool r7.2)]), .callv (.v (.bool r9)), .dec false, .callv (.tup [.v (.int .i64 r16.1), .v (.bool r16.2)]), .dec false]) (hrun := by kernel_rfl) (hps := pc (k_palinglaw15_Great h3) <| pc (h4) <| pc (k_comps_Loop h8) <| pc (k_palingref15_Right h10) <| pc (h11) <| pc (k_palingref21_Loop h17) <| pc (h18) <| pn)

end Go.Eng
