/- Part of the proof of CompsTells: printed mirrors of the functions, or their contracts. No conditions. -/
import Derived.Test.YtakginbgngjhkaaMAK2
set_option linter.unusedVariables false
set_option maxRecDepth 100000
namespace Go.Eng
open Go Go.Proofs
theorem k_palingref15_Members_L1 {a1 : Api_Net} {x6 : Api_Domain} : LoopOK Try.prog UU 0 50 (subC (codeOf Try.f106) [1, 1, 1, 1, 0, 1, 0, 0]) (fun s : (List Int) × Int => match s with | (l8, v9) => palingref15_Members_L1 a1 x6 l8 v9)
    (fun s : (List Int) × Int => (match s with | (l8, v9) => [(2, .op 0 1 0 0), (4, .os 1 0), (5, .os 2 (List.length l8)), (6, .op 3 1 0 0), (7, .v (.int .i64 v9))] : Fr DD)) (fun s : (List Int) × Int => (match s with | (l8, v9) => [.box 31 (c31 a1) false, .arr 3 [] 0 false, .arr 3 l8 (List.length l8) false, .box 40 (c40 x6) false] : Heap DD)) (fun r => match r with | l22 => .exit 0) (fun r => match r with | l22 => [(4, .os 0 0), (5, .os 1 (List.length l22))]) (fun r => match r with | l22 => [.arr 3 [] 0 false, .arr 3 l22 (List.length l22) false]) := by
  refine loop_sound3 (fun s q h => ?_) (fun r => ?_)
  · obtain ⟨l8, v9⟩ := s; replace h : palingref15_Members_L1 a1 x6 l8 v9 = some q := h
    unfold palingref15_Members_L1 at h
    rcases ite_out h with ⟨h10, h⟩ | ⟨h10, h⟩
    · obtain ⟨x11, h12, h⟩ := bind_out h
      rcases ite_out h with ⟨h13, h⟩ | ⟨h13, h⟩
      · obtain ⟨x14, h15, h⟩ := bind_out h
        obtain ⟨r16, h17, h⟩ := bind_out h
        rcases ite_out h with ⟨h18, h⟩ | ⟨h18, h⟩
        · rcases ite_out h with ⟨h19, h⟩ | ⟨h19, h⟩
          · injection h with h; subst h; exact runLp_sound mixedOrders (live := [2, 4, 5, 6, 7]) (ids := [0, 1, 2, 3]) (π := [.dec true, .row (c60 x11), .dec true, .row (c60 x14), .callv (.v (.bool r16)), .dec true, .obj [] (.arr 3 [v9] (List.length [v9]) false), .obj [4] (.arr 3 (l8 ++ [v9]) (List.length (l8 ++ [v9])) false)]) (hx := by kernel_rfl) (hps := pc (h10) <| pc (ob60 h12) <| pc (h13) <| pc (ob60 h15) <| pc (k_palingref15_Member h17) <| pc (h18) <| pc (bs_ob 3 [v9]) <| pc (app_ob 3 (n := (List.length l8)) (l := l8) (xs := [v9]) h19) <| pc ((rfl : ((List.length [v9]) : Nat) = (List.length [v9]))) <| pn)
          · cases h
        · injection h with h; subst h; exact runLp_sound mixedOrders (live := [2, 4, 5, 6, 7]) (ids := [0, 1, 2, 3]) (π := [.dec true, .row (c60 x11), .dec true, .row (c60 x14), .callv (.v (.bool r16)), .dec false]) (hx := by kernel_rfl) (hps := pc (h10) <| pc (ob60 h12) <| pc (h13) <| pc (ob60 h15) <| pc (k_palingref15_Member h17) <| pc (h18) <| pn)
      · injection h with h; subst h; exact runLp_sound mixedOrders (live := [2, 4, 5, 6, 7]) (ids := [0, 1, 2, 3]) (π := [.dec true, .row (c60 x11), .dec false]) (hx := by kernel_rfl) (hps := pc (h10) <| pc (ob60 h12) <| pc (h13) <| pn)
    · injection h with h; subst h; exact runLp_sound mixedOrders (live := [4, 5]) (ids := [1, 2]) (π := [.dec false]) (hx := by kernel_rfl) (hps := pc (h10) <| pn)
  · exact Ex.noConfusion

theorem k_palingref15_Members {a1 : Api_Net} {a2 : Int} {r : ((List Int))} (h : palingref15_Members a1 a2 = some r) :
    CallsOK Try.prog UU 106 [.agg (c31 a1), .v (.int .i64 a2)] [] ((fun r => match r with | l25 => .os 0 (List.length l25)) r) ((fun r => match r with | l25 => [.arr 3 l25 (List.length l25) false]) r) := by
  unfold palingref15_Members at h
  obtain ⟨r3, h4, h⟩ := bind_out h
  rcases ite_out h with ⟨h5, h⟩ | ⟨h5, h⟩
  · injection h with h; subst h; exact runFn_sound mixedOrders Try.func106 rfl (keep := some [3]) (π := [.callv (.v (.bool r3)), .dec true]) (hrun := by kernel_rfl) (hps := pc (k_palingref15_Place h4) <| pc (h5) <| pn)
  · obtain ⟨x6, h7, h⟩ := bind_out h
    obtain ⟨l22, h23, h⟩ := bind_out h
    injection h with h; subst h; exact runFn_sound mixedOrders Try.func106 rfl (keep := some [1]) (π := [.callv (.v (.bool r3)), .dec false, .row (c40 x6), .sum [2, 4, 5, 6, 7] [0, 1, 2, 4] (.exit 0) [(4, .os 0 0), (5, .os 1 (List.length l22))] [.arr 3 [] 0 false, .arr 3 l22 (List.length l22) false]]) (hrun := by kernel_rfl) (hps := pc (k_palingref15_Place h4) <| pc (h5) <| pc (ob40 h7) <| pc (k_palingref15_Members_L1 _ _ h23) <| pn)

theorem k_palingref17_Other_L1 {a1 : Api_Net} {a2 : Int} : LoopOK Try.prog UU 0 41 (subC (codeOf Try.f164) [1, 0, 1, 0, 0]) (ρ := Int ⊕ Unit) (palingref17_Other_L1 a1 a2)
    (fun v3 : Int => ([(1, .v (.int .i64 a2)), (2, .op 0 1 0 0), (4, .v (.int .i64 0)), (5, .v (.int .i64 v3))] : Fr DD)) (fun v3 : Int => ([.box 31 (c31 a1) false] : Heap DD)) (fun r => match r with | Sum.inl v16 => .ret | Sum.inr _ => .exit 0) (fun r => match r with | Sum.inl v16 => [(4, .v (.int .i64 v16))] | Sum.inr _ => [(4, .v (.int .i64 0))]) (fun r => match r with | Sum.inl v16 => [] | Sum.inr _ => []) := by
  refine loop_sound3 (fun s q h => ?_) (fun r => ?_)
  · replace h : palingref17_Other_L1 a1 a2 s = some q := h; revert h; revert s; intro v3 h
    unfold palingref17_Other_L1 at h
    rcases ite_out h with ⟨h4, h⟩ | ⟨h4, h⟩
    · obtain ⟨x5, h6, h⟩ := bind_out h
      rcases ite_out h with ⟨h7, h⟩ | ⟨h7, h⟩
      · obtain ⟨x8, h9, h⟩ := bind_out h
        injection h with h; subst h; exact runLp_sound mixedOrders (live := [4]) (ids := []) (π := [.dec true, .row (c98 x5), .dec true, .row (c98 x8)]) (hx := by kernel_rfl) (hps := pc (h4) <| pc (ob98 h6) <| pc (h7) <| pc (ob98 h9) <| pn)
      · obtain ⟨x10, h11, h⟩ := bind_out h
        rcases ite_out h with ⟨h12, h⟩ | ⟨h12, h⟩
        · obtain ⟨x13, h14, h⟩ := bind_out h
          injection h with h; subst h; exact runLp_sound mixedOrders (live := [4]) (ids := []) (π := [.dec true, .row (c98 x5), .dec false, .row (c98 x10), .dec true, .row (c98 x13)]) (hx := by kernel_rfl) (hps := pc (h4) <| pc (ob98 h6) <| pc (h7) <| pc (ob98 h11) <| pc (h12) <| pc (ob98 h14) <| pn)
        · injection h with h; subst h; exact runLp_sound mixedOrders (live := [1, 2, 4, 5]) (ids := [0]) (π := [.dec true, .row (c98 x5), .dec false, .row (c98 x10), .dec false]) (hx := by kernel_rfl) (hps := pc (h4) <| pc (ob98 h6) <| pc (h7) <| pc (ob98 h11) <| pc (h12) <| pn)
    · injection h with h; subst h; exact runLp_sound mixedOrders (live := [4]) (ids := []) (π := [.dec false]) (hx := by kernel_rfl) (hps := pc (h4) <| pn)
  · rcases r with _ | _ <;> exact Ex.noConfusion

theorem k_palingref17_Other {a1 : Api_Net} {a2 : Int} {r : Int} (h : palingref17_Other a1 a2 = some r) :
    CallsOK Try.prog UU 164 [.agg (c31 a1), .v (.int .i64 a2)] [] (.v (.int .i64 r)) [] := by
  unfold palingref17_Other at h
  obtain ⟨r18, h17, h⟩ := bind_out h
  rcases r18 with v16 | _
  · injection h with h; subst h; exact runFn_sound mixedOrders Try.func164 rfl (keep := none) (π := [.sum [1, 2, 4, 5] [0] .ret [(4, .v (.int .i64 v16))] []]) (hrun := by kernel_rfl) (hps := pc (k_palingref17_Other_L1 _ _ h17) <| pn)
  · injection h with h; subst h; exact runFn_sound mixedOrders Try.func164 rfl (keep := none) (π := [.sum [1, 2, 4, 5] [0] (.exit 0) [(4, .v (.int .i64 0))] []]) (hrun := by kernel_rfl) (hps := pc (k_palingref17_Other_L1 _ _ h17) <| pn)

theorem k_palingref17_Cross_J1 {a3 : Int} {r4 : Int} {x8 : Api_Port} {x10 : Api_Port} {r : Unit ⊕ Unit} (h : palingref17_Cross_J1 a3 r4 x8 x10 = some r) :
    ExecOK Try.prog UU 0 55 (subC (codeOf Try.f148) [1, 1, 1, 1, 0]) [(2, .v (.int .i64 a3)), (6, .v (.int .i64 0)), (7, .v (.int .i64 0)), (8, .v (.bool false)), (9, .v (.int .i64 r4)), (10, .op 0 1 0 0), (11, .op 1 1 0 0)] [.box 60 (c60 x8) false, .box 60 (c60 x10) false] ((fun r => match r with | Sum.inl _ => .ret | Sum.inr _ => .nor) r) ((fun r => match r with | Sum.inl _ => [(6, .v (.int .i64 r4)), (7, .v (.int .i64 x10.native)), (8, .v (.bool true))] | Sum.inr _ => [(2, .v (.int .i64 a3)), (6, .v (.int .i64 0)), (7, .v (.int .i64 0)), (8, .v (.bool false)), (9, .v (.int .i64 r4)), (10, .op 0 1 0 0), (11, .op 1 1 0 0)]) r) ((fun r => match r with | Sum.inl _ => [] | Sum.inr _ => [.box 60 (c60 x8) false, .box 60 (c60 x10) false]) r) := by
  unfold palingref17_Cross_J1 at h
  rcases ite_out h with ⟨h12, h⟩ | ⟨h12, h⟩
  · rcases ite_out h with ⟨h13, h⟩ | ⟨h13, h⟩
    · injection h with h; subst h; exact runLp_sound mixedOrders (live := [6, 7, 8]) (ids := []) (π := [.dec true, .dec true]) (hx := by kernel_rfl) (hps := pc (h12) <| pc (h13) <| pn)
    · injection h with h; subst h; exact runLp_sound mixedOrders (live := [2, 6, 7, 8, 9, 10, 11]) (ids := [0, 1]) (π := [.dec true, .dec false]) (hx := by kernel_rfl) (hps := pc (h12) <| pc (h13) <| pn)
  · injection h with h; subst h; exact runLp_sound mixedOrders (live := [2, 6, 7, 8, 9, 10, 11]) (ids := [0, 1]) (π := [.dec false]) (hx := by kernel_rfl) (hps := pc (h12) <| pn)

theorem k_palingref17_Cross {a1 : Api_Net} {a2 : Int} {a3 : Int} {r : Int × Int × Bool} (h : palingref17_Cross a1 a2 a3 = some r) :
    CallsOK Try.prog UU 148 [.agg (c31 a1), .v (.int .i64 a2), .v (.int .i64 a3)] [] (.tup [.v (.int .i64 r.1), .v (.int .i64 r.2.1), .v (.bool r.2.2)]) [] := by
  unfold palingref17_Cross at h
  obtain ⟨r4, h5, h⟩ := bind_out h
  rcases ite_out h with ⟨h6, h⟩ | ⟨h6, h⟩
  · injection h with h; subst h; exact runFn_sound mixedOrders Try.func148 rfl (keep := none) (π := [.callv (.v (.int .i64 r4)), .dec true]) (hrun := by kernel_rfl) (hps := pc (k_palingref17_Other h5) <| pc (h6) <| pn)
  · rcases ite_out h with ⟨h7, h⟩ | ⟨h7, h⟩
    · injection h with h; subst h; exact runFn_sound mixedOrders Try.func148 rfl (keep := none) (π := [.callv (.v (.int .i64 r4)), .dec false, .dec true]) (hrun := by kernel_rfl) (hps := pc (k_palingref17_Other h5) <| pc (h6) <| pc (h7) <| pn)
    · obtain ⟨x8, h9, h⟩ := bind_out h
      obtain ⟨x10, h11, h⟩ := bind_out h
      obtain ⟨r15, h14, h⟩ := bind_out h
      rcases r15 with _ | _
      · injection h with h; subst h; exact runFn_sound mixedOrders Try.func148 rfl (keep := none) (π := [.callv (.v (.int .i64 r4)), .dec false, .dec false, .row (c60 x8), .row (c60 x10), .cut [2, 6, 7, 8, 9, 10, 11] [1, 3] .ret [(6, .v (.int .i64 r4)), (7, .v (.int .i64 x10.native)), (8, .v (.bool true))] []]) (hrun := by kernel_rfl) (hps := pc (k_palingref17_Other h5) <| pc (h6) <| pc (h7) <| pc (ob60 h9) <| pc (ob60 h11) <| pc (k_palingref17_Cross_J1 h14) <| pn)
      · obtain ⟨r16, h17, h⟩ := bind_out h
        rcases ite_out h with ⟨h18, h⟩ | ⟨h18, h⟩
        · obtain ⟨r19, h20, h⟩ := bind_out h
          rcases ite_out h with ⟨h21, h⟩ | ⟨h21, h⟩
          · injection h with h; subst h; exact runFn_sound mixedOrders Try.func148 rfl (keep := none) (π := [.callv (.v (.int .i64 r4)), .dec false, .dec false, .row (c60 x8), .row (c60 x10), .cut [2, 6, 7, 8, 9, 10, 11] [1, 3] .nor [(2, .v (.int .i64 a3)), (6, .v (.int .i64 0)), (7, .v (.int .i64 0)), (8, .v (.bool false)), (9, .v (.int .i64 r4)), (10, .op 0 1 0 0), (11, .op 1 1 0 0)] [.box 60 (c60 x8) false, .box 60 (c60 x10) false], .callv (.v (.bool r16)), .dec true, .callv (.v (.bool r19)), .dec true]) (hrun := by kernel_rfl) (hps := pc (k_palingref17_Other h5) <| pc (h6) <| pc (h7) <| pc (ob60 h9) <| pc (ob60 h11) <| pc (k_palingref17_Cross_J1 h14) <| pc (k_palingref15_In h17) <| pc (h18) <| pc (k_palingref15_In h20) <| pc (h21) <| pn)
          · injection h with h; subst h; exact runFn_sound mixedOrders Try.func148 rfl (keep := none) (π := [.callv (.v (.int .i64 r4)), .dec false, .dec false, .row (c60 x8), .row (c60 x10), .cut [2, 6, 7, 8, 9, 10, 11] [1, 3] .nor [(2, .v (.int .i64 a3)), (6, .v (.int .i64 0)), (7, .v (.int .i64 0)), (8, .v (.bool false)), (9, .v (.int .i64 r4)), (10, .op 0 1 0 0), (11, .op 1 1 0 0)] [.box 60 (c60 x8) false, .box 60 (c60 x10) false], .callv (.v (.bool r16)), .dec true, .callv (.v (.bool r19)), .dec false]) (hrun := by kernel_rfl) (hps := pc (k_palingref17_Other h5) <| pc (h6) <| pc (h7) <| pc (ob60 h9) <| pc (ob60 h11) <| pc (k_palingref17_Cross_J1 h14) <| pc (k_palingref15_In h17) <| pc (h18) <| pc (k_palingref15_In h20) <| pc (h21) <| pn)
        · injection h with h; subst h; exact runFn_sound mixedOrders Try.func148 rfl (keep := none) (π := [.callv (.v (.int .i64 r4)), .dec false, .dec false, .row (c60 x8), .row (c60 x10), .cut [2, 6, 7, 8, 9, 10, 11] [1, 3] .nor [(2, .v (.int .i64 a3)), (6, .v (.int .i64 0)), (7, .v (.int .i64 0)), (8, .v (.bool false)), (9, .v (.int .i64 r4)), (10, .op 0 1 0 0), (11, .op 1 1 0 0)] [.box 60 (c60 x8) false, .box 60 (c60 x10) false], .callv (.v (.bool r16)), .dec false]) (hrun := by kernel_rfl) (hps := pc (k_palingref17_Other h5) <| pc (h6) <| pc (h7) <| pc (ob60 h9) <| pc (ob60 h11) <| pc (k_palingref17_Cross_J1 h14) <| pc (k_palingref15_In h17) <| pc (h18) <| pn)

theorem k_palingref17_Domain {a1 : Api_Net} {a2 : Int} {a3 : Int} {r : Int × Bool} (h : palingref17_Domain a1 a2 a3 = some r) :
    CallsOK Try.prog UU 107 [.agg (c31 a1), .v (.int .i64 a2), .v (.int .i64 a3)] [] (.tup [.v (.int .i64 r.1), .v (.bool r.2)]) [] := by
  unfold palingref17_Domain at h
  obtain ⟨r4, h5, h⟩ := bind_out h
  rcases ite_out h with ⟨h6, h⟩ | ⟨h6, h⟩
  · injection h with h; subst h; exact runFn_sound mixedOrders Try.func107 rfl (keep := none) (π := [.callv (.tup [.v (.int .i64 r4.1), .v (.int .i64 r4.2.1), .v (.bool r4.2.2)]), .dec true]) (hrun := by kernel_rfl) (hps := pc (k_palingref17_Cross h5) <| pc (h6) <| pn)
  · obtain ⟨x7, h8, h⟩ := bind_out h
    obtain ⟨r9, h10, h⟩ := bind_out h
    injection h with h; subst h; exact runFn_sound mixedOrders Try.func107 rfl (keep := none) (π := [.callv (.tup [.v (.int .i64 r4.1), .v (.int .i64 r4.2.1), .v (.bool r4.2.2)]), .dec false, .row (c60 x7), .callv (.v (.int .i64 r9))]) (hrun := by kernel_rfl) (hps := pc (k_palingref17_Cross h5) <| pc (h6) <| pc (ob60 h8) <| pc (k_palingref15_At h10) <| pn)

theorem k_palingref21_Crossed_L1 {a1 : Api_Net} {a2 : Int} {l5 : List Int} : LoopOK Try.prog UU 0 40 (subC (codeOf Try.f124) [1, 1, 1, 0, 1, 0, 0]) (fun s : (List Int) × Int => match s with | (l6, v7) => palingref21_Crossed_L1 a1 a2 l5 l6 v7)
    (fun s : (List Int) × Int => (match s with | (l6, v7) => [(1, .v (.int .i64 a2)), (2, .op 0 1 0 0), (4, .os 1 0), (5, .os 2 (List.length l6)), (6, .os 3 (List.length l5)), (7, .v (.int .i64 v7))] : Fr DD)) (fun s : (List Int) × Int => (match s with | (l6, v7) => [.box 31 (c31 a1) false, .arr 3 [] 0 false, .arr 3 l6 (List.length l6) false, .arr 3 l5 (List.length l5) false] : Heap DD)) (fun r => match r with | l20 => .exit 0) (fun r => match r with | l20 => [(4, .os 0 0), (5, .os 1 (List.length l20))]) (fun r => match r with | l20 => [.arr 3 [] 0 false, .arr 3 l20 (List.length l20) false]) := by
  refine loop_sound3 (fun s q h => ?_) (fun r => ?_)
  · obtain ⟨l6, v7⟩ := s; replace h : palingref21_Crossed_L1 a1 a2 l5 l6 v7 = some q := h
    unfold palingref21_Crossed_L1 at h
    rcases ite_out h with ⟨h8, h⟩ | ⟨h8, h⟩
    · rcases ite_out h with ⟨h9, h⟩ | ⟨h9, h⟩
      · obtain ⟨x10, h11, h⟩ := bind_out h
        obtain ⟨x12, h13, h⟩ := bind_out h
        obtain ⟨r14, h15, h⟩ := bind_out h
        rcases ite_out h with ⟨h16, h⟩ | ⟨h16, h⟩
        · rcases ite_out h with ⟨h17, h⟩ | ⟨h17, h⟩
          · injection h with h; subst h; exact runLp_sound mixedOrders (live := [1, 2, 4, 5, 6, 7]) (ids := [0, 1, 2, 3]) (π := [.dec true, .row (c3 x10), .row (c40 x12), .callv (.tup [.v (.int .i64 r14.1), .v (.bool r14.2)]), .dec true, .obj [] (.arr 3 [r14.1] (List.length [r14.1]) false), .obj [4] (.arr 3 (l6 ++ [r14.1]) (List.length (l6 ++ [r14.1])) false)]) (hx := by kernel_rfl) (hps := pc ((rfl : ((List.length l5) : Nat) = (List.length l5))) <| pc (h8) <| pc (And.intro (rfl : ((List.length l5) : Nat) = (List.length l5)) (lin_ob h9)) <| pc (And.intro (rfl : ((List.length l5) : Nat) = (List.length l5)) (obn3 h11)) <| pc (ob40 h13) <| pc (k_palingref17_Domain h15) <| pc (h16) <| pc (bs_ob 3 [r14.1]) <| pc (app_ob 3 (n := (List.length l6)) (l := l6) (xs := [r14.1]) h17) <| pc ((rfl : ((List.length [r14.1]) : Nat) = (List.length [r14.1]))) <| pn)
          · cases h
        · injection h with h; subst h; exact runLp_sound mixedOrders (live := [1, 2, 4, 5, 6, 7]) (ids := [0, 1, 2, 3]) (π := [.dec true, .row (c3 x10), .row (c40 x12), .callv (.tup [.v (.int .i64 r14.1), .v (.bool r14.2)]), .dec false]) (hx := by kernel_rfl) (hps := pc ((rfl : ((List.length l5) : Nat) = (List.length l5))) <| pc (h8) <| pc (And.intro (rfl : ((List.length l5) : Nat) = (List.length l5)) (lin_ob h9)) <| pc (And.intro (rfl : ((List.length l5) : Nat) = (List.length l5)) (obn3 h11)) <| pc (ob40 h13) <| pc (k_palingref17_Domain h15) <| pc (h16) <| pn)
      · cases h
    · injection h with h; subst h; exact runLp_sound mixedOrders (live := [4, 5]) (ids := [1, 2]) (π := [.dec false]) (hx := by kernel_rfl) (hps := pc ((rfl : ((List.length l5) : Nat) = (List.length l5))) <| pc (h8) <| pn)
  · exact Ex.noConfusion

theorem k_palingref21_Crossed {a1 : Api_Net} {a2 : Int} {r : ((List Int))} (h : palingref21_Crossed a1 a2 = some r) :
    CallsOK Try.prog UU 124 [.agg (c31 a1), .v (.int .i64 a2)] [] ((fun r => match r with | l23 => .os 0 (List.length l23)) r) ((fun r => match r with | l23 => [.arr 3 l23 (List.length l23) false]) r) := by
  unfold palingref21_Crossed at h
  obtain ⟨l5, h4, h⟩ := bind_out h
  obtain ⟨l20, h21, h⟩ := bind_out h
  injection h with h; subst h; exact runFn_sound mixedOrders Try.func124 rfl (keep := some [1]) (π := [.callo (.os 0 (List.length l5)) [.arr 3 l5 (List.length l5) false], .sum [1, 2, 4, 5, 6, 7] [0, 1, 2, 3] (.exit 0) [(4, .os 0 0), (5, .os 1 (List.length l20))] [.arr 3 [] 0 false, .arr 3 l20 (List.length l20) false]]) (hrun := by kernel_rfl) (hps := pc (k_palingref15_Members h4) <| pc (im3 l5) <| pc (k_palingref21_Crossed_L1 _ _ h21) <| pn)

theorem k_palingref21_least_L1 {a1 : Api_Net} {a2 : Bool} : LoopOK Try.prog UU 0 87 (subC (codeOf Try.f70) [1, 1, 0, 1, 0, 0]) (fun s : (List Int) × Int => match s with | (l3, v4) => palingref21_least_L1 a1 a2 l3 v4)
    (fun s : (List Int) × Int => (match s with | (l3, v4) => [(1, .v (.bool a2)), (2, .op 0 1 0 0), (4, .os 1 0), (5, .os 2 (List.length l3)), (6, .v (.int .i64 v4))] : Fr DD)) (fun s : (List Int) × Int => (match s with | (l3, v4) => [.box 31 (c31 a1) false, .arr 3 [] 0 false, .arr 3 l3 (List.length l3) false] : Heap DD)) (fun r => match r with | l11 => .exit 0) (fun r => match r with | l11 => [(1, .v (.bool a2)), (2, .op 0 1 0 0), (4, .os 1 0), (5, .os 2 (List.length l11))]) (fun r => match r with | l11 => [.box 31 (c31 a1) false, .arr 3 [] 0 false, .arr 3 l11 (List.length l11) false]) := by
  refine loop_sound3 (fun s q h => ?_) (fun r => ?_)
  · obtain ⟨l3, v4⟩ := s; replace h : palingref21_least_L1 a1 a2 l3 v4 = some q := h
    unfold palingref21_least_L1 at h
    rcases ite_out h with ⟨h5, h⟩ | ⟨h5, h⟩
    · rcases ite_out h with ⟨h6, h⟩ | ⟨h6, h⟩
      · injection h with h; subst h; exact runLp_sound mixedOrders (live := [1, 2, 4, 5, 6]) (ids := [0, 1, 2]) (π := [.dec true, .obj [] (.arr 3 [v4] (List.length [v4]) false), .obj [3] (.arr 3 (l3 ++ [v4]) (List.length (l3 ++ [v4])) false)]) (hx := by kernel_rfl) (hps := pc (h5) <| pc (bs_ob 3 [v4]) <| pc (app_ob 3 (n := (List.length l3)) (l := l3) (xs := [v4]) h6) <| pc ((rfl : ((List.length [v4]) : Nat) = (List.length [v4]))) <| pn)
      · cases h
    · injection h with h; subst h; exact runLp_sound mixedOrders (live := [1, 2, 4, 5]) (ids := [0, 1, 2]) (π := [.dec false]) (hx := by kernel_rfl) (hps := pc (h5) <| pn)
  · exact Ex.noConfusion

theorem k_palingref21_least_J4 {a1 : Api_Net} {a2 : Bool} {l11 : List Int} {v15 : Int} {l17 : List Int} {v18 : Int} {l22 : List Int} {r : (List Int)} (h : palingref21_least_J4 a1 a2 l11 v15 l17 v18 l22 = some r) :
    ExecOK Try.prog UU 0 87 (subC (codeOf Try.f70) [1, 1, 1, 0, 1, 0, 0, 1, 0, 0, 1, 0, 0, 1, 0, 0, 1, 0]) [(1, .v (.bool a2)), (2, .op 0 1 0 0), (4, .os 1 0), (5, .os 2 (List.length l11)), (7, .v (.int .i64 v15)), (8, .v (.int .i64 v18)), (9, .os 3 (List.length l22))] [.box 31 (c31 a1) false, .arr 3 [] 0 false, .arr 3 l17 (List.length l11) false, .arr 3 l22 (List.length l22) false] ((fun r => match r with | l34 => .nor) r) ((fun r => match r with | l34 => [(1, .v (.bool a2)), (2, .op 0 1 0 0), (4, .os 1 0), (5, .os 2 (List.length l11)), (7, .v (.int .i64 v15)), (8, .v (.int .i64 v18)), (9, .os 3 (List.length l34))]) r) ((fun r => match r with | l34 => [.box 31 (c31 a1) false, .arr 3 [] 0 false, .arr 3 l17 (List.length l11) false, .arr 3 l34 (List.length l34) false]) r) := by
  unfold palingref21_least_J4 at h
  rcases ite_out h with ⟨h23, h⟩ | ⟨h23, h⟩
  · obtain ⟨x24, h25, h⟩ := bind_out h
    rcases ite_out h with ⟨h26, h⟩ | ⟨h26, h⟩
    · injection h with h; subst h; exact runLp_sound mixedOrders (live := [1, 2, 4, 5, 7, 8, 9]) (ids := [0, 1, 2, 3]) (π := [.dec true, .row (c40 x24), .obj [] (.arr 3 (l22 ++ x24.peers) (List.length (l22 ++ x24.peers)) false)]) (hx := by kernel_rfl) (hps := pc (h23) <| pc (ob40 h25) <| pc (app_ob 3 (n := (List.length l22)) (l := l22) (xs := x24.peers) h26) <| pn)
    · cases h
  · injection h with h; subst h; exact runLp_sound mixedOrders (live := [1, 2, 4, 5, 7, 8, 9]) (ids := [0, 1, 2, 3]) (π := [.dec false]) (hx := by kernel_rfl) (hps := pc (h23) <| pn)

theorem k_palingref21_least_J6 {a1 : Api_Net} {a2 : Bool} {l11 : List Int} {v15 : Int} {v18 : Int} {l34 : List Int} {l37 : List Int} {v38 : Int} {x41 : Int} {r : Int} (h : palingref21_least_J6 a1 a2 l11 v15 v18 l34 l37 v38 x41 = some r) :
    ExecOK Try.prog UU 0 87 (subC (codeOf Try.f70) [1, 1, 1, 0, 1, 0, 0, 1, 0, 0, 1, 0, 0, 1, 0, 0, 1, 1, 1, 0, 0, 1, 0, 0, 1, 0]) [(1, .v (.bool a2)), (2, .op 0 1 0 0), (4, .os 1 0), (5, .os 2 (List.length l11)), (7, .v (.int .i64 v15)), (8, .v (.int .i64 v18)), (9, .os 3 (List.length l34)), (10, .v (.int .i64 v38)), (11, .v (.int .i64 x41))] [.box 31 (c31 a1) false, .arr 3 [] 0 false, .arr 3 l37 (List.length l11) false, .arr 3 l34 (List.length l34) false] ((fun r => match r with | v56 => .nor) r) ((fun r => match r with | v56 => [(1, .v (.bool a2)), (2, .op 0 1 0 0), (4, .os 1 0), (5, .os 2 (List.length l11)), (7, .v (.int .i64 v15)), (8, .v (.int .i64 v18)), (9, .os 3 (List.length l34)), (10, .v (.int .i64 v38)), (11, .v (.int .i64 v56))]) r) ((fun r => match r with | v56 => [.box 31 (c31 a1) false, .arr 3 [] 0 false, .arr 3 l37 (List.length l11) false, .arr 3 l34 (List.length l34) false]) r) := by
  unfold palingref21_least_J6 at h
  rcases ite_out h with ⟨h43, h⟩ | ⟨h43, h⟩
  · obtain ⟨x44, h45, h⟩ := bind_out h
    rcases ite_out h with ⟨h46, h⟩ | ⟨h46, h⟩
    · obtain ⟨x47, h48, h⟩ := bind_out h
      rcases ite_out h with ⟨h49, h⟩ | ⟨h49, h⟩
      · obtain ⟨x50, h51, h⟩ := bind_out h
        rcases ite_out h with ⟨h52, h⟩ | ⟨h52, h⟩
        · obtain ⟨x53, h54, h⟩ := bind_out h
          injection h with h; subst h; exact runLp_sound mixedOrders (live := [1, 2, 4, 5, 7, 8, 9, 10, 11]) (ids := [0, 1, 2, 3]) (π := [.row (c3 x44), .row (c3 x47), .dec true, .row (c3 x50), .row (c3 x53)]) (hx := by kernel_rfl) (hps := pc (And.intro (rfl : ((List.length l34) : Nat) = (List.length l34)) (lin_ob h43)) <| pc (And.intro (rfl : ((List.length l34) : Nat) = (List.length l34)) (obn3 h45)) <| pc (And.intro (rfl : ((List.length l11) : Nat) = (List.length l11)) (lin_ob h46)) <| pc (And.intro (rfl : ((List.length l11) : Nat) = (List.length l11)) (obn3 h48)) <| pc (h49) <| pc (And.intro (rfl : ((List.length l34) : Nat) = (List.length l34)) (lin_ob h43)) <| pc (And.intro (rfl : ((List.length l34) : Nat) = (List.length l34)) (obn3 h51)) <| pc (And.intro (rfl : ((List.length l11) : Nat) = (List.length l11)) (lin_ob h52)) <| pc (And.intro (rfl : ((List.length l11) : Nat) = (List.length l11)) (obn3 h54)) <| pn)
        · cases h
      · injection h with h; subst h; exact runLp_sound mixedOrders (live := [1, 2, 4, 5, 7, 8, 9, 10, 11]) (ids := [0, 1, 2, 3]) (π := [.row (c3 x44), .row (c3 x47), .dec false]) (hx := by kernel_rfl) (hps := pc (And.intro (rfl : ((List.length l34) : Nat) = (List.length l34)) (lin_ob h43)) <| pc (And.intro (rfl : ((List.length l34) : Nat) = (List.length l34)) (obn3 h45)) <| pc (And.intro (rfl : ((List.length l11) : Nat) = (List.length l11)) (lin_ob h46)) <| pc (And.intro (rfl : ((List.length l11) : Nat) = (List.length l11)) (obn3 h48)) <| pc (h49) <| pn)
    · cases h
  · cases h

theorem k_palingref21_least_L5 {a1 : Api_Net} {a2 : Bool} {l11 : List Int} {v15 : Int} {v18 : Int} {l34 : List Int} : LoopOK Try.prog UU 0 87 (subC (codeOf Try.f70) [1, 1, 1, 0, 1, 0, 0, 1, 0, 0, 1, 0, 0, 1, 0, 0, 1, 1, 1, 0, 0]) (fun s : (List Int) × Int => match s with | (l37, v38) => palingref21_least_L5 a1 a2 l11 v15 v18 l34 l37 v38)
    (fun s : (List Int) × Int => (match s with | (l37, v38) => [(1, .v (.bool a2)), (2, .op 0 1 0 0), (4, .os 1 0), (5, .os 2 (List.length l11)), (7, .v (.int .i64 v15)), (8, .v (.int .i64 v18)), (9, .os 3 (List.length l34)), (10, .v (.int .i64 v38))] : Fr DD)) (fun s : (List Int) × Int => (match s with | (l37, v38) => [.box 31 (c31 a1) false, .arr 3 [] 0 false, .arr 3 l37 (List.length l11) false, .arr 3 l34 (List.length l34) false] : Heap DD)) (fun r => match r with | l73 => .exit 6) (fun r => match r with | l73 => [(1, .v (.bool a2)), (2, .op 0 1 0 0), (4, .os 1 0), (5, .os 2 (List.length l11)), (7, .v (.int .i64 v15)), (8, .v (.int .i64 v18))]) (fun r => match r with | l73 => [.box 31 (c31 a1) false, .arr 3 [] 0 false, .arr 3 l73 (List.length l11) false]) := by
  refine loop_sound3 (fun s q h => ?_) (fun r => ?_)
  · obtain ⟨l37, v38⟩ := s; replace h : palingref21_least_L5 a1 a2 l11 v15 v18 l34 l37 v38 = some q := h
    unfold palingref21_least_L5 at h
    rcases ite_out h with ⟨h39, h⟩ | ⟨h39, h⟩
    · rcases ite_out h with ⟨h40, h⟩ | ⟨h40, h⟩
      · obtain ⟨x41, h42, h⟩ := bind_out h
        obtain ⟨v56, h57, h⟩ := bind_out h
        obtain ⟨x59, h60, h⟩ := bind_out h
        rcases ite_out h with ⟨h61, h⟩ | ⟨h61, h⟩
        · obtain ⟨x62, h63, h⟩ := bind_out h
          rcases ite_out h with ⟨h64, h⟩ | ⟨h64, h⟩
          · obtain ⟨x65, h66, h⟩ := bind_out h
            injection h with h; subst h; exact runLp_sound mixedOrders (live := [1, 2, 4, 5, 7, 8, 9, 10]) (ids := [0, 1, 2, 3]) (π := [.dec true, .row (c3 x41), .cut [1, 2, 4, 5, 7, 8, 9, 10, 11] [0, 1, 2, 3] .nor [(1, .v (.bool a2)), (2, .op 0 1 0 0), (4, .os 1 0), (5, .os 2 (List.length l11)), (7, .v (.int .i64 v15)), (8, .v (.int .i64 v18)), (9, .os 3 (List.length l34)), (10, .v (.int .i64 v38)), (11, .v (.int .i64 v56))] [.box 31 (c31 a1) false, .arr 3 [] 0 false, .arr 3 l37 (List.length l11) false, .arr 3 l34 (List.length l34) false], .row (c3 x59), .obj [] (.arr 3 (List.set l37 (Int.toNat v18) v56) (List.length l11) false), .row (c3 x62), .row (c3 x65), .obj [] (.arr 3 (List.set (List.set l37 (Int.toNat v18) v56) (Int.toNat x62) v56) (List.length l11) false)]) (hx := by kernel_rfl) (hps := pc ((rfl : ((List.length l34) : Nat) = (List.length l34))) <| pc (h39) <| pc (And.intro (rfl : ((List.length l11) : Nat) = (List.length l11)) (lin_ob h40)) <| pc (And.intro (rfl : ((List.length l11) : Nat) = (List.length l11)) (obn3 h42)) <| pc (k_palingref21_least_J6 h57) <| pc (And.intro (rfl : ((List.length l11) : Nat) = (List.length l11)) (lin_ob h40)) <| pc (st_ob (e := 3) (n := (List.length l11)) (l := l37) (i := (Int.toNat v18)) v56 [.v (.int .i64 v56)] (obn3 h60) rfl) <| pc (And.intro (rfl : ((List.length l34) : Nat) = (List.length l34)) (lin_ob h61)) <| pc (And.intro (rfl : ((List.length l34) : Nat) = (List.length l34)) (obn3 h63)) <| pc (And.intro (rfl : ((List.length l11) : Nat) = (List.length l11)) (lin_ob h64)) <| pc (st_ob (e := 3) (n := (List.length l11)) (l := List.set l37 (Int.toNat v18) v56) (i := (Int.toNat x62)) v56 [.v (.int .i64 v56)] (obn3 h66) rfl) <| pn)
          · cases h
        · cases h
      · cases h
    · injection h with h; subst h; exact runLp_sound mixedOrders (live := [1, 2, 4, 5, 7, 8]) (ids := [0, 1, 2]) (π := [.dec false]) (hx := by kernel_rfl) (hps := pc ((rfl : ((List.length l34) : Nat) = (List.length l34))) <| pc (h39) <| pn)
  · exact Ex.noConfusion

theorem k_palingref21_least_L3 {a1 : Api_Net} {a2 : Bool} {l11 : List Int} {v15 : Int} : LoopOK Try.prog UU 0 87 (subC (codeOf Try.f70) [1, 1, 1, 0, 1, 0, 0, 1, 0, 0, 1, 0, 0]) (fun s : (List Int) × Int => match s with | (l17, v18) => palingref21_least_L3 a1 a2 l11 v15 l17 v18)
    (fun s : (List Int) × Int => (match s with | (l17, v18) => [(1, .v (.bool a2)), (2, .op 0 1 0 0), (4, .os 1 0), (5, .os 2 (List.length l11)), (7, .v (.int .i64 v15)), (8, .v (.int .i64 v18))] : Fr DD)) (fun s : (List Int) × Int => (match s with | (l17, v18) => [.box 31 (c31 a1) false, .arr 3 [] 0 false, .arr 3 l17 (List.length l11) false] : Heap DD)) (fun r => match r with | l81 => .exit 4) (fun r => match r with | l81 => [(1, .v (.bool a2)), (2, .op 0 1 0 0), (4, .os 1 0), (5, .os 2 (List.length l11)), (7, .v (.int .i64 v15))]) (fun r => match r with | l81 => [.box 31 (c31 a1) false, .arr 3 [] 0 false, .arr 3 l81 (List.length l11) false]) := by
  refine loop_sound3 (fun s q h => ?_) (fun r => ?_)
  · obtain ⟨l17, v18⟩ := s; replace h : palingref21_least_L3 a1 a2 l11 v15 l17 v18 = some q := h
    unfold palingref21_least_L3 at h
    rcases ite_out h with ⟨h19, h⟩ | ⟨h19, h⟩
    · obtain ⟨l22, h21, h⟩ := bind_out h
      obtain ⟨l34, h35, h⟩ := bind_out h
      obtain ⟨l73, h74, h⟩ := bind_out h
      injection h with h; subst h; exact runLp_sound mixedOrders (live := [1, 2, 4, 5, 7, 8]) (ids := [0, 1, 2]) (π := [.dec true, .callo (.os 0 (List.length l22)) [.arr 3 l22 (List.length l22) false], .cut [1, 2, 4, 5, 7, 8, 9] [0, 1, 2, 3] .nor [(1, .v (.bool a2)), (2, .op 0 1 0 0), (4, .os 1 0), (5, .os 2 (List.length l11)), (7, .v (.int .i64 v15)), (8, .v (.int .i64 v18)), (9, .os 3 (List.length l34))] [.box 31 (c31 a1) false, .arr 3 [] 0 false, .arr 3 l17 (List.length l11) false, .arr 3 l34 (List.length l34) false], .sum [1, 2, 4, 5, 7, 8, 9, 10] [0, 1, 2, 3] (.exit 6) [(1, .v (.bool a2)), (2, .op 0 1 0 0), (4, .os 1 0), (5, .os 2 (List.length l11)), (7, .v (.int .i64 v15)), (8, .v (.int .i64 v18))] [.box 31 (c31 a1) false, .arr 3 [] 0 false, .arr 3 l73 (List.length l11) false]]) (hx := by kernel_rfl) (hps := pc (h19) <| pc (k_palingref21_Crossed h21) <| pc (im3 l22) <| pc (k_palingref21_least_J4 h35) <| pc (k_palingref21_least_L5 _ _ h74) <| pn)
    · injection h with h; subst h; exact runLp_sound mixedOrders (live := [1, 2, 4, 5, 7]) (ids := [0, 1, 2]) (π := [.dec false]) (hx := by kernel_rfl) (hps := pc (h19) <| pn)
  · exact Ex.noConfusion

theorem k_palingref21_least_L2 {a1 : Api_Net} {a2 : Bool} {l11 : List Int} : LoopOK Try.prog UU 0 87 (subC (codeOf Try.f70) [1, 1, 1, 0, 1, 0, 0]) (fun s : (List Int) × Int => match s with | (l14, v15) => palingref21_least_L2 a1 a2 l11 l14 v15)
    (fun s : (List Int) × Int => (match s with | (l14, v15) => [(1, .v (.bool a2)), (2, .op 0 1 0 0), (4, .os 1 0), (5, .os 2 (List.length l11)), (7, .v (.int .i64 v15))] : Fr DD)) (fun s : (List Int) × Int => (match s with | (l14, v15) => [.box 31 (c31 a1) false, .arr 3 [] 0 false, .arr 3 l14 (List.length l11) false] : Heap DD)) (fun r => match r with | l86 => .exit 2) (fun r => match r with | l86 => [(4, .os 0 0), (5, .os 1 (List.length l11))]) (fun r => match r with | l86 => [.arr 3 [] 0 false, .arr 3 l86 (List.length l11) false]) := by
  refine loop_sound3 (fun s q h => ?_) (fun r => ?_)
  · obtain ⟨l14, v15⟩ := s; replace h : palingref21_least_L2 a1 a2 l11 l14 v15 = some q := h
    unfold palingref21_least_L2 at h
    rcases ite_out h with ⟨h16, h⟩ | ⟨h16, h⟩
    · obtain ⟨l81, h82, h⟩ := bind_out h
      injection h with h; subst h; exact runLp_sound mixedOrders (live := [1, 2, 4, 5, 7]) (ids := [0, 1, 2]) (π := [.dec true, .sum [1, 2, 4, 5, 7, 8] [0, 1, 2] (.exit 4) [(1, .v (.bool a2)), (2, .op 0 1 0 0), (4, .os 1 0), (5, .os 2 (List.length l11)), (7, .v (.int .i64 v15))] [.box 31 (c31 a1) false, .arr 3 [] 0 false, .arr 3 l81 (List.length l11) false]]) (hx := by kernel_rfl) (hps := pc (h16) <| pc (k_palingref21_least_L3 _ _ h82) <| pn)
    · injection h with h; subst h; exact runLp_sound mixedOrders (live := [4, 5]) (ids := [1, 2]) (π := [.dec false]) (hx := by kernel_rfl) (hps := pc (h16) <| pn)
  · exact Ex.noConfusion

theorem k_palingref21_least {a1 : Api_Net} {a2 : Bool} {r : ((List Int) × Nat)} (h : palingref21_least a1 a2 = some r) :
    CallsOK Try.prog UU 70 [.agg (c31 a1), .v (.bool a2)] [] ((fun r => match r with | (l89, n90) => .os 0 n90) r) ((fun r => match r with | (l89, n90) => [.arr 3 l89 n90 false]) r) := by
  unfold palingref21_least at h
  obtain ⟨l11, h12, h⟩ := bind_out h
  obtain ⟨l86, h87, h⟩ := bind_out h
  injection h with h; subst h; exact runFn_sound mixedOrders Try.func70 rfl (keep := some [1]) (π := [.sum [1, 2, 4, 5, 6] [0, 1, 2] (.exit 0) [(1, .v (.bool a2)), (2, .op 0 1 0 0), (4, .os 1 0), (5, .os 2 (List.length l11))] [.box 31 (c31 a1) false, .arr 3 [] 0 false, .arr 3 l11 (List.length l11) false], .sum [1, 2, 4, 5, 7] [0, 1, 2] (.exit 2) [(4, .os 0 0), (5, .os 1 (List.length l11))] [.arr 3 [] 0 false, .arr 3 l86 (List.length l11) false]]) (hrun := by kernel_rfl) (hps := pc (k_palingref21_least_L1 _ _ h12) <| pc (k_palingref21_least_L2 _ _ h87) <| pn)

theorem k_palingref21_Links {a1 : Api_Net} {r : ((List Int) × Nat)} (h : palingref21_Links a1 = some r) :
    CallsOK Try.prog UU 24 [.agg (c31 a1)] [] ((fun r => match r with | (l6, n7) => .os 0 n7) r) ((fun r => match r with | (l6, n7) => [.arr 3 l6 n7 false]) r) := by
  unfold palingref21_Links at h
  obtain ⟨r2, h3, h⟩ := bind_out h
  obtain ⟨l4, n5⟩ := r2
  injection h with h; subst h; exact runFn_sound mixedOrders Try.func24 rfl (keep := some [2]) (π := [.callo (.os 0 n5) [.arr 3 l4 n5 false]]) (hrun := by kernel_rfl) (hps := pc (k_palingref21_least h3) <| pc (im3 l4) <| pn)

theorem k_palingref03_Ints_L1 {a1 : List Int} {a2 : List Int} : LoopOK Try.prog UU 0 26 (subC (codeOf Try.f23) [1, 1, 0, 1, 0, 0]) (ρ := Unit ⊕ Unit) (palingref03_Ints_L1 a1 a2)
    (fun v4 : Int => ([(0, .sl 3 a1), (1, .sl 3 a2), (4, .v (.bool false)), (5, .v (.int .i64 v4))] : Fr DD)) (fun v4 : Int => ([] : Heap DD)) (fun r => match r with | Sum.inl _ => .ret | Sum.inr _ => .exit 0) (fun r => match r with | Sum.inl _ => [(4, .v (.bool false))] | Sum.inr _ => [(4, .v (.bool false))]) (fun r => match r with | Sum.inl _ => [] | Sum.inr _ => []) := by
  refine loop_sound3 (fun s q h => ?_) (fun r => ?_)
  · replace h : palingref03_Ints_L1 a1 a2 s = some q := h; revert h; revert s; intro v4 h
    unfold palingref03_Ints_L1 at h
    rcases ite_out h with ⟨h5, h⟩ | ⟨h5, h⟩
    · obtain ⟨x6, h7, h⟩ := bind_out h
      obtain ⟨x8, h9, h⟩ := bind_out h
      rcases ite_out h with ⟨h10, h⟩ | ⟨h10, h⟩
      · injection h with h; subst h; exact runLp_sound mixedOrders (live := [4]) (ids := []) (π := [.dec true, .row (c3 x6), .row (c3 x8), .dec true]) (hx := by kernel_rfl) (hps := pc (h5) <| pc (ob3 h7) <| pc (ob3 h9) <| pc (h10) <| pn)
      · injection h with h; subst h; exact runLp_sound mixedOrders (live := [0, 1, 4, 5]) (ids := []) (π := [.dec true, .row (c3 x6), .row (c3 x8), .dec false]) (hx := by kernel_rfl) (hps := pc (h5) <| pc (ob3 h7) <| pc (ob3 h9) <| pc (h10) <| pn)
    · injection h with h; subst h; exact runLp_sound mixedOrders (live := [4]) (ids := []) (π := [.dec false]) (hx := by kernel_rfl) (hps := pc (h5) <| pn)
  · rcases r with _ | _ <;> exact Ex.noConfusion

theorem k_palingref03_Ints {a1 : List Int} {a2 : List Int} {r : Bool} (h : palingref03_Ints a1 a2 = some r) :
    CallsOK Try.prog UU 23 [.sl 3 a1, .sl 3 a2] [] (.v (.bool r)) [] := by
  unfold palingref03_Ints at h
  rcases ite_out h with ⟨h3, h⟩ | ⟨h3, h⟩
  · injection h with h; subst h; exact runFn_sound mixedOrders Try.func23 rfl (keep := none) (π := [.dec true]) (hrun := by kernel_rfl) (hps := pc (h3) <| pn)
  · obtain ⟨r12, h11, h⟩ := bind_out h
    rcases r12 with _ | _
    · injection h with h; subst h; exact runFn_sound mixedOrders Try.func23 rfl (keep := none) (π := [.dec false, .sum [0, 1, 4, 5] [] .ret [(4, .v (.bool false))] []]) (hrun := by kernel_rfl) (hps := pc (h3) <| pc (k_palingref03_Ints_L1 _ _ h11) <| pn)
    · injection h with h; subst h; exact runFn_sound mixedOrders Try.func23 rfl (keep := none) (π := [.dec false, .sum [0, 1, 4, 5] [] (.exit 0) [(4, .v (.bool false))] []]) (hrun := by kernel_rfl) (hps := pc (h3) <| pc (k_palingref03_Ints_L1 _ _ h11) <| pn)

theorem k_palingref21_All {a1 : Api_Net} {r : ((List Int) × Nat)} (h : palingref21_All a1 = some r) :
    CallsOK Try.prog UU 25 [.agg (c31 a1)] [] ((fun r => match r with | (l6, n7) => .os 0 n7) r) ((fun r => match r with | (l6, n7) => [.arr 3 l6 n7 false]) r) := by
  unfold palingref21_All at h
  obtain ⟨r2, h3, h⟩ := bind_out h
  obtain ⟨l4, n5⟩ := r2
  injection h with h; subst h; exact runFn_sound mixedOrders Try.func25 rfl (keep := some [2]) (π := [.callo (.os 0 n5) [.arr 3 l4 n5 false]]) (hrun := by kernel_rfl) (hps := pc (k_palingref21_least h3) <| pc (im3 l4) <| pn)

theorem k_palinglaw21_CompsTells {a1 : Api_Net} {r : Bool} (h : palinglaw21_CompsTells a1 = some r) :
    CallsOK Try.prog UU 4 [.agg (c31 a1)] [] (.v (.bool r)) [] := by
  unfold palinglaw21_CompsTells at h
  obtain ⟨r2, h3, h⟩ := bind_out h
  rcases ite_out h with ⟨h4, h⟩ | ⟨h4, h⟩
  · obtain ⟨r5, h6, h⟩ := bind_out h
    injection h with h; subst h; exact runFn_sound mixedOrders Try.func4 rfl (keep := none) (π := [.callv (.v (.bool r2)), .dec true, .callv (.v (.bool r5))]) (hrun := by kernel_rfl) (hps := pc (k_palinglaw15_Great h3) <| pc (h4) <| pc (k_palinglaw21_works h6) <| pn)
  · obtain ⟨l9, h8, h⟩ := bind_out h
    obtain ⟨l12, h11, h⟩ := bind_out h
    obtain ⟨r13, h14, h⟩ := bind_out h
    rcases ite_out h with ⟨h15, h⟩ | ⟨h15, h⟩
    · rcases ite_out h with ⟨h16, h⟩ | ⟨h16, h⟩
      · rcases ite_out h with ⟨h17, h⟩ | ⟨h17, h⟩
        · obtain ⟨r18, h19, h⟩ := bind_out h
          injection h with h; subst h; exact runFn_sound mixedOrders Try.func4 rfl (keep := none) (π := [.callv (.v (.bool r2)), .dec false, .sum [1] [] .nor [] [.box 31 (c31 a1) false, .arr 3 l9 (List.length l9) false], .callo (.os 0 (List.length l9)) [.arr 3 l9 (List.length l9) false], .callo (.os 0 (List.length l12)) [.arr 3 l12 (List.length l12) false], .callv (.v (.bool r13)), .dec true, .dec true, .dec true, .callv (.v (.bool r18))]) (hrun := by kernel_rfl) (hps := pc (k_palinglaw15_Great h3) <| pc (h4) <| pc ((rfl : ([.box 31 (c31 a1) false, .arr 3 l9 (List.length l9) false] : Heap DD) = [.box 31 (c31 a1) false, .arr 3 l9 (List.length l9) false])) <| pc (k_comps_Links h8) <| pc (im3 l9) <| pc ((rfl : (.agg [.sl 96 a1.devices, .sl 60 a1.ports, .sl 98 a1.links, .sl 40 a1.domains, .sl 118 a1.statics, .sl 92 a1.floods, .sl 94 a1.vrfs, .sl 130 a1.irbs] : AV DD) = .agg [.sl 96 a1.devices, .sl 60 a1.ports, .sl 98 a1.links, .sl 40 a1.domains, .sl 118 a1.statics, .sl 92 a1.floods, .sl 94 a1.vrfs, .sl 130 a1.irbs])) <| pc (k_comps_All h11) <| pc (im3 l12) <| pc (k_palingref15_Right h14) <| pc (h15) <| pc ((rfl : ((List.length l9) : Nat) = (List.length l9))) <| pc (h16) <| pc ((rfl : ((List.length l12) : Nat) = (List.length l12))) <| pc (h17) <| pc (k_palinglaw21_works h19) <| pn)
        · injection h with h; subst h; exact runFn_sound mixedOrders Try.func4 rfl (keep := none) (π := [.callv (.v (.bool r2)), .dec false, .sum [1] [] .nor [] [.box 31 (c31 a1) false, .arr 3 l9 (List.length l9) false], .callo (.os 0 (List.length l9)) [.arr 3 l9 (List.length l9) false], .callo (.os 0 (List.length l12)) [.arr 3 l12 (List.length l12) false], .callv (.v (.bool r13)), .dec true, .dec true, .dec false]) (hrun := by kernel_rfl) (hps := pc (k_palinglaw15_Great h3) <| pc (h4) <| pc ((rfl : ([.box 31 (c31 a1) false, .arr 3 l9 (List.length l9) false] : Heap DD) = [.box 31 (c31 a1) false, .arr 3 l9 (List.length l9) false])) <| pc (k_comps_Links h8) <| pc (im3 l9) <| pc ((rfl : (.agg [.sl 96 a1.devices, .sl 60 a1.ports, .sl 98 a1.links, .sl 40 a1.domains, .sl 118 a1.statics, .sl 92 a1.floods, .sl 94 a1.vrfs, .sl 130 a1.irbs] : AV DD) = .agg [.sl 96 a1.devices, .sl 60 a1.ports, .sl 98 a1.links, .sl 40 a1.domains, .sl 118 a1.statics, .sl 92 a1.floods, .sl 94 a1.vrfs, .sl 130 a1.irbs])) <| pc (k_comps_All h11) <| pc (im3 l12) <| pc (k_palingref15_Right h14) <| pc (h15) <| pc ((rfl : ((List.length l9) : Nat) = (List.length l9))) <| pc (h16) <| pc ((rfl : ((List.length l12) : Nat) = (List.length l12))) <| pc (h17) <| pn)
      · injection h with h; subst h; exact runFn_sound mixedOrders Try.func4 rfl (keep := none) (π := [.callv (.v (.bool r2)), .dec false, .sum [1] [] .nor [] [.box 31 (c31 a1) false, .arr 3 l9 (List.length l9) false], .callo (.os 0 (List.length l9)) [.arr 3 l9 (List.length l9) false], .callo (.os 0 (List.length l12)) [.arr 3 l12 (List.length l12) false], .callv (.v (.bool r13)), .dec true, .dec false]) (hrun := by kernel_rfl) (hps := pc (k_palinglaw15_Great h3) <| pc (h4) <| pc ((rfl : ([.box 31 (c31 a1) false, .arr 3 l9 (List.length l9) false] : Heap DD) = [.box 31 (c31 a1) false, .arr 3 l9 (List.length l9) false])) <| pc (k_comps_Links h8) <| pc (im3 l9) <| pc ((rfl : (.agg [.sl 96 a1.devices, .sl 60 a1.ports, .sl 98 a1.links, .sl 40 a1.domains, .sl 118 a1.statics, .sl 92 a1.floods, .sl 94 a1.vrfs, .sl 130 a1.irbs] : AV DD) = .agg [.sl 96 a1.devices, .sl 60 a1.ports, .sl 98 a1.links, .sl 40 a1.domains, .sl 118 a1.statics, .sl 92 a1.floods, .sl 94 a1.vrfs, .sl 130 a1.irbs])) <| pc (k_comps_All h11) <| pc (im3 l12) <| pc (k_palingref15_Right h14) <| pc (h15) <| pc ((rfl : ((List.length l9) : Nat) = (List.length l9))) <| pc (h16) <| pn)
    · obtain ⟨r20, h21, h⟩ := bind_out h
      obtain ⟨l22, n23⟩ := r20
      obtain ⟨r24, h25, h⟩ := bind_out h
      rcases ite_out h with ⟨h26, h⟩ | ⟨h26, h⟩
      · obtain ⟨r27, h28, h⟩ := bind_out h
        obtain ⟨l29, n30⟩ := r27
        obtain ⟨r31, h32, h⟩ := bind_out h
        rcases ite_out h with ⟨h33, h⟩ | ⟨h33, h⟩
        · obtain ⟨r34, h35, h⟩ := bind_out h
          injection h with h; subst h; exact runFn_sound mixedOrders Try.func4 rfl (keep := none) (π := [.callv (.v (.bool r2)), .dec false, .sum [1] [] .nor [] [.box 31 (c31 a1) false, .arr 3 l9 (List.length l9) false], .callo (.os 0 (List.length l9)) [.arr 3 l9 (List.length l9) false], .callo (.os 0 (List.length l12)) [.arr 3 l12 (List.length l12) false], .callv (.v (.bool r13)), .dec false, .callo (.os 0 n23) [.arr 3 l22 n23 false], .callv (.v (.bool r24)), .dec true, .callo (.os 0 n30) [.arr 3 l29 n30 false], .callv (.v (.bool r31)), .dec true, .callv (.v (.bool r34))]) (hrun := by kernel_rfl) (hps := pc (k_palinglaw15_Great h3) <| pc (h4) <| pc ((rfl : ([.box 31 (c31 a1) false, .arr 3 l9 (List.length l9) false] : Heap DD) = [.box 31 (c31 a1) false, .arr 3 l9 (List.length l9) false])) <| pc (k_comps_Links h8) <| pc (im3 l9) <| pc ((rfl : (.agg [.sl 96 a1.devices, .sl 60 a1.ports, .sl 98 a1.links, .sl 40 a1.domains, .sl 118 a1.statics, .sl 92 a1.floods, .sl 94 a1.vrfs, .sl 130 a1.irbs] : AV DD) = .agg [.sl 96 a1.devices, .sl 60 a1.ports, .sl 98 a1.links, .sl 40 a1.domains, .sl 118 a1.statics, .sl 92 a1.floods, .sl 94 a1.vrfs, .sl 130 a1.irbs])) <| pc (k_comps_All h11) <| pc (im3 l12) <| pc (k_palingref15_Right h14) <| pc (h15) <| pc (k_palingref21_Links h21) <| pc (im3 l22) <| pc (k_palingref03_Ints h25) <| pc ((rfl : ((List.length l9) : Nat) = (List.length l9))) <| pc ((rfl : (n23 : Nat) = n23)) <| pc (h26) <| pc (k_palingref21_All h28) <| pc (im3 l29) <| pc (k_palingref03_Ints h32) <| pc ((rfl : ((List.length l12) : Nat) = (List.length l12))) <| pc ((rfl : (n30 : Nat) = n30)) <| pc (h33) <| pc (k_palinglaw21_works h35) <| pn)
        · injection h with h; subst h; exact runFn_sound mixedOrders Try.func4 rfl (keep := none) (π := [.callv (.v (.bool r2)), .dec false, .sum [1] [] .nor [] [.box 31 (c31 a1) false, .arr 3 l9 (List.length l9) false], .callo (.os 0 (List.length l9)) [.arr 3 l9 (List.length l9) false], .callo (.os 0 (List.length l12)) [.arr 3 l12 (List.length l12) false], .callv (.v (.bool r13)), .dec false, .callo (.os 0 n23) [.arr 3 l22 n23 false], .callv (.v (.bool r24)), .dec true, .callo (.os 0 n30) [.arr 3 l29 n30 false], .callv (.v (.bool r31)), .dec false]) (hrun := by kernel_rfl) (hps := pc (k_palinglaw15_Great h3) <| pc (h4) <| pc ((rfl : ([.box 31 (c31 a1) false, .arr 3 l9 (List.length l9) false] : Heap DD) = [.box 31 (c31 a1) false, .arr 3 l9 (List.length l9) false])) <| pc (k_comps_Links h8) <| pc (im3 l9) <| pc ((rfl : (.agg [.sl 96 a1.devices, .sl 60 a1.ports, .sl 98 a1.links, .sl 40 a1.domains, .sl 118 a1.statics, .sl 92 a1.floods, .sl 94 a1.vrfs, .sl 130 a1.irbs] : AV DD) = .agg [.sl 96 a1.devices, .sl 60 a1.ports, .sl 98 a1.links, .sl 40 a1.domains, .sl 118 a1.statics, .sl 92 a1.floods, .sl 94 a1.vrfs, .sl 130 a1.irbs])) <| pc (k_comps_All h11) <| pc (im3 l12) <| pc (k_palingref15_Right h14) <| pc (h15) <| pc (k_palingref21_Links h21) <| pc (im3 l22) <| pc (k_palingref03_Ints h25) <| pc ((rfl : ((List.length l9) : Nat) = (List.length l9))) <| pc ((rfl : (n23 : Nat) = n23)) <| pc (h26) <| pc (k_palingref21_All h28) <| pc (im3 l29) <| pc (k_palingref03_Ints h32) <| pc ((rfl : ((List.length l12) : Nat) = (List.length l12))) <| pc ((rfl : (n30 : Nat) = n30)) <| pc (h33) <| pn)
      · injection h with h; subst h; exact runFn_sound mixedOrders Try.func4 rfl (keep := none) (π := [.callv (.v (.bool r2)), .dec false, .sum [1] [] .nor [] [.box 31 (c31 a1) false, .arr 3 l9 (List.length l9) false], .callo (.os 0 (List.length l9)) [.arr 3 l9 (List.length l9) false], .callo (.os 0 (List.length l12)) [.arr 3 l12 (List.length l12) false], .callv (.v (.bool r13)), .dec false, .callo (.os 0 n23) [.arr 3 l22 n23 false], .callv (.v (.bool r24)), .dec false]) (hrun := by kernel_rfl) (hps := pc (k_palinglaw15_Great h3) <| pc (h4) <| pc ((rfl : ([.box 31 (c31 a1) false, .arr 3 l9 (List.length l9) false] : Heap DD) = [.box 31 (c31 a1) false, .arr 3 l9 (List.length l9) false])) <| pc (k_comps_Links h8) <| pc (im3 l9) <| pc ((rfl : (.agg [.sl 96 a1.devices, .sl 60 a1.ports, .sl 98 a1.links, .sl 40 a1.domains, .sl 118 a1.statics, .sl 92 a1.floods, .sl 94 a1.vrfs, .sl 130 a1.irbs] : AV DD) = .agg [.sl 96 a1.devices, .sl 60 a1.ports, .sl 98 a1.links, .sl 40 a1.domains, .sl 118 a1.statics, .sl 92 a1.floods, .sl 94 a1.vrfs, .sl 130 a1.irbs])) <| pc (k_comps_All h11) <| pc (im3 l12) <| pc (k_palingref15_Right h14) <| pc (h15) <| pc (k_palingref21_Links h21) <| pc (im3 l22) <| pc (k_palingref03_Ints h25) <| pc ((rfl : ((List.length l9) : Nat) = (List.length l9))) <| pc ((rfl : (n23 : Nat) = n23)) <| pc (h26) <| pn)

end Go.Eng
