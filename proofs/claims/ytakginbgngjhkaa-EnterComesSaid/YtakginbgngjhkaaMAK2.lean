/- Part of the proof of EnterComes: printed mirrors of the functions, or their contracts. No conditions. -/
import Derived.Test.YtakginbgngjhkaaMAK1
set_option linter.unusedVariables false
set_option maxRecDepth 100000
namespace Go.Eng
open Go Go.Proofs
theorem k_ether_Take {a1 : List Int} {r : ((List Int) × Nat × Int × Int × Int × Int)} (h : ether_Take a1 = some r) :
    CallsOK Try.prog UU 112 [.sl 5 a1] [] ((fun r => match r with | (l14, n15, v16, v17, v18, v19) => .tup [.agg [.v (.int .u64 v16), .v (.int .u64 v17), .v (.int .i64 v18), .os 0 n15], .v (.int .i64 v19)]) r) ((fun r => match r with | (l14, n15, v16, v17, v18, v19) => [.arr 5 l14 n15 false]) r) := by
  unfold ether_Take at h
  rcases ite_out h with ⟨h2, h⟩ | ⟨h2, h⟩
  · injection h with h; subst h; exact runFn_sound mixedOrders Try.func112 rfl (keep := some [2]) (π := [.dec true]) (hrun := by kernel_rfl) (hps := pc (h2) <| pn)
  · rcases ite_out h with ⟨h3, h⟩ | ⟨h3, h⟩
    · injection h with h; subst h; exact runFn_sound mixedOrders Try.func112 rfl (keep := some [2]) (π := [.dec false, .dec true]) (hrun := by kernel_rfl) (hps := pc (h2) <| pc (h3) <| pn)
    · obtain ⟨r4, h5, h⟩ := bind_out h
      obtain ⟨r6, h7, h⟩ := bind_out h
      rcases ite_out h with ⟨h8, h⟩ | ⟨h8, h⟩
      · rcases ite_out h with ⟨h9, h⟩ | ⟨h9, h⟩
        · obtain ⟨x10, h11, h⟩ := bind_out h
          obtain ⟨x12, h13, h⟩ := bind_out h
          injection h with h; subst h; exact runFn_sound mixedOrders Try.func112 rfl (keep := some [2]) (π := [.dec false, .dec false, .callv (.tup [.v (.int .u64 r4.1), .v (.bool r4.2)]), .callv (.tup [.v (.int .u64 r6.1), .v (.bool r6.2)]), .obj [] (.arr 5 (List.replicate (Int.toNat (wr_i64 ((a1.length : Int) - 14))) (0 : Int)) (Int.toNat (wr_i64 ((a1.length : Int) - 14))) false), .obj [] (.arr 5 (List.take 0 (List.replicate (Int.toNat (wr_i64 ((a1.length : Int) - 14))) (0 : Int)) ++ (List.take (min (List.length (List.drop (Int.toNat 14) (List.take (Int.toNat ((List.length a1) : Int)) a1))) ((List.length (List.replicate (Int.toNat (wr_i64 ((a1.length : Int) - 14))) (0 : Int))) - 0)) (List.drop (Int.toNat 14) (List.take (Int.toNat ((List.length a1) : Int)) a1)) ++ List.drop (0 + (min (List.length (List.drop (Int.toNat 14) (List.take (Int.toNat ((List.length a1) : Int)) a1))) ((List.length (List.replicate (Int.toNat (wr_i64 ((a1.length : Int) - 14))) (0 : Int))) - 0))) (List.replicate (Int.toNat (wr_i64 ((a1.length : Int) - 14))) (0 : Int)))) (Int.toNat (wr_i64 ((a1.length : Int) - 14))) false), .row (c5 x10), .row (c5 x12)]) (hrun := by kernel_rfl) (hps := pc (h2) <| pc (h3) <| pc (k_mac_Take h5) <| pc (k_mac_Take h7) <| pc (mk_ob 5 (0 : Int) h8) <| pc ((rfl : ((Int.toNat (wr_i64 ((a1.length : Int) - 14))) : Nat) = (Int.toNat (wr_i64 ((a1.length : Int) - 14))))) <| pc (sl_ob h9) <| pc (cp_ob (e := 5) (n := (Int.toNat (wr_i64 ((a1.length : Int) - 14)))) (l := List.replicate (Int.toNat (wr_i64 ((a1.length : Int) - 14))) (0 : Int)) (l2 := List.drop (Int.toNat 14) (List.take (Int.toNat ((List.length a1) : Int)) a1)) (a := 0) (b := (List.length (List.replicate (Int.toNat (wr_i64 ((a1.length : Int) - 14))) (0 : Int))))) <| pc (ob5 h11) <| pc ((show (0 : Int) ≤ 8 from by decide)) <| pc (ob5 h13) <| pn)
        · cases h
      · cases h

theorem k_slices_Clone_byte {a1 : List Int} {r : List Int} (h : slices_Clone_byte a1 = some r) :
    CallsOK Try.prog UU 151 [.sl 5 a1] [] (.os 0 (List.length r)) [.arr 5 r (List.length r) false] := by
  unfold slices_Clone_byte at h
  rcases ite_out h with ⟨h1, h⟩ | ⟨h1, h⟩
  · injection h with h; subst h
    refine sn_split ?_ (fun e => ?_)
    · exact runFn_sound mixedOrders Try.func151 rfl (keep := some [1]) (π := [.obj [] (.n 5), .obj [] (.arr 5 a1 (List.length a1) false)]) (hrun := by kernel_rfl) (hps := pc (bs_ob 5 []) <| pc (app_ob 5 (n := 0) (l := []) (xs := a1) h1) <| pn)
    · subst e; exact runFn_sound mixedOrders Try.func151 rfl (keep := some [1]) (π := []) (hrun := by kernel_rfl) (hps := pn)
  · cases h

theorem k_tag_Strip {a1 : Api_Frame} {r : ((List Int) × Int × Int × Int × Int × Int × Int)} (h : tag_Strip a1 = some r) :
    CallsOK Try.prog UU 113 [.agg (c79 a1)] [] ((fun r => match r with | (l20, v21, v22, v23, v24, v25, v26) => .tup [.agg [.v (.int .u64 v21), .v (.int .u64 v22), .v (.int .i64 v23), .os 0 (List.length l20)], .v (.int .i64 v24), .v (.int .i64 v25), .v (.int .i64 v26)]) r) ((fun r => match r with | (l20, v21, v22, v23, v24, v25, v26) => [.arr 5 l20 (List.length l20) false]) r) := by
  unfold tag_Strip at h
  obtain ⟨r2, h3, h⟩ := bind_out h
  rcases ite_out h with ⟨h4, h⟩ | ⟨h4, h⟩
  · injection h with h; subst h; exact runFn_sound mixedOrders Try.func113 rfl (keep := some [1]) (π := [.callv (.v (.bool r2)), .dec true]) (hrun := by kernel_rfl) (hps := pc (k_tag_Is h3) <| pc (h4) <| pn)
  · rcases ite_out h with ⟨h5, h⟩ | ⟨h5, h⟩
    · injection h with h; subst h; exact runFn_sound mixedOrders Try.func113 rfl (keep := some [1]) (π := [.callv (.v (.bool r2)), .dec false, .dec true]) (hrun := by kernel_rfl) (hps := pc (k_tag_Is h3) <| pc (h4) <| pc (h5) <| pn)
    · obtain ⟨x6, h7, h⟩ := bind_out h
      obtain ⟨x8, h9, h⟩ := bind_out h
      obtain ⟨x10, h11, h⟩ := bind_out h
      obtain ⟨x12, h13, h⟩ := bind_out h
      rcases ite_out h with ⟨h14, h⟩ | ⟨h14, h⟩
      · injection h with h; subst h; exact runFn_sound mixedOrders Try.func113 rfl (keep := some [1]) (π := [.callv (.v (.bool r2)), .dec false, .dec false, .row (c5 x6), .row (c5 x8), .row (c5 x10), .row (c5 x12), .dec true]) (hrun := by kernel_rfl) (hps := pc (k_tag_Is h3) <| pc (h4) <| pc (h5) <| pc (ob5 h7) <| pc ((show (0 : Int) ≤ 8 from by decide)) <| pc (ob5 h9) <| pc (ob5 h11) <| pc ((show (0 : Int) ≤ 8 from by decide)) <| pc (ob5 h13) <| pc ((show (0 : Int) ≤ 12 from by decide)) <| pc (h14) <| pn)
      · rcases ite_out h with ⟨h15, h⟩ | ⟨h15, h⟩
        · injection h with h; subst h; exact runFn_sound mixedOrders Try.func113 rfl (keep := some [1]) (π := [.callv (.v (.bool r2)), .dec false, .dec false, .row (c5 x6), .row (c5 x8), .row (c5 x10), .row (c5 x12), .dec false, .dec true]) (hrun := by kernel_rfl) (hps := pc (k_tag_Is h3) <| pc (h4) <| pc (h5) <| pc (ob5 h7) <| pc ((show (0 : Int) ≤ 8 from by decide)) <| pc (ob5 h9) <| pc (ob5 h11) <| pc ((show (0 : Int) ≤ 8 from by decide)) <| pc (ob5 h13) <| pc ((show (0 : Int) ≤ 12 from by decide)) <| pc (h14) <| pc (h15) <| pn)
        · rcases ite_out h with ⟨h16, h⟩ | ⟨h16, h⟩
          · obtain ⟨l19, h18, h⟩ := bind_out h
            injection h with h; subst h; exact runFn_sound mixedOrders Try.func113 rfl (keep := some [3]) (π := [.callv (.v (.bool r2)), .dec false, .dec false, .row (c5 x6), .row (c5 x8), .row (c5 x10), .row (c5 x12), .dec false, .dec false, .sum [8] [] .nor [] [.box 79 (c79 a1) false, .n 5, .box 79 [.v (.int .u64 0), .v (.int .u64 0), .z, .os 1 0] false, .arr 5 l19 (List.length l19) false], .sum [12] [] .nor [] [.box 79 (c79 a1) false, .n 5, .box 79 [.v (.int .u64 a1.dst), .v (.int .u64 a1.src), .v (.int .i64 (bits_or .i64 (wr_i64 ((wr_i64 x10) * 2 ^ 8)) (wr_i64 x12))), .os 3 (List.length l19)] false, .arr 5 l19 (List.length l19) false], .callo (.os 0 (List.length l19)) [.arr 5 l19 (List.length l19) false]]) (hrun := by kernel_rfl) (hps := pc (k_tag_Is h3) <| pc (h4) <| pc (h5) <| pc (ob5 h7) <| pc ((show (0 : Int) ≤ 8 from by decide)) <| pc (ob5 h9) <| pc (ob5 h11) <| pc ((show (0 : Int) ≤ 8 from by decide)) <| pc (ob5 h13) <| pc ((show (0 : Int) ≤ 12 from by decide)) <| pc (h14) <| pc (h15) <| pc ((rfl : (.op 0 1 0 0 : AV DD) = .op 0 1 0 0)) <| pc ((rfl : (.v (.int .u64 a1.dst) : AV DD) = .v (.int .u64 a1.dst))) <| pc ((rfl : (.op 0 1 0 1 : AV DD) = .op 0 1 0 1)) <| pc ((rfl : (.v (.int .u64 a1.src) : AV DD) = .v (.int .u64 a1.src))) <| pc ((rfl : (.v (.int .i64 (bits_or .i64 (wr_i64 ((wr_i64 x10) * 2 ^ 8)) (wr_i64 x12))) : AV DD) = .v (.int .i64 (bits_or .i64 (wr_i64 ((wr_i64 x10) * 2 ^ 8)) (wr_i64 x12))))) <| pc (sl_ob h16) <| pc ((rfl : ([.box 79 (c79 a1) false, .n 5, .box 79 [.v (.int .u64 0), .v (.int .u64 0), .z, .os 1 0] false, .arr 5 l19 (List.length l19) false] : Heap DD) = [.box 79 (c79 a1) false, .n 5, .box 79 [.v (.int .u64 0), .v (.int .u64 0), .z, .os 1 0] false, .arr 5 l19 (List.length l19) false])) <| pc (k_slices_Clone_byte h18) <| pc (im5 l19) <| pc ((rfl : (.v (.int .i64 (bits_and .i64 (bits_or .i64 (wr_i64 ((wr_i64 x6) * 2 ^ 8)) (wr_i64 x8)) 4095)) : AV DD) = .v (.int .i64 (bits_and .i64 (bits_or .i64 (wr_i64 ((wr_i64 x6) * 2 ^ 8)) (wr_i64 x8)) 4095)))) <| pc ((rfl : (.v (.int .i64 (bits_and .i64 (bits_or .i64 (wr_i64 ((wr_i64 x6) * 2 ^ 8)) (wr_i64 x8)) 4095)) : AV DD) = .v (.int .i64 (bits_and .i64 (bits_or .i64 (wr_i64 ((wr_i64 x6) * 2 ^ 8)) (wr_i64 x8)) 4095)))) <| pc ((rfl : (.v (.int .i64 (Int.fdiv (bits_or .i64 (wr_i64 ((wr_i64 x6) * 2 ^ 8)) (wr_i64 x8)) (2 ^ 12))) : AV DD) = .v (.int .i64 (Int.fdiv (bits_or .i64 (wr_i64 ((wr_i64 x6) * 2 ^ 8)) (wr_i64 x8)) (2 ^ 12))))) <| pc ((rfl : (.v (.int .i64 (Int.fdiv (bits_or .i64 (wr_i64 ((wr_i64 x6) * 2 ^ 8)) (wr_i64 x8)) (2 ^ 12))) : AV DD) = .v (.int .i64 (Int.fdiv (bits_or .i64 (wr_i64 ((wr_i64 x6) * 2 ^ 8)) (wr_i64 x8)) (2 ^ 12))))) <| pc ((rfl : ([.box 79 (c79 a1) false, .n 5, .box 79 [.v (.int .u64 a1.dst), .v (.int .u64 a1.src), .v (.int .i64 (bits_or .i64 (wr_i64 ((wr_i64 x10) * 2 ^ 8)) (wr_i64 x12))), .os 3 (List.length l19)] false, .arr 5 l19 (List.length l19) false] : Heap DD) = [.box 79 (c79 a1) false, .n 5, .box 79 [.v (.int .u64 a1.dst), .v (.int .u64 a1.src), .v (.int .i64 (bits_or .i64 (wr_i64 ((wr_i64 x10) * 2 ^ 8)) (wr_i64 x12))), .os 3 (List.length l19)] false, .arr 5 l19 (List.length l19) false])) <| pn)
          · cases h

theorem k_mac_Group {a1 : Int} {r : Bool} (h : mac_Group a1 = some r) :
    CallsOK Try.prog UU 58 [.v (.int .u64 a1)] [] (.v (.bool r)) [] := by
  unfold mac_Group at h
  injection h with h; subst h; exact runFn_sound mixedOrders Try.func58 rfl (keep := none) (π := []) (hrun := by kernel_rfl) (hps := pn)

theorem k_enter_Vlan {a1 : Api_Port} {a2 : Bool} {a3 : Int} {r : Int × Bool} (h : enter_Vlan a1 a2 a3 = some r) :
    CallsOK Try.prog UU 53 [.agg (c60 a1), .v (.bool a2), .v (.int .i64 a3)] [] (.tup [.v (.int .i64 r.1), .v (.bool r.2)]) [] := by
  unfold enter_Vlan at h
  rcases ite_out h with ⟨h4, h⟩ | ⟨h4, h⟩
  · injection h with h; subst h; exact runFn_sound mixedOrders Try.func53 rfl (keep := none) (π := [.dec true]) (hrun := by kernel_rfl) (hps := pc (h4) <| pn)
  · rcases ite_out h with ⟨h5, h⟩ | ⟨h5, h⟩
    · injection h with h; subst h; exact runFn_sound mixedOrders Try.func53 rfl (keep := none) (π := [.dec false, .dec true]) (hrun := by kernel_rfl) (hps := pc (h4) <| pc (h5) <| pn)
    · obtain ⟨r6, h7, h⟩ := bind_out h
      rcases ite_out h with ⟨h8, h⟩ | ⟨h8, h⟩
      · injection h with h; subst h; exact runFn_sound mixedOrders Try.func53 rfl (keep := none) (π := [.dec false, .dec false, .callv (.v (.bool r6)), .dec true]) (hrun := by kernel_rfl) (hps := pc (h4) <| pc (h5) <| pc (k_slices_Contains_int h7) <| pc (h8) <| pn)
      · injection h with h; subst h; exact runFn_sound mixedOrders Try.func53 rfl (keep := none) (π := [.dec false, .dec false, .callv (.v (.bool r6)), .dec false]) (hrun := by kernel_rfl) (hps := pc (h4) <| pc (h5) <| pc (k_slices_Contains_int h7) <| pc (h8) <| pn)

theorem k_names_Domain_1 {a1 : Api_Domain} {a2 : Int} {a3 : Int} {r : Bool} (h : names_Domain_1 a1 a2 a3 = some r) :
    CallsOK Try.prog UU 137 [.agg (c40 a1), .rp (c3 a2) 0, .rp (c3 a3) 0] [] (.v (.bool r)) [] := by
  unfold names_Domain_1 at h
  rcases ite_out h with ⟨h4, h⟩ | ⟨h4, h⟩
  · injection h with h; subst h; exact runFn_sound mixedOrders Try.func137 rfl (keep := none) (π := [.dec true]) (hrun := by kernel_rfl) (hps := pc (h4) <| pn)
  · injection h with h; subst h; exact runFn_sound mixedOrders Try.func137 rfl (keep := none) (π := [.dec false]) (hrun := by kernel_rfl) (hps := pc (h4) <| pn)

theorem k_slices_IndexFunc_Domain_Domain_1_L1 {a1 : List Api_Domain} {a2 : Int} {a3 : Int} : LoopOK Try.prog UU 0 19 (subC (codeOf Try.f155) [1, 0, 1, 0, 0]) (ρ := Int ⊕ Unit) (slices_IndexFunc_Domain_Domain_1_L1 a1 a2 a3)
    (fun v4 : Int => ([(0, .sl 40 a1), (1, .fn (.func 137) [] [.rp (c3 a2) 0, .rp (c3 a3) 0]), (4, .z), (7, .v (.int .i64 (a1.length : Int))), (8, .v (.int .i64 v4))] : Fr DD)) (fun v4 : Int => ([] : Heap DD)) (fun r => match r with | Sum.inl v12 => .ret | Sum.inr _ => .exit 0) (fun r => match r with | Sum.inl v12 => [(4, .v (.int .i64 v12))] | Sum.inr _ => [(4, .z)]) (fun r => match r with | Sum.inl v12 => [] | Sum.inr _ => []) := by
  refine loop_sound3 (fun s q h => ?_) (fun r => ?_)
  · replace h : slices_IndexFunc_Domain_Domain_1_L1 a1 a2 a3 s = some q := h; revert h; revert s; intro v4 h
    unfold slices_IndexFunc_Domain_Domain_1_L1 at h
    rcases ite_out h with ⟨h5, h⟩ | ⟨h5, h⟩
    · obtain ⟨x6, h7, h⟩ := bind_out h
      obtain ⟨r8, h9, h⟩ := bind_out h
      rcases ite_out h with ⟨h10, h⟩ | ⟨h10, h⟩
      · injection h with h; subst h; exact runLp_sound mixedOrders (live := [4]) (ids := []) (π := [.dec true, .row (c40 x6), .callv (.v (.bool r8)), .dec true]) (hx := by kernel_rfl) (hps := pc (h5) <| pc (ob40 h7) <| pc (k_names_Domain_1 h9) <| pc (h10) <| pn)
      · injection h with h; subst h; exact runLp_sound mixedOrders (live := [0, 1, 4, 7, 8]) (ids := []) (π := [.dec true, .row (c40 x6), .callv (.v (.bool r8)), .dec false]) (hx := by kernel_rfl) (hps := pc (h5) <| pc (ob40 h7) <| pc (k_names_Domain_1 h9) <| pc (h10) <| pn)
    · injection h with h; subst h; exact runLp_sound mixedOrders (live := [4]) (ids := []) (π := [.dec false]) (hx := by kernel_rfl) (hps := pc (h5) <| pn)
  · rcases r with _ | _ <;> exact Ex.noConfusion

theorem k_slices_IndexFunc_Domain_Domain_1 {a1 : List Api_Domain} {a2 : Int} {a3 : Int} {r : Int} (h : slices_IndexFunc_Domain_Domain_1 a1 a2 a3 = some r) :
    CallsOK Try.prog UU 155 [.sl 40 a1, .fn (.func 137) [] [.rp (c3 a2) 0, .rp (c3 a3) 0]] [] (.v (.int .i64 r)) [] := by
  unfold slices_IndexFunc_Domain_Domain_1 at h
  obtain ⟨r14, h13, h⟩ := bind_out h
  rcases r14 with v12 | _
  · injection h with h; subst h; exact runFn_sound mixedOrders Try.func155 rfl (keep := none) (π := [.sum [0, 1, 4, 7, 8] [] .ret [(4, .v (.int .i64 v12))] []]) (hrun := by kernel_rfl) (hps := pc (k_slices_IndexFunc_Domain_Domain_1_L1 _ _ h13) <| pn)
  · injection h with h; subst h; exact runFn_sound mixedOrders Try.func155 rfl (keep := none) (π := [.sum [0, 1, 4, 7, 8] [] (.exit 0) [(4, .z)] []]) (hrun := by kernel_rfl) (hps := pc (k_slices_IndexFunc_Domain_Domain_1_L1 _ _ h13) <| pn)

theorem k_names_find_Domain_Domain_1 {a1 : Api_Net} {a2 : List Api_Domain} {a3 : Int} {a4 : Int} {r : Int} (h : names_find_Domain_Domain_1 a1 a2 a3 a4 = some r) :
    CallsOK Try.prog UU 136 [.agg (c31 a1), .sl 40 a2, .fn (.func 137) [] [.rp (c3 a3) 0, .rp (c3 a4) 0]] [] (.v (.int .i64 r)) [] := by
  unfold names_find_Domain_Domain_1 at h
  obtain ⟨r5, h6, h⟩ := bind_out h
  rcases ite_out h with ⟨h7, h⟩ | ⟨h7, h⟩
  · injection h with h; subst h; exact runFn_sound mixedOrders Try.func136 rfl (keep := none) (π := [.callv (.v (.bool r5)), .dec true]) (hrun := by kernel_rfl) (hps := pc (k_names_Right h6) <| pc (h7) <| pn)
  · obtain ⟨r8, h9, h⟩ := bind_out h
    injection h with h; subst h; exact runFn_sound mixedOrders Try.func136 rfl (keep := none) (π := [.callv (.v (.bool r5)), .dec false, .callv (.v (.int .i64 r8))]) (hrun := by kernel_rfl) (hps := pc (k_names_Right h6) <| pc (h7) <| pc (k_slices_IndexFunc_Domain_Domain_1 h9) <| pn)

theorem k_names_Domain {a1 : Api_Net} {a2 : Int} {a3 : Int} {r : Int} (h : names_Domain a1 a2 a3 = some r) :
    CallsOK Try.prog UU 92 [.agg (c31 a1), .v (.int .i64 a2), .v (.int .i64 a3)] [] (.v (.int .i64 r)) [] := by
  unfold names_Domain at h
  obtain ⟨r4, h5, h⟩ := bind_out h
  injection h with h; subst h; exact runFn_sound mixedOrders Try.func92 rfl (keep := none) (π := [.callv (.v (.int .i64 r4))]) (hrun := by kernel_rfl) (hps := pc (k_names_find_Domain_Domain_1 h5) <| pn)

theorem k_enter_At_J1 {a1 : Api_Net} {a2 : Int} {l11 : List Int} {n12 : Nat} {v13 : Int} {v14 : Int} {v15 : Int} {v16 : Int} {r17 : Bool} {r : ((List Int) × Int × Int × Int × Nat × Int × Int)} (h : enter_At_J1 a1 a2 l11 n12 v13 v14 v15 v16 r17 = some r) :
    ExecOK Try.prog UU 0 83 (subC (codeOf Try.f51) [1, 1, 1, 1, 0]) [(1, .v (.int .i64 a2)), (3, .op 0 1 0 0), (6, .z), (7, .op 1 1 0 0), (8, .v (.int .i64 v16)), (9, .v (.bool r17)), (10, .z)] [.box 31 (c31 a1) false, .box 79 [.v (.int .u64 v13), .v (.int .u64 v14), .v (.int .i64 v15), .os 2 n12] false, .arr 5 l11 n12 false] ((fun r => match r with | (l67, v68, v69, v70, n71, v72, v73) => .nor) r) ((fun r => match r with | (l67, v68, v69, v70, n71, v72, v73) => [(1, .v (.int .i64 a2)), (3, .op 0 1 0 0), (6, .z), (7, .op 1 1 0 0), (8, .v (.int .i64 v72)), (9, .v (.bool r17)), (10, .v (.int .i64 v73))]) r) ((fun r => match r with | (l67, v68, v69, v70, n71, v72, v73) => [.box 31 (c31 a1) false, .box 79 [.v (.int .u64 v68), .v (.int .u64 v69), .v (.int .i64 v70), .os 2 n71] false, .arr 5 l67 n71 false]) r) := by
  unfold enter_At_J1 at h
  rcases ite_out h with ⟨h19, h⟩ | ⟨h19, h⟩
  · rcases ite_out h with ⟨h20, h⟩ | ⟨h20, h⟩
    · obtain ⟨r21, h22, h⟩ := bind_out h
      obtain ⟨l23, v24, v25, v26, v27, v28, v29⟩ := r21
      injection h with h; subst h; exact runLp_sound mixedOrders (live := [1, 3, 6, 7, 8, 9, 10]) (ids := [0, 1, 3]) (π := [.dec true, .dec true, .callo (.tup [.agg [.v (.int .u64 v24), .v (.int .u64 v25), .v (.int .i64 v26), .os 0 (List.length l23)], .v (.int .i64 v27), .v (.int .i64 v28), .v (.int .i64 v29)]) [.arr 5 l23 (List.length l23) false]]) (hx := by kernel_rfl) (hps := pc (h19) <| pc (h20) <| pc (k_tag_Strip h22) <| pc (im5 l23) <| pc ((rfl : (n12 : Nat) = n12)) <| pn)
    · injection h with h; subst h; exact runLp_sound mixedOrders (live := [1, 3, 6, 7, 8, 9, 10]) (ids := [0, 1, 2]) (π := [.dec true, .dec false]) (hx := by kernel_rfl) (hps := pc (h19) <| pc (h20) <| pn)
  · injection h with h; subst h; exact runLp_sound mixedOrders (live := [1, 3, 6, 7, 8, 9, 10]) (ids := [0, 1, 2]) (π := [.dec false]) (hx := by kernel_rfl) (hps := pc (h19) <| pn)

theorem k_enter_At_J2 {a1 : Api_Net} {a2 : Int} {r17 : Bool} {l67 : List Int} {v68 : Int} {v69 : Int} {v70 : Int} {n71 : Nat} {v72 : Int} {v73 : Int} {r : Int} (h : enter_At_J2 a1 a2 r17 l67 v68 v69 v70 n71 v72 v73 = some r) :
    ExecOK Try.prog UU 0 83 (subC (codeOf Try.f51) [1, 1, 1, 1, 1, 0]) [(1, .v (.int .i64 a2)), (3, .op 0 1 0 0), (6, .z), (7, .op 1 1 0 0), (8, .v (.int .i64 v72)), (9, .v (.bool r17)), (10, .v (.int .i64 v73))] [.box 31 (c31 a1) false, .box 79 [.v (.int .u64 v68), .v (.int .u64 v69), .v (.int .i64 v70), .os 2 n71] false, .arr 5 l67 n71 false] ((fun r => match r with | v81 => .nor) r) ((fun r => match r with | v81 => [(1, .v (.int .i64 a2)), (3, .op 0 1 0 0), (6, .z), (7, .op 1 1 0 0), (8, .v (.int .i64 v81)), (9, .v (.bool r17)), (10, .v (.int .i64 v73))]) r) ((fun r => match r with | v81 => [.box 31 (c31 a1) false, .box 79 [.v (.int .u64 v68), .v (.int .u64 v69), .v (.int .i64 v70), .os 2 n71] false, .arr 5 l67 n71 false]) r) := by
  unfold enter_At_J2 at h
  rcases ite_out h with ⟨h76, h⟩ | ⟨h76, h⟩
  · obtain ⟨r77, h78, h⟩ := bind_out h
    rcases ite_out h with ⟨h79, h⟩ | ⟨h79, h⟩
    · injection h with h; subst h; exact runLp_sound mixedOrders (live := [1, 3, 6, 7, 8, 9, 10]) (ids := [0, 1, 2]) (π := [.dec true, .callv (.v (.bool r77)), .dec true]) (hx := by kernel_rfl) (hps := pc (h76) <| pc (k_mac_Group h78) <| pc (h79) <| pn)
    · injection h with h; subst h; exact runLp_sound mixedOrders (live := [1, 3, 6, 7, 8, 9, 10]) (ids := [0, 1, 2]) (π := [.dec true, .callv (.v (.bool r77)), .dec false]) (hx := by kernel_rfl) (hps := pc (h76) <| pc (k_mac_Group h78) <| pc (h79) <| pn)
  · injection h with h; subst h; exact runLp_sound mixedOrders (live := [1, 3, 6, 7, 8, 9, 10]) (ids := [0, 1, 2]) (π := [.dec false]) (hx := by kernel_rfl) (hps := pc (h76) <| pn)

theorem k_enter_At_J3 {a1 : Api_Net} {l67 : List Int} {v68 : Int} {v69 : Int} {v70 : Int} {n71 : Nat} {v81 : Int} {x84 : Api_Port} {r86 : Int × Bool} {r : Int} (h : enter_At_J3 a1 l67 v68 v69 v70 n71 v81 x84 r86 = some r) :
    ExecOK Try.prog UU 0 83 (subC (codeOf Try.f51) [1, 1, 1, 1, 1, 1, 1, 1, 0]) [(3, .op 0 1 0 0), (6, .z), (7, .op 1 1 0 0), (8, .v (.int .i64 v81)), (11, .op 3 1 0 0), (12, .v (.int .i64 r86.1)), (13, .v (.bool r86.2))] [.box 31 (c31 a1) false, .box 79 [.v (.int .u64 v68), .v (.int .u64 v69), .v (.int .i64 v70), .os 2 n71] false, .arr 5 l67 n71 false, .box 60 (c60 x84) false] ((fun r => match r with | v91 => .nor) r) ((fun r => match r with | v91 => [(3, .op 0 1 0 0), (6, .z), (7, .op 1 1 0 0), (8, .v (.int .i64 v91)), (11, .op 3 1 0 0), (12, .v (.int .i64 r86.1))]) r) ((fun r => match r with | v91 => [.box 31 (c31 a1) false, .box 79 [.v (.int .u64 v68), .v (.int .u64 v69), .v (.int .i64 v70), .os 2 n71] false, .arr 5 l67 n71 false, .box 60 (c60 x84) false]) r) := by
  unfold enter_At_J3 at h
  rcases ite_out h with ⟨h88, h⟩ | ⟨h88, h⟩
  · rcases ite_out h with ⟨h89, h⟩ | ⟨h89, h⟩
    · injection h with h; subst h; exact runLp_sound mixedOrders (live := [3, 6, 7, 8, 11, 12]) (ids := [0, 1, 2, 3]) (π := [.dec true, .dec true]) (hx := by kernel_rfl) (hps := pc (h88) <| pc (h89) <| pn)
    · injection h with h; subst h; exact runLp_sound mixedOrders (live := [3, 6, 7, 8, 11, 12]) (ids := [0, 1, 2, 3]) (π := [.dec true, .dec false]) (hx := by kernel_rfl) (hps := pc (h88) <| pc (h89) <| pn)
  · injection h with h; subst h; exact runLp_sound mixedOrders (live := [3, 6, 7, 8, 11, 12]) (ids := [0, 1, 2, 3]) (π := [.dec false]) (hx := by kernel_rfl) (hps := pc (h88) <| pn)

theorem k_enter_At {a1 : Api_Net} {a2 : Int} {a3 : List Int} {r : ((List Int) × Nat × Int × Int × Int × Int × Int)} (h : enter_At a1 a2 a3 = some r) :
    CallsOK Try.prog UU 51 [.agg (c31 a1), .v (.int .i64 a2), .sl 5 a3] [] ((fun r => match r with | (l97, n98, v99, v100, v101, v102, v103) => .tup [.v (.int .i64 v99), .agg [.v (.int .u64 v100), .v (.int .u64 v101), .v (.int .i64 v102), .os 0 n98], .v (.int .i64 v103)]) r) ((fun r => match r with | (l97, n98, v99, v100, v101, v102, v103) => [.arr 5 l97 n98 false]) r) := by
  unfold enter_At at h
  rcases ite_out h with ⟨h4, h⟩ | ⟨h4, h⟩
  · injection h with h; subst h; exact runFn_sound mixedOrders Try.func51 rfl (keep := some [3]) (π := [.dec true]) (hrun := by kernel_rfl) (hps := pc (h4) <| pn)
  · rcases ite_out h with ⟨h5, h⟩ | ⟨h5, h⟩
    · injection h with h; subst h; exact runFn_sound mixedOrders Try.func51 rfl (keep := some [3]) (π := [.dec false, .dec true]) (hrun := by kernel_rfl) (hps := pc (h4) <| pc (h5) <| pn)
    · obtain ⟨r6, h7, h⟩ := bind_out h
      rcases ite_out h with ⟨h8, h⟩ | ⟨h8, h⟩
      · injection h with h; subst h; exact runFn_sound mixedOrders Try.func51 rfl (keep := some [3]) (π := [.dec false, .dec false, .callv (.v (.bool r6)), .dec true]) (hrun := by kernel_rfl) (hps := pc (h4) <| pc (h5) <| pc (k_names_Right h7) <| pc (h8) <| pn)
      · obtain ⟨r9, h10, h⟩ := bind_out h
        obtain ⟨l11, n12, v13, v14, v15, v16⟩ := r9
        obtain ⟨r17, h18, h⟩ := bind_out h
        obtain ⟨r75, h74, h⟩ := bind_out h
        obtain ⟨l67, v68, v69, v70, n71, v72, v73⟩ := r75
        obtain ⟨v81, h82, h⟩ := bind_out h
        obtain ⟨x84, h85, h⟩ := bind_out h
        obtain ⟨r86, h87, h⟩ := bind_out h
        obtain ⟨v91, h92, h⟩ := bind_out h
        rcases ite_out h with ⟨h94, h⟩ | ⟨h94, h⟩
        · injection h with h; subst h; exact runFn_sound mixedOrders Try.func51 rfl (keep := some [4]) (π := [.dec false, .dec false, .callv (.v (.bool r6)), .dec false, .callo (.tup [.agg [.v (.int .u64 v13), .v (.int .u64 v14), .v (.int .i64 v15), .os 0 n12], .v (.int .i64 v16)]) [.arr 5 l11 n12 false], .callv (.v (.bool r17)), .cut [1, 3, 6, 7, 8, 9, 10] [0, 2, 3] .nor [(1, .v (.int .i64 a2)), (3, .op 0 1 0 0), (6, .z), (7, .op 1 1 0 0), (8, .v (.int .i64 v72)), (9, .v (.bool r17)), (10, .v (.int .i64 v73))] [.box 31 (c31 a1) false, .box 79 [.v (.int .u64 v68), .v (.int .u64 v69), .v (.int .i64 v70), .os 2 n71] false, .arr 5 l67 n71 false], .cut [1, 3, 6, 7, 8, 9, 10] [0, 1, 2] .nor [(1, .v (.int .i64 a2)), (3, .op 0 1 0 0), (6, .z), (7, .op 1 1 0 0), (8, .v (.int .i64 v81)), (9, .v (.bool r17)), (10, .v (.int .i64 v73))] [.box 31 (c31 a1) false, .box 79 [.v (.int .u64 v68), .v (.int .u64 v69), .v (.int .i64 v70), .os 2 n71] false, .arr 5 l67 n71 false], .row (c60 x84), .callv (.tup [.v (.int .i64 r86.1), .v (.bool r86.2)]), .cut [3, 6, 7, 8, 11, 12, 13] [0, 1, 2, 4] .nor [(3, .op 0 1 0 0), (6, .z), (7, .op 1 1 0 0), (8, .v (.int .i64 v91)), (11, .op 3 1 0 0), (12, .v (.int .i64 r86.1))] [.box 31 (c31 a1) false, .box 79 [.v (.int .u64 v68), .v (.int .u64 v69), .v (.int .i64 v70), .os 2 n71] false, .arr 5 l67 n71 false, .box 60 (c60 x84) false], .dec true]) (hrun := by kernel_rfl) (hps := pc (h4) <| pc (h5) <| pc (k_names_Right h7) <| pc (h8) <| pc (k_ether_Take h10) <| pc (im5 l11) <| pc (k_tag_Is h18) <| pc ((rfl : (n12 : Nat) = n12)) <| pc (k_enter_At_J1 h74) <| pc (k_enter_At_J2 h82) <| pc (ob60 h85) <| pc (k_enter_Vlan h87) <| pc (k_enter_At_J3 h92) <| pc (h94) <| pn)
        · obtain ⟨r95, h96, h⟩ := bind_out h
          injection h with h; subst h; exact runFn_sound mixedOrders Try.func51 rfl (keep := some [2]) (π := [.dec false, .dec false, .callv (.v (.bool r6)), .dec false, .callo (.tup [.agg [.v (.int .u64 v13), .v (.int .u64 v14), .v (.int .i64 v15), .os 0 n12], .v (.int .i64 v16)]) [.arr 5 l11 n12 false], .callv (.v (.bool r17)), .cut [1, 3, 6, 7, 8, 9, 10] [0, 2, 3] .nor [(1, .v (.int .i64 a2)), (3, .op 0 1 0 0), (6, .z), (7, .op 1 1 0 0), (8, .v (.int .i64 v72)), (9, .v (.bool r17)), (10, .v (.int .i64 v73))] [.box 31 (c31 a1) false, .box 79 [.v (.int .u64 v68), .v (.int .u64 v69), .v (.int .i64 v70), .os 2 n71] false, .arr 5 l67 n71 false], .cut [1, 3, 6, 7, 8, 9, 10] [0, 1, 2] .nor [(1, .v (.int .i64 a2)), (3, .op 0 1 0 0), (6, .z), (7, .op 1 1 0 0), (8, .v (.int .i64 v81)), (9, .v (.bool r17)), (10, .v (.int .i64 v73))] [.box 31 (c31 a1) false, .box 79 [.v (.int .u64 v68), .v (.int .u64 v69), .v (.int .i64 v70), .os 2 n71] false, .arr 5 l67 n71 false], .row (c60 x84), .callv (.tup [.v (.int .i64 r86.1), .v (.bool r86.2)]), .cut [3, 6, 7, 8, 11, 12, 13] [0, 1, 2, 4] .nor [(3, .op 0 1 0 0), (6, .z), (7, .op 1 1 0 0), (8, .v (.int .i64 v91)), (11, .op 3 1 0 0), (12, .v (.int .i64 r86.1))] [.box 31 (c31 a1) false, .box 79 [.v (.int .u64 v68), .v (.int .u64 v69), .v (.int .i64 v70), .os 2 n71] false, .arr 5 l67 n71 false, .box 60 (c60 x84) false], .dec false, .callv (.v (.int .i64 r95))]) (hrun := by kernel_rfl) (hps := pc (h4) <| pc (h5) <| pc (k_names_Right h7) <| pc (h8) <| pc (k_ether_Take h10) <| pc (im5 l11) <| pc (k_tag_Is h18) <| pc ((rfl : (n12 : Nat) = n12)) <| pc (k_enter_At_J1 h74) <| pc (k_enter_At_J2 h82) <| pc (ob60 h85) <| pc (k_enter_Vlan h87) <| pc (k_enter_At_J3 h92) <| pc (h94) <| pc (k_names_Domain h96) <| pn)

theorem k_ether_Same {a1 : Api_Frame} {a2 : Api_Frame} {r : Bool} (h : ether_Same a1 a2 = some r) :
    CallsOK Try.prog UU 56 [.agg (c79 a1), .agg (c79 a2)] [] (.v (.bool r)) [] := by
  unfold ether_Same at h
  rcases ite_out h with ⟨h3, h⟩ | ⟨h3, h⟩
  · rcases ite_out h with ⟨h4, h⟩ | ⟨h4, h⟩
    · rcases ite_out h with ⟨h5, h⟩ | ⟨h5, h⟩
      · injection h with h; subst h; exact runFn_sound mixedOrders Try.func56 rfl (keep := none) (π := [.dec true, .dec true, .dec true, .callv (.v (.string (bstr a1.body))), .callv (.v (.string (bstr a2.body)))]) (hrun := by kernel_rfl) (hps := pc (h3) <| pc (h4) <| pc (h5) <| pc (cvb5 a1.body) <| pc (cvb5 a2.body) <| pn)
      · injection h with h; subst h; exact runFn_sound mixedOrders Try.func56 rfl (keep := none) (π := [.dec true, .dec true, .dec false]) (hrun := by kernel_rfl) (hps := pc (h3) <| pc (h4) <| pc (h5) <| pn)
    · injection h with h; subst h; exact runFn_sound mixedOrders Try.func56 rfl (keep := none) (π := [.dec true, .dec false]) (hrun := by kernel_rfl) (hps := pc (h3) <| pc (h4) <| pn)
  · injection h with h; subst h; exact runFn_sound mixedOrders Try.func56 rfl (keep := none) (π := [.dec false]) (hrun := by kernel_rfl) (hps := pc (h3) <| pn)

theorem k_palinglaw27_works {r : Bool} (h : palinglaw27_works = some r) :
    CallsOK Try.prog UU 50 [] [] (.v (.bool r)) [] := by
  unfold palinglaw27_works at h
  obtain ⟨r1, h2, h⟩ := bind_out h
  obtain ⟨l3, v4⟩ := r1
  obtain ⟨r5, h6, h⟩ := bind_out h
  obtain ⟨l7, v8, v9, v10, v11⟩ := r5
  obtain ⟨r12, h13, h⟩ := bind_out h
  obtain ⟨l14, v15, v16, v17, v18⟩ := r12
  obtain ⟨r19, h20, h⟩ := bind_out h
  obtain ⟨l21, v22⟩ := r19
  obtain ⟨r23, h24, h⟩ := bind_out h
  obtain ⟨l25, v26⟩ := r23
  obtain ⟨r27, h28, h⟩ := bind_out h
  obtain ⟨l29, n30, v31, v32, v33, v34, v35⟩ := r27
  obtain ⟨r36, h37, h⟩ := bind_out h
  obtain ⟨l38, n39, v40, v41, v42, v43, v44⟩ := r36
  obtain ⟨r45, h46, h⟩ := bind_out h
  obtain ⟨l47, n48, v49, v50, v51, v52, v53⟩ := r45
  rcases ite_out h with ⟨h54, h⟩ | ⟨h54, h⟩
  · rcases ite_out h with ⟨h55, h⟩ | ⟨h55, h⟩
    · rcases ite_out h with ⟨h56, h⟩ | ⟨h56, h⟩
      · rcases ite_out h with ⟨h57, h⟩ | ⟨h57, h⟩
        · obtain ⟨r58, h59, h⟩ := bind_out h
          rcases ite_out h with ⟨h60, h⟩ | ⟨h60, h⟩
          · injection h with h; subst h; exact runFn_sound mixedOrders Try.func50 rfl (keep := none) (π := [.obj [] (.arr 96 [(⟨0, 0, (⟨#[97]⟩ : ByteArray), 0, 0⟩ : Api_Device)] (List.length [(⟨0, 0, (⟨#[97]⟩ : ByteArray), 0, 0⟩ : Api_Device)]) false), .obj [] (.arr 60 [(⟨0, 0, 10, 0, (-1), (⟨#[112]⟩ : ByteArray), []⟩ : Api_Port)] (List.length [(⟨0, 0, 10, 0, (-1), (⟨#[112]⟩ : ByteArray), []⟩ : Api_Port)]) false), .obj [] (.arr 40 [(⟨0, 10, 0, (-1), 0, []⟩ : Api_Domain)] (List.length [(⟨0, 10, 0, (-1), 0, []⟩ : Api_Domain)]) false), .callo (.tup [.os 0 (List.length l3), .v (.int .i64 v4)]) [.arr 5 l3 (List.length l3) false], .callo (.tup [.agg [.v (.int .u64 v8), .v (.int .u64 v9), .v (.int .i64 v10), .os 0 (List.length l7)], .v (.int .i64 v11)]) [.arr 5 l7 (List.length l7) false], .callo (.tup [.agg [.v (.int .u64 v15), .v (.int .u64 v16), .v (.int .i64 v17), .os 0 (List.length l14)], .v (.int .i64 v18)]) [.arr 5 l14 (List.length l14) false], .callo (.tup [.os 0 (List.length l21), .v (.int .i64 v22)]) [.arr 5 l21 (List.length l21) false], .callo (.tup [.os 0 (List.length l25), .v (.int .i64 v26)]) [.arr 5 l25 (List.length l25) false], .callo (.tup [.v (.int .i64 v31), .agg [.v (.int .u64 v32), .v (.int .u64 v33), .v (.int .i64 v34), .os 0 n30], .v (.int .i64 v35)]) [.arr 5 l29 n30 false], .callo (.tup [.v (.int .i64 v40), .agg [.v (.int .u64 v41), .v (.int .u64 v42), .v (.int .i64 v43), .os 0 n39], .v (.int .i64 v44)]) [.arr 5 l38 n39 false], .callo (.tup [.v (.int .i64 v49), .agg [.v (.int .u64 v50), .v (.int .u64 v51), .v (.int .i64 v52), .os 0 n48], .v (.int .i64 v53)]) [.arr 5 l47 n48 false], .dec true, .dec true, .dec true, .dec true, .callv (.v (.bool r58)), .dec true]) (hrun := by kernel_rfl) (hps := pc (bs_ob 96 [(⟨0, 0, (⟨#[97]⟩ : ByteArray), 0, 0⟩ : Api_Device)]) <| pc (bs_ob 60 [(⟨0, 0, 10, 0, (-1), (⟨#[112]⟩ : ByteArray), []⟩ : Api_Port)]) <| pc (bs_ob 40 [(⟨0, 10, 0, (-1), 0, []⟩ : Api_Domain)]) <| pc (k_ether_Put h2) <| pc (im5 l3) <| pc (k_tag_Add h6) <| pc (im5 l7) <| pc (k_tag_Add h13) <| pc (im5 l14) <| pc (k_ether_Put h20) <| pc (im5 l21) <| pc ((rfl : ((List.length l7) : Nat) = (List.length l7))) <| pc (k_ether_Put h24) <| pc (im5 l25) <| pc ((rfl : ((List.length l14) : Nat) = (List.length l14))) <| pc (k_enter_At h28) <| pc (im5 l29) <| pc ((rfl : ((List.length [(⟨0, 0, (⟨#[97]⟩ : ByteArray), 0, 0⟩ : Api_Device)]) : Nat) = (List.length [(⟨0, 0, (⟨#[97]⟩ : ByteArray), 0, 0⟩ : Api_Device)]))) <| pc ((rfl : ((List.length [(⟨0, 0, 10, 0, (-1), (⟨#[112]⟩ : ByteArray), []⟩ : Api_Port)]) : Nat) = (List.length [(⟨0, 0, 10, 0, (-1), (⟨#[112]⟩ : ByteArray), []⟩ : Api_Port)]))) <| pc ((rfl : (0 : Nat) = 0)) <| pc ((rfl : ((List.length [(⟨0, 10, 0, (-1), 0, []⟩ : Api_Domain)]) : Nat) = (List.length [(⟨0, 10, 0, (-1), 0, []⟩ : Api_Domain)]))) <| pc ((rfl : (0 : Nat) = 0)) <| pc ((rfl : (0 : Nat) = 0)) <| pc ((rfl : (0 : Nat) = 0)) <| pc ((rfl : (0 : Nat) = 0)) <| pc ((rfl : ((List.length l3) : Nat) = (List.length l3))) <| pc (k_enter_At h37) <| pc (im5 l38) <| pc ((rfl : ((List.length [(⟨0, 0, (⟨#[97]⟩ : ByteArray), 0, 0⟩ : Api_Device)]) : Nat) = (List.length [(⟨0, 0, (⟨#[97]⟩ : ByteArray), 0, 0⟩ : Api_Device)]))) <| pc ((rfl : ((List.length [(⟨0, 0, 10, 0, (-1), (⟨#[112]⟩ : ByteArray), []⟩ : Api_Port)]) : Nat) = (List.length [(⟨0, 0, 10, 0, (-1), (⟨#[112]⟩ : ByteArray), []⟩ : Api_Port)]))) <| pc ((rfl : (0 : Nat) = 0)) <| pc ((rfl : ((List.length [(⟨0, 10, 0, (-1), 0, []⟩ : Api_Domain)]) : Nat) = (List.length [(⟨0, 10, 0, (-1), 0, []⟩ : Api_Domain)]))) <| pc ((rfl : (0 : Nat) = 0)) <| pc ((rfl : (0 : Nat) = 0)) <| pc ((rfl : (0 : Nat) = 0)) <| pc ((rfl : (0 : Nat) = 0)) <| pc ((rfl : ((List.length l21) : Nat) = (List.length l21))) <| pc (k_enter_At h46) <| pc (im5 l47) <| pc ((rfl : ((List.length [(⟨0, 0, (⟨#[97]⟩ : ByteArray), 0, 0⟩ : Api_Device)]) : Nat) = (List.length [(⟨0, 0, (⟨#[97]⟩ : ByteArray), 0, 0⟩ : Api_Device)]))) <| pc ((rfl : ((List.length [(⟨0, 0, 10, 0, (-1), (⟨#[112]⟩ : ByteArray), []⟩ : Api_Port)]) : Nat) = (List.length [(⟨0, 0, 10, 0, (-1), (⟨#[112]⟩ : ByteArray), []⟩ : Api_Port)]))) <| pc ((rfl : (0 : Nat) = 0)) <| pc ((rfl : ((List.length [(⟨0, 10, 0, (-1), 0, []⟩ : Api_Domain)]) : Nat) = (List.length [(⟨0, 10, 0, (-1), 0, []⟩ : Api_Domain)]))) <| pc ((rfl : (0 : Nat) = 0)) <| pc ((rfl : (0 : Nat) = 0)) <| pc ((rfl : (0 : Nat) = 0)) <| pc ((rfl : (0 : Nat) = 0)) <| pc ((rfl : ((List.length l25) : Nat) = (List.length l25))) <| pc (h54) <| pc (h55) <| pc (h56) <| pc (h57) <| pc (k_ether_Same h59) <| pc ((rfl : (n30 : Nat) = n30)) <| pc ((rfl : (n39 : Nat) = n39)) <| pc (h60) <| pn)
          · injection h with h; subst h; exact runFn_sound mixedOrders Try.func50 rfl (keep := none) (π := [.obj [] (.arr 96 [(⟨0, 0, (⟨#[97]⟩ : ByteArray), 0, 0⟩ : Api_Device)] (List.length [(⟨0, 0, (⟨#[97]⟩ : ByteArray), 0, 0⟩ : Api_Device)]) false), .obj [] (.arr 60 [(⟨0, 0, 10, 0, (-1), (⟨#[112]⟩ : ByteArray), []⟩ : Api_Port)] (List.length [(⟨0, 0, 10, 0, (-1), (⟨#[112]⟩ : ByteArray), []⟩ : Api_Port)]) false), .obj [] (.arr 40 [(⟨0, 10, 0, (-1), 0, []⟩ : Api_Domain)] (List.length [(⟨0, 10, 0, (-1), 0, []⟩ : Api_Domain)]) false), .callo (.tup [.os 0 (List.length l3), .v (.int .i64 v4)]) [.arr 5 l3 (List.length l3) false], .callo (.tup [.agg [.v (.int .u64 v8), .v (.int .u64 v9), .v (.int .i64 v10), .os 0 (List.length l7)], .v (.int .i64 v11)]) [.arr 5 l7 (List.length l7) false], .callo (.tup [.agg [.v (.int .u64 v15), .v (.int .u64 v16), .v (.int .i64 v17), .os 0 (List.length l14)], .v (.int .i64 v18)]) [.arr 5 l14 (List.length l14) false], .callo (.tup [.os 0 (List.length l21), .v (.int .i64 v22)]) [.arr 5 l21 (List.length l21) false], .callo (.tup [.os 0 (List.length l25), .v (.int .i64 v26)]) [.arr 5 l25 (List.length l25) false], .callo (.tup [.v (.int .i64 v31), .agg [.v (.int .u64 v32), .v (.int .u64 v33), .v (.int .i64 v34), .os 0 n30], .v (.int .i64 v35)]) [.arr 5 l29 n30 false], .callo (.tup [.v (.int .i64 v40), .agg [.v (.int .u64 v41), .v (.int .u64 v42), .v (.int .i64 v43), .os 0 n39], .v (.int .i64 v44)]) [.arr 5 l38 n39 false], .callo (.tup [.v (.int .i64 v49), .agg [.v (.int .u64 v50), .v (.int .u64 v51), .v (.int .i64 v52), .os 0 n48], .v (.int .i64 v53)]) [.arr 5 l47 n48 false], .dec true, .dec true, .dec true, .dec true, .callv (.v (.bool r58)), .dec false]) (hrun := by kernel_rfl) (hps := pc (bs_ob 96 [(⟨0, 0, (⟨#[97]⟩ : ByteArray), 0, 0⟩ : Api_Device)]) <| pc (bs_ob 60 [(⟨0, 0, 10, 0, (-1), (⟨#[112]⟩ : ByteArray), []⟩ : Api_Port)]) <| pc (bs_ob 40 [(⟨0, 10, 0, (-1), 0, []⟩ : Api_Domain)]) <| pc (k_ether_Put h2) <| pc (im5 l3) <| pc (k_tag_Add h6) <| pc (im5 l7) <| pc (k_tag_Add h13) <| pc (im5 l14) <| pc (k_ether_Put h20) <| pc (im5 l21) <| pc ((rfl : ((List.length l7) : Nat) = (List.length l7))) <| pc (k_ether_Put h24) <| pc (im5 l25) <| pc ((rfl : ((List.length l14) : Nat) = (List.length l14))) <| pc (k_enter_At h28) <| pc (im5 l29) <| pc ((rfl : ((List.length [(⟨0, 0, (⟨#[97]⟩ : ByteArray), 0, 0⟩ : Api_Device)]) : Nat) = (List.length [(⟨0, 0, (⟨#[97]⟩ : ByteArray), 0, 0⟩ : Api_Device)]))) <| pc ((rfl : ((List.length [(⟨0, 0, 10, 0, (-1), (⟨#[112]⟩ : ByteArray), []⟩ : Api_Port)]) : Nat) = (List.length [(⟨0, 0, 10, 0, (-1), (⟨#[112]⟩ : ByteArray), []⟩ : Api_Port)]))) <| pc ((rfl : (0 : Nat) = 0)) <| pc ((rfl : ((List.length [(⟨0, 10, 0, (-1), 0, []⟩ : Api_Domain)]) : Nat) = (List.length [(⟨0, 10, 0, (-1), 0, []⟩ : Api_Domain)]))) <| pc ((rfl : (0 : Nat) = 0)) <| pc ((rfl : (0 : Nat) = 0)) <| pc ((rfl : (0 : Nat) = 0)) <| pc ((rfl : (0 : Nat) = 0)) <| pc ((rfl : ((List.length l3) : Nat) = (List.length l3))) <| pc (k_enter_At h37) <| pc (im5 l38) <| pc ((rfl : ((List.length [(⟨0, 0, (⟨#[97]⟩ : ByteArray), 0, 0⟩ : Api_Device)]) : Nat) = (List.length [(⟨0, 0, (⟨#[97]⟩ : ByteArray), 0, 0⟩ : Api_Device)]))) <| pc ((rfl : ((List.length [(⟨0, 0, 10, 0, (-1), (⟨#[112]⟩ : ByteArray), []⟩ : Api_Port)]) : Nat) = (List.length [(⟨0, 0, 10, 0, (-1), (⟨#[112]⟩ : ByteArray), []⟩ : Api_Port)]))) <| pc ((rfl : (0 : Nat) = 0)) <| pc ((rfl : ((List.length [(⟨0, 10, 0, (-1), 0, []⟩ : Api_Domain)]) : Nat) = (List.length [(⟨0, 10, 0, (-1), 0, []⟩ : Api_Domain)]))) <| pc ((rfl : (0 : Nat) = 0)) <| pc ((rfl : (0 : Nat) = 0)) <| pc ((rfl : (0 : Nat) = 0)) <| pc ((rfl : (0 : Nat) = 0)) <| pc ((rfl : ((List.length l21) : Nat) = (List.length l21))) <| pc (k_enter_At h46) <| pc (im5 l47) <| pc ((rfl : ((List.length [(⟨0, 0, (⟨#[97]⟩ : ByteArray), 0, 0⟩ : Api_Device)]) : Nat) = (List.length [(⟨0, 0, (⟨#[97]⟩ : ByteArray), 0, 0⟩ : Api_Device)]))) <| pc ((rfl : ((List.length [(⟨0, 0, 10, 0, (-1), (⟨#[112]⟩ : ByteArray), []⟩ : Api_Port)]) : Nat) = (List.length [(⟨0, 0, 10, 0, (-1), (⟨#[112]⟩ : ByteArray), []⟩ : Api_Port)]))) <| pc ((rfl : (0 : Nat) = 0)) <| pc ((rfl : ((List.length [(⟨0, 10, 0, (-1), 0, []⟩ : Api_Domain)]) : Nat) = (List.length [(⟨0, 10, 0, (-1), 0, []⟩ : Api_Domain)]))) <| pc ((rfl : (0 : Nat) = 0)) <| pc ((rfl : (0 : Nat) = 0)) <| pc ((rfl : (0 : Nat) = 0)) <| pc ((rfl : (0 : Nat) = 0)) <| pc ((rfl : ((List.length l25) : Nat) = (List.length l25))) <| pc (h54) <| pc (h55) <| pc (h56) <| pc (h57) <| pc (k_ether_Same h59) <| pc ((rfl : (n30 : Nat) = n30)) <| pc ((rfl : (n39 : Nat) = n39)) <| pc (h60) <| pn)
        · injection h with h; subst h; exact runFn_sound mixedOrders Try.func50 rfl (keep := none) (π := [.obj [] (.arr 96 [(⟨0, 0, (⟨#[97]⟩ : ByteArray), 0, 0⟩ : Api_Device)] (List.length [(⟨0, 0, (⟨#[97]⟩ : ByteArray), 0, 0⟩ : Api_Device)]) false), .obj [] (.arr 60 [(⟨0, 0, 10, 0, (-1), (⟨#[112]⟩ : ByteArray), []⟩ : Api_Port)] (List.length [(⟨0, 0, 10, 0, (-1), (⟨#[112]⟩ : ByteArray), []⟩ : Api_Port)]) false), .obj [] (.arr 40 [(⟨0, 10, 0, (-1), 0, []⟩ : Api_Domain)] (List.length [(⟨0, 10, 0, (-1), 0, []⟩ : Api_Domain)]) false), .callo (.tup [.os 0 (List.length l3), .v (.int .i64 v4)]) [.arr 5 l3 (List.length l3) false], .callo (.tup [.agg [.v (.int .u64 v8), .v (.int .u64 v9), .v (.int .i64 v10), .os 0 (List.length l7)], .v (.int .i64 v11)]) [.arr 5 l7 (List.length l7) false], .callo (.tup [.agg [.v (.int .u64 v15), .v (.int .u64 v16), .v (.int .i64 v17), .os 0 (List.length l14)], .v (.int .i64 v18)]) [.arr 5 l14 (List.length l14) false], .callo (.tup [.os 0 (List.length l21), .v (.int .i64 v22)]) [.arr 5 l21 (List.length l21) false], .callo (.tup [.os 0 (List.length l25), .v (.int .i64 v26)]) [.arr 5 l25 (List.length l25) false], .callo (.tup [.v (.int .i64 v31), .agg [.v (.int .u64 v32), .v (.int .u64 v33), .v (.int .i64 v34), .os 0 n30], .v (.int .i64 v35)]) [.arr 5 l29 n30 false], .callo (.tup [.v (.int .i64 v40), .agg [.v (.int .u64 v41), .v (.int .u64 v42), .v (.int .i64 v43), .os 0 n39], .v (.int .i64 v44)]) [.arr 5 l38 n39 false], .callo (.tup [.v (.int .i64 v49), .agg [.v (.int .u64 v50), .v (.int .u64 v51), .v (.int .i64 v52), .os 0 n48], .v (.int .i64 v53)]) [.arr 5 l47 n48 false], .dec true, .dec true, .dec true, .dec false]) (hrun := by kernel_rfl) (hps := pc (bs_ob 96 [(⟨0, 0, (⟨#[97]⟩ : ByteArray), 0, 0⟩ : Api_Device)]) <| pc (bs_ob 60 [(⟨0, 0, 10, 0, (-1), (⟨#[112]⟩ : ByteArray), []⟩ : Api_Port)]) <| pc (bs_ob 40 [(⟨0, 10, 0, (-1), 0, []⟩ : Api_Domain)]) <| pc (k_ether_Put h2) <| pc (im5 l3) <| pc (k_tag_Add h6) <| pc (im5 l7) <| pc (k_tag_Add h13) <| pc (im5 l14) <| pc (k_ether_Put h20) <| pc (im5 l21) <| pc ((rfl : ((List.length l7) : Nat) = (List.length l7))) <| pc (k_ether_Put h24) <| pc (im5 l25) <| pc ((rfl : ((List.length l14) : Nat) = (List.length l14))) <| pc (k_enter_At h28) <| pc (im5 l29) <| pc ((rfl : ((List.length [(⟨0, 0, (⟨#[97]⟩ : ByteArray), 0, 0⟩ : Api_Device)]) : Nat) = (List.length [(⟨0, 0, (⟨#[97]⟩ : ByteArray), 0, 0⟩ : Api_Device)]))) <| pc ((rfl : ((List.length [(⟨0, 0, 10, 0, (-1), (⟨#[112]⟩ : ByteArray), []⟩ : Api_Port)]) : Nat) = (List.length [(⟨0, 0, 10, 0, (-1), (⟨#[112]⟩ : ByteArray), []⟩ : Api_Port)]))) <| pc ((rfl : (0 : Nat) = 0)) <| pc ((rfl : ((List.length [(⟨0, 10, 0, (-1), 0, []⟩ : Api_Domain)]) : Nat) = (List.length [(⟨0, 10, 0, (-1), 0, []⟩ : Api_Domain)]))) <| pc ((rfl : (0 : Nat) = 0)) <| pc ((rfl : (0 : Nat) = 0)) <| pc ((rfl : (0 : Nat) = 0)) <| pc ((rfl : (0 : Nat) = 0)) <| pc ((rfl : ((List.length l3) : Nat) = (List.length l3))) <| pc (k_enter_At h37) <| pc (im5 l38) <| pc ((rfl : ((List.length [(⟨0, 0, (⟨#[97]⟩ : ByteArray), 0, 0⟩ : Api_Device)]) : Nat) = (List.length [(⟨0, 0, (⟨#[97]⟩ : ByteArray), 0, 0⟩ : Api_Device)]))) <| pc ((rfl : ((List.length [(⟨0, 0, 10, 0, (-1), (⟨#[112]⟩ : ByteArray), []⟩ : Api_Port)]) : Nat) = (List.length [(⟨0, 0, 10, 0, (-1), (⟨#[112]⟩ : ByteArray), []⟩ : Api_Port)]))) <| pc ((rfl : (0 : Nat) = 0)) <| pc ((rfl : ((List.length [(⟨0, 10, 0, (-1), 0, []⟩ : Api_Domain)]) : Nat) = (List.length [(⟨0, 10, 0, (-1), 0, []⟩ : Api_Domain)]))) <| pc ((rfl : (0 : Nat) = 0)) <| pc ((rfl : (0 : Nat) = 0)) <| pc ((rfl : (0 : Nat) = 0)) <| pc ((rfl : (0 : Nat) = 0)) <| pc ((rfl : ((List.length l21) : Nat) = (List.length l21))) <| pc (k_enter_At h46) <| pc (im5 l47) <| pc ((rfl : ((List.length [(⟨0, 0, (⟨#[97]⟩ : ByteArray), 0, 0⟩ : Api_Device)]) : Nat) = (List.length [(⟨0, 0, (⟨#[97]⟩ : ByteArray), 0, 0⟩ : Api_Device)]))) <| pc ((rfl : ((List.length [(⟨0, 0, 10, 0, (-1), (⟨#[112]⟩ : ByteArray), []⟩ : Api_Port)]) : Nat) = (List.length [(⟨0, 0, 10, 0, (-1), (⟨#[112]⟩ : ByteArray), []⟩ : Api_Port)]))) <| pc ((rfl : (0 : Nat) = 0)) <| pc ((rfl : ((List.length [(⟨0, 10, 0, (-1), 0, []⟩ : Api_Domain)]) : Nat) = (List.length [(⟨0, 10, 0, (-1), 0, []⟩ : Api_Domain)]))) <| pc ((rfl : (0 : Nat) = 0)) <| pc ((rfl : (0 : Nat) = 0)) <| pc ((rfl : (0 : Nat) = 0)) <| pc ((rfl : (0 : Nat) = 0)) <| pc ((rfl : ((List.length l25) : Nat) = (List.length l25))) <| pc (h54) <| pc (h55) <| pc (h56) <| pc (h57) <| pn)
      · injection h with h; subst h; exact runFn_sound mixedOrders Try.func50 rfl (keep := none) (π := [.obj [] (.arr 96 [(⟨0, 0, (⟨#[97]⟩ : ByteArray), 0, 0⟩ : Api_Device)] (List.length [(⟨0, 0, (⟨#[97]⟩ : ByteArray), 0, 0⟩ : Api_Device)]) false), .obj [] (.arr 60 [(⟨0, 0, 10, 0, (-1), (⟨#[112]⟩ : ByteArray), []⟩ : Api_Port)] (List.length [(⟨0, 0, 10, 0, (-1), (⟨#[112]⟩ : ByteArray), []⟩ : Api_Port)]) false), .obj [] (.arr 40 [(⟨0, 10, 0, (-1), 0, []⟩ : Api_Domain)] (List.length [(⟨0, 10, 0, (-1), 0, []⟩ : Api_Domain)]) false), .callo (.tup [.os 0 (List.length l3), .v (.int .i64 v4)]) [.arr 5 l3 (List.length l3) false], .callo (.tup [.agg [.v (.int .u64 v8), .v (.int .u64 v9), .v (.int .i64 v10), .os 0 (List.length l7)], .v (.int .i64 v11)]) [.arr 5 l7 (List.length l7) false], .callo (.tup [.agg [.v (.int .u64 v15), .v (.int .u64 v16), .v (.int .i64 v17), .os 0 (List.length l14)], .v (.int .i64 v18)]) [.arr 5 l14 (List.length l14) false], .callo (.tup [.os 0 (List.length l21), .v (.int .i64 v22)]) [.arr 5 l21 (List.length l21) false], .callo (.tup [.os 0 (List.length l25), .v (.int .i64 v26)]) [.arr 5 l25 (List.length l25) false], .callo (.tup [.v (.int .i64 v31), .agg [.v (.int .u64 v32), .v (.int .u64 v33), .v (.int .i64 v34), .os 0 n30], .v (.int .i64 v35)]) [.arr 5 l29 n30 false], .callo (.tup [.v (.int .i64 v40), .agg [.v (.int .u64 v41), .v (.int .u64 v42), .v (.int .i64 v43), .os 0 n39], .v (.int .i64 v44)]) [.arr 5 l38 n39 false], .callo (.tup [.v (.int .i64 v49), .agg [.v (.int .u64 v50), .v (.int .u64 v51), .v (.int .i64 v52), .os 0 n48], .v (.int .i64 v53)]) [.arr 5 l47 n48 false], .dec true, .dec true, .dec false]) (hrun := by kernel_rfl) (hps := pc (bs_ob 96 [(⟨0, 0, (⟨#[97]⟩ : ByteArray), 0, 0⟩ : Api_Device)]) <| pc (bs_ob 60 [(⟨0, 0, 10, 0, (-1), (⟨#[112]⟩ : ByteArray), []⟩ : Api_Port)]) <| pc (bs_ob 40 [(⟨0, 10, 0, (-1), 0, []⟩ : Api_Domain)]) <| pc (k_ether_Put h2) <| pc (im5 l3) <| pc (k_tag_Add h6) <| pc (im5 l7) <| pc (k_tag_Add h13) <| pc (im5 l14) <| pc (k_ether_Put h20) <| pc (im5 l21) <| pc ((rfl : ((List.length l7) : Nat) = (List.length l7))) <| pc (k_ether_Put h24) <| pc (im5 l25) <| pc ((rfl : ((List.length l14) : Nat) = (List.length l14))) <| pc (k_enter_At h28) <| pc (im5 l29) <| pc ((rfl : ((List.length [(⟨0, 0, (⟨#[97]⟩ : ByteArray), 0, 0⟩ : Api_Device)]) : Nat) = (List.length [(⟨0, 0, (⟨#[97]⟩ : ByteArray), 0, 0⟩ : Api_Device)]))) <| pc ((rfl : ((List.length [(⟨0, 0, 10, 0, (-1), (⟨#[112]⟩ : ByteArray), []⟩ : Api_Port)]) : Nat) = (List.length [(⟨0, 0, 10, 0, (-1), (⟨#[112]⟩ : ByteArray), []⟩ : Api_Port)]))) <| pc ((rfl : (0 : Nat) = 0)) <| pc ((rfl : ((List.length [(⟨0, 10, 0, (-1), 0, []⟩ : Api_Domain)]) : Nat) = (List.length [(⟨0, 10, 0, (-1), 0, []⟩ : Api_Domain)]))) <| pc ((rfl : (0 : Nat) = 0)) <| pc ((rfl : (0 : Nat) = 0)) <| pc ((rfl : (0 : Nat) = 0)) <| pc ((rfl : (0 : Nat) = 0)) <| pc ((rfl : ((List.length l3) : Nat) = (List.length l3))) <| pc (k_enter_At h37) <| pc (im5 l38) <| pc ((rfl : ((List.length [(⟨0, 0, (⟨#[97]⟩ : ByteArray), 0, 0⟩ : Api_Device)]) : Nat) = (List.length [(⟨0, 0, (⟨#[97]⟩ : ByteArray), 0, 0⟩ : Api_Device)]))) <| pc ((rfl : ((List.length [(⟨0, 0, 10, 0, (-1), (⟨#[112]⟩ : ByteArray), []⟩ : Api_Port)]) : Nat) = (List.length [(⟨0, 0, 10, 0, (-1), (⟨#[112]⟩ : ByteArray), []⟩ : Api_Port)]))) <| pc ((rfl : (0 : Nat) = 0)) <| pc ((rfl : ((List.length [(⟨0, 10, 0, (-1), 0, []⟩ : Api_Domain)]) : Nat) = (List.length [(⟨0, 10, 0, (-1), 0, []⟩ : Api_Domain)]))) <| pc ((rfl : (0 : Nat) = 0)) <| pc ((rfl : (0 : Nat) = 0)) <| pc ((rfl : (0 : Nat) = 0)) <| pc ((rfl : (0 : Nat) = 0)) <| pc ((rfl : ((List.length l21) : Nat) = (List.length l21))) <| pc (k_enter_At h46) <| pc (im5 l47) <| pc ((rfl : ((List.length [(⟨0, 0, (⟨#[97]⟩ : ByteArray), 0, 0⟩ : Api_Device)]) : Nat) = (List.length [(⟨0, 0, (⟨#[97]⟩ : ByteArray), 0, 0⟩ : Api_Device)]))) <| pc ((rfl : ((List.length [(⟨0, 0, 10, 0, (-1), (⟨#[112]⟩ : ByteArray), []⟩ : Api_Port)]) : Nat) = (List.length [(⟨0, 0, 10, 0, (-1), (⟨#[112]⟩ : ByteArray), []⟩ : Api_Port)]))) <| pc ((rfl : (0 : Nat) = 0)) <| pc ((rfl : ((List.length [(⟨0, 10, 0, (-1), 0, []⟩ : Api_Domain)]) : Nat) = (List.length [(⟨0, 10, 0, (-1), 0, []⟩ : Api_Domain)]))) <| pc ((rfl : (0 : Nat) = 0)) <| pc ((rfl : (0 : Nat) = 0)) <| pc ((rfl : (0 : Nat) = 0)) <| pc ((rfl : (0 : Nat) = 0)) <| pc ((rfl : ((List.length l25) : Nat) = (List.length l25))) <| pc (h54) <| pc (h55) <| pc (h56) <| pn)
    · injection h with h; subst h; exact runFn_sound mixedOrders Try.func50 rfl (keep := none) (π := [.obj [] (.arr 96 [(⟨0, 0, (⟨#[97]⟩ : ByteArray), 0, 0⟩ : Api_Device)] (List.length [(⟨0, 0, (⟨#[97]⟩ : ByteArray), 0, 0⟩ : Api_Device)]) false), .obj [] (.arr 60 [(⟨0, 0, 10, 0, (-1), (⟨#[112]⟩ : ByteArray), []⟩ : Api_Port)] (List.length [(⟨0, 0, 10, 0, (-1), (⟨#[112]⟩ : ByteArray), []⟩ : Api_Port)]) false), .obj [] (.arr 40 [(⟨0, 10, 0, (-1), 0, []⟩ : Api_Domain)] (List.length [(⟨0, 10, 0, (-1), 0, []⟩ : Api_Domain)]) false), .callo (.tup [.os 0 (List.length l3), .v (.int .i64 v4)]) [.arr 5 l3 (List.length l3) false], .callo (.tup [.agg [.v (.int .u64 v8), .v (.int .u64 v9), .v (.int .i64 v10), .os 0 (List.length l7)], .v (.int .i64 v11)]) [.arr 5 l7 (List.length l7) false], .callo (.tup [.agg [.v (.int .u64 v15), .v (.int .u64 v16), .v (.int .i64 v17), .os 0 (List.length l14)], .v (.int .i64 v18)]) [.arr 5 l14 (List.length l14) false], .callo (.tup [.os 0 (List.length l21), .v (.int .i64 v22)]) [.arr 5 l21 (List.length l21) false], .callo (.tup [.os 0 (List.length l25), .v (.int .i64 v26)]) [.arr 5 l25 (List.length l25) false], .callo (.tup [.v (.int .i64 v31), .agg [.v (.int .u64 v32), .v (.int .u64 v33), .v (.int .i64 v34), .os 0 n30], .v (.int .i64 v35)]) [.arr 5 l29 n30 false], .callo (.tup [.v (.int .i64 v40), .agg [.v (.int .u64 v41), .v (.int .u64 v42), .v (.int .i64 v43), .os 0 n39], .v (.int .i64 v44)]) [.arr 5 l38 n39 false], .callo (.tup [.v (.int .i64 v49), .agg [.v (.int .u64 v50), .v (.int .u64 v51), .v (.int .i64 v52), .os 0 n48], .v (.int .i64 v53)]) [.arr 5 l47 n48 false], .dec true, .dec false]) (hrun := by kernel_rfl) (hps := pc (bs_ob 96 [(⟨0, 0, (⟨#[97]⟩ : ByteArray), 0, 0⟩ : Api_Device)]) <| pc (bs_ob 60 [(⟨0, 0, 10, 0, (-1), (⟨#[112]⟩ : ByteArray), []⟩ : Api_Port)]) <| pc (bs_ob 40 [(⟨0, 10, 0, (-1), 0, []⟩ : Api_Domain)]) <| pc (k_ether_Put h2) <| pc (im5 l3) <| pc (k_tag_Add h6) <| pc (im5 l7) <| pc (k_tag_Add h13) <| pc (im5 l14) <| pc (k_ether_Put h20) <| pc (im5 l21) <| pc ((rfl : ((List.length l7) : Nat) = (List.length l7))) <| pc (k_ether_Put h24) <| pc (im5 l25) <| pc ((rfl : ((List.length l14) : Nat) = (List.length l14))) <| pc (k_enter_At h28) <| pc (im5 l29) <| pc ((rfl : ((List.length [(⟨0, 0, (⟨#[97]⟩ : ByteArray), 0, 0⟩ : Api_Device)]) : Nat) = (List.length [(⟨0, 0, (⟨#[97]⟩ : ByteArray), 0, 0⟩ : Api_Device)]))) <| pc ((rfl : ((List.length [(⟨0, 0, 10, 0, (-1), (⟨#[112]⟩ : ByteArray), []⟩ : Api_Port)]) : Nat) = (List.length [(⟨0, 0, 10, 0, (-1), (⟨#[112]⟩ : ByteArray), []⟩ : Api_Port)]))) <| pc ((rfl : (0 : Nat) = 0)) <| pc ((rfl : ((List.length [(⟨0, 10, 0, (-1), 0, []⟩ : Api_Domain)]) : Nat) = (List.length [(⟨0, 10, 0, (-1), 0, []⟩ : Api_Domain)]))) <| pc ((rfl : (0 : Nat) = 0)) <| pc ((rfl : (0 : Nat) = 0)) <| pc ((rfl : (0 : Nat) = 0)) <| pc ((rfl : (0 : Nat) = 0)) <| pc ((rfl : ((List.length l3) : Nat) = (List.length l3))) <| pc (k_enter_At h37) <| pc (im5 l38) <| pc ((rfl : ((List.length [(⟨0, 0, (⟨#[97]⟩ : ByteArray), 0, 0⟩ : Api_Device)]) : Nat) = (List.length [(⟨0, 0, (⟨#[97]⟩ : ByteArray), 0, 0⟩ : Api_Device)]))) <| pc ((rfl : ((List.length [(⟨0, 0, 10, 0, (-1), (⟨#[112]⟩ : ByteArray), []⟩ : Api_Port)]) : Nat) = (List.length [(⟨0, 0, 10, 0, (-1), (⟨#[112]⟩ : ByteArray), []⟩ : Api_Port)]))) <| pc ((rfl : (0 : Nat) = 0)) <| pc ((rfl : ((List.length [(⟨0, 10, 0, (-1), 0, []⟩ : Api_Domain)]) : Nat) = (List.length [(⟨0, 10, 0, (-1), 0, []⟩ : Api_Domain)]))) <| pc ((rfl : (0 : Nat) = 0)) <| pc ((rfl : (0 : Nat) = 0)) <| pc ((rfl : (0 : Nat) = 0)) <| pc ((rfl : (0 : Nat) = 0)) <| pc ((rfl : ((List.length l21) : Nat) = (List.length l21))) <| pc (k_enter_At h46) <| pc (im5 l47) <| pc ((rfl : ((List.length [(⟨0, 0, (⟨#[97]⟩ : ByteArray), 0, 0⟩ : Api_Device)]) : Nat) = (List.length [(⟨0, 0, (⟨#[97]⟩ : ByteArray), 0, 0⟩ : Api_Device)]))) <| pc ((rfl : ((List.length [(⟨0, 0, 10, 0, (-1), (⟨#[112]⟩ : ByteArray), []⟩ : Api_Port)]) : Nat) = (List.length [(⟨0, 0, 10, 0, (-1), (⟨#[112]⟩ : ByteArray), []⟩ : Api_Port)]))) <| pc ((rfl : (0 : Nat) = 0)) <| pc ((rfl : ((List.length [(⟨0, 10, 0, (-1), 0, []⟩ : Api_Domain)]) : Nat) = (List.length [(⟨0, 10, 0, (-1), 0, []⟩ : Api_Domain)]))) <| pc ((rfl : (0 : Nat) = 0)) <| pc ((rfl : (0 : Nat) = 0)) <| pc ((rfl : (0 : Nat) = 0)) <| pc ((rfl : (0 : Nat) = 0)) <| pc ((rfl : ((List.length l25) : Nat) = (List.length l25))) <| pc (h54) <| pc (h55) <| pn)
  · injection h with h; subst h; exact runFn_sound mixedOrders Try.func50 rfl (keep := none) (π := [.obj [] (.arr 96 [(⟨0, 0, (⟨#[97]⟩ : ByteArray), 0, 0⟩ : Api_Device)] (List.length [(⟨0, 0, (⟨#[97]⟩ : ByteArray), 0, 0⟩ : Api_Device)]) false), .obj [] (.arr 60 [(⟨0, 0, 10, 0, (-1), (⟨#[112]⟩ : ByteArray), []⟩ : Api_Port)] (List.length [(⟨0, 0, 10, 0, (-1), (⟨#[112]⟩ : ByteArray), []⟩ : Api_Port)]) false), .obj [] (.arr 40 [(⟨0, 10, 0, (-1), 0, []⟩ : Api_Domain)] (List.length [(⟨0, 10, 0, (-1), 0, []⟩ : Api_Domain)]) false), .callo (.tup [.os 0 (List.length l3), .v (.int .i64 v4)]) [.arr 5 l3 (List.length l3) false], .callo (.tup [.agg [.v (.int .u64 v8), .v (.int .u64 v9), .v (.int .i64 v10), .os 0 (List.length l7)], .v (.int .i64 v11)]) [.arr 5 l7 (List.length l7) false], .callo (.tup [.agg [.v (.int .u64 v15), .v (.int .u64 v16), .v (.int .i64 v17), .os 0 (List.length l14)], .v (.int .i64 v18)]) [.arr 5 l14 (List.length l14) false], .callo (.tup [.os 0 (List.length l21), .v (.int .i64 v22)]) [.arr 5 l21 (List.length l21) false], .callo (.tup [.os 0 (List.length l25), .v (.int .i64 v26)]) [.arr 5 l25 (List.length l25) false], .callo (.tup [.v (.int .i64 v31), .agg [.v (.int .u64 v32), .v (.int .u64 v33), .v (.int .i64 v34), .os 0 n30], .v (.int .i64 v35)]) [.arr 5 l29 n30 false], .callo (.tup [.v (.int .i64 v40), .agg [.v (.int .u64 v41), .v (.int .u64 v42), .v (.int .i64 v43), .os 0 n39], .v (.int .i64 v44)]) [.arr 5 l38 n39 false], .callo (.tup [.v (.int .i64 v49), .agg [.v (.int .u64 v50), .v (.int .u64 v51), .v (.int .i64 v52), .os 0 n48], .v (.int .i64 v53)]) [.arr 5 l47 n48 false], .dec false]) (hrun := by kernel_rfl) (hps := pc (bs_ob 96 [(⟨0, 0, (⟨#[97]⟩ : ByteArray), 0, 0⟩ : Api_Device)]) <| pc (bs_ob 60 [(⟨0, 0, 10, 0, (-1), (⟨#[112]⟩ : ByteArray), []⟩ : Api_Port)]) <| pc (bs_ob 40 [(⟨0, 10, 0, (-1), 0, []⟩ : Api_Domain)]) <| pc (k_ether_Put h2) <| pc (im5 l3) <| pc (k_tag_Add h6) <| pc (im5 l7) <| pc (k_tag_Add h13) <| pc (im5 l14) <| pc (k_ether_Put h20) <| pc (im5 l21) <| pc ((rfl : ((List.length l7) : Nat) = (List.length l7))) <| pc (k_ether_Put h24) <| pc (im5 l25) <| pc ((rfl : ((List.length l14) : Nat) = (List.length l14))) <| pc (k_enter_At h28) <| pc (im5 l29) <| pc ((rfl : ((List.length [(⟨0, 0, (⟨#[97]⟩ : ByteArray), 0, 0⟩ : Api_Device)]) : Nat) = (List.length [(⟨0, 0, (⟨#[97]⟩ : ByteArray), 0, 0⟩ : Api_Device)]))) <| pc ((rfl : ((List.length [(⟨0, 0, 10, 0, (-1), (⟨#[112]⟩ : ByteArray), []⟩ : Api_Port)]) : Nat) = (List.length [(⟨0, 0, 10, 0, (-1), (⟨#[112]⟩ : ByteArray), []⟩ : Api_Port)]))) <| pc ((rfl : (0 : Nat) = 0)) <| pc ((rfl : ((List.length [(⟨0, 10, 0, (-1), 0, []⟩ : Api_Domain)]) : Nat) = (List.length [(⟨0, 10, 0, (-1), 0, []⟩ : Api_Domain)]))) <| pc ((rfl : (0 : Nat) = 0)) <| pc ((rfl : (0 : Nat) = 0)) <| pc ((rfl : (0 : Nat) = 0)) <| pc ((rfl : (0 : Nat) = 0)) <| pc ((rfl : ((List.length l3) : Nat) = (List.length l3))) <| pc (k_enter_At h37) <| pc (im5 l38) <| pc ((rfl : ((List.length [(⟨0, 0, (⟨#[97]⟩ : ByteArray), 0, 0⟩ : Api_Device)]) : Nat) = (List.length [(⟨0, 0, (⟨#[97]⟩ : ByteArray), 0, 0⟩ : Api_Device)]))) <| pc ((rfl : ((List.length [(⟨0, 0, 10, 0, (-1), (⟨#[112]⟩ : ByteArray), []⟩ : Api_Port)]) : Nat) = (List.length [(⟨0, 0, 10, 0, (-1), (⟨#[112]⟩ : ByteArray), []⟩ : Api_Port)]))) <| pc ((rfl : (0 : Nat) = 0)) <| pc ((rfl : ((List.length [(⟨0, 10, 0, (-1), 0, []⟩ : Api_Domain)]) : Nat) = (List.length [(⟨0, 10, 0, (-1), 0, []⟩ : Api_Domain)]))) <| pc ((rfl : (0 : Nat) = 0)) <| pc ((rfl : (0 : Nat) = 0)) <| pc ((rfl : (0 : Nat) = 0)) <| pc ((rfl : (0 : Nat) = 0)) <| pc ((rfl : ((List.length l21) : Nat) = (List.length l21))) <| pc (k_enter_At h46) <| pc (im5 l47) <| pc ((rfl : ((List.length [(⟨0, 0, (⟨#[97]⟩ : ByteArray), 0, 0⟩ : Api_Device)]) : Nat) = (List.length [(⟨0, 0, (⟨#[97]⟩ : ByteArray), 0, 0⟩ : Api_Device)]))) <| pc ((rfl : ((List.length [(⟨0, 0, 10, 0, (-1), (⟨#[112]⟩ : ByteArray), []⟩ : Api_Port)]) : Nat) = (List.length [(⟨0, 0, 10, 0, (-1), (⟨#[112]⟩ : ByteArray), []⟩ : Api_Port)]))) <| pc ((rfl : (0 : Nat) = 0)) <| pc ((rfl : ((List.length [(⟨0, 10, 0, (-1), 0, []⟩ : Api_Domain)]) : Nat) = (List.length [(⟨0, 10, 0, (-1), 0, []⟩ : Api_Domain)]))) <| pc ((rfl : (0 : Nat) = 0)) <| pc ((rfl : (0 : Nat) = 0)) <| pc ((rfl : (0 : Nat) = 0)) <| pc ((rfl : (0 : Nat) = 0)) <| pc ((rfl : ((List.length l25) : Nat) = (List.length l25))) <| pc (h54) <| pn)

theorem k_palingref15_Place {a1 : Int} {a2 : Int} {r : Bool} (h : palingref15_Place a1 a2 = some r) :
    CallsOK Try.prog UU 105 [.v (.int .i64 a1), .v (.int .i64 a2)] [] (.v (.bool r)) [] := by
  unfold palingref15_Place at h
  rcases ite_out h with ⟨h3, h⟩ | ⟨h3, h⟩
  · injection h with h; subst h; exact runFn_sound mixedOrders Try.func105 rfl (keep := none) (π := [.dec true]) (hrun := by kernel_rfl) (hps := pc (h3) <| pn)
  · injection h with h; subst h; exact runFn_sound mixedOrders Try.func105 rfl (keep := none) (π := [.dec false]) (hrun := by kernel_rfl) (hps := pc (h3) <| pn)

theorem k_palingref15_At_L1 {a1 : Api_Net} {a2 : Int} {a3 : Int} : LoopOK Try.prog UU 0 34 (subC (codeOf Try.f117) [1, 0, 1, 0, 0]) (ρ := Int ⊕ Unit) (palingref15_At_L1 a1 a2 a3)
    (fun v4 : Int => ([(1, .v (.int .i64 a2)), (2, .v (.int .i64 a3)), (3, .op 0 1 0 0), (6, .z), (7, .v (.int .i64 v4))] : Fr DD)) (fun v4 : Int => ([.box 31 (c31 a1) false] : Heap DD)) (fun r => match r with | Sum.inl v13 => .ret | Sum.inr _ => .exit 0) (fun r => match r with | Sum.inl v13 => [(6, .v (.int .i64 v13))] | Sum.inr _ => [(6, .z)]) (fun r => match r with | Sum.inl v13 => [] | Sum.inr _ => []) := by
  refine loop_sound3 (fun s q h => ?_) (fun r => ?_)
  · replace h : palingref15_At_L1 a1 a2 a3 s = some q := h; revert h; revert s; intro v4 h
    unfold palingref15_At_L1 at h
    rcases ite_out h with ⟨h5, h⟩ | ⟨h5, h⟩
    · obtain ⟨x6, h7, h⟩ := bind_out h
      rcases ite_out h with ⟨h8, h⟩ | ⟨h8, h⟩
      · obtain ⟨x9, h10, h⟩ := bind_out h
        rcases ite_out h with ⟨h11, h⟩ | ⟨h11, h⟩
        · injection h with h; subst h; exact runLp_sound mixedOrders (live := [6]) (ids := []) (π := [.dec true, .row (c40 x6), .dec true, .row (c40 x9), .dec true]) (hx := by kernel_rfl) (hps := pc (h5) <| pc (ob40 h7) <| pc (h8) <| pc (ob40 h10) <| pc (h11) <| pn)
        · injection h with h; subst h; exact runLp_sound mixedOrders (live := [1, 2, 3, 6, 7]) (ids := [0]) (π := [.dec true, .row (c40 x6), .dec true, .row (c40 x9), .dec false]) (hx := by kernel_rfl) (hps := pc (h5) <| pc (ob40 h7) <| pc (h8) <| pc (ob40 h10) <| pc (h11) <| pn)
      · injection h with h; subst h; exact runLp_sound mixedOrders (live := [1, 2, 3, 6, 7]) (ids := [0]) (π := [.dec true, .row (c40 x6), .dec false]) (hx := by kernel_rfl) (hps := pc (h5) <| pc (ob40 h7) <| pc (h8) <| pn)
    · injection h with h; subst h; exact runLp_sound mixedOrders (live := [6]) (ids := []) (π := [.dec false]) (hx := by kernel_rfl) (hps := pc (h5) <| pn)
  · rcases r with _ | _ <;> exact Ex.noConfusion

theorem k_palingref15_At {a1 : Api_Net} {a2 : Int} {a3 : Int} {r : Int} (h : palingref15_At a1 a2 a3 = some r) :
    CallsOK Try.prog UU 117 [.agg (c31 a1), .v (.int .i64 a2), .v (.int .i64 a3)] [] (.v (.int .i64 r)) [] := by
  unfold palingref15_At at h
  obtain ⟨r15, h14, h⟩ := bind_out h
  rcases r15 with v13 | _
  · injection h with h; subst h; exact runFn_sound mixedOrders Try.func117 rfl (keep := none) (π := [.sum [1, 2, 3, 6, 7] [0] .ret [(6, .v (.int .i64 v13))] []]) (hrun := by kernel_rfl) (hps := pc (k_palingref15_At_L1 _ _ h14) <| pn)
  · injection h with h; subst h; exact runFn_sound mixedOrders Try.func117 rfl (keep := none) (π := [.sum [1, 2, 3, 6, 7] [0] (.exit 0) [(6, .z)] []]) (hrun := by kernel_rfl) (hps := pc (k_palingref15_At_L1 _ _ h14) <| pn)

theorem k_palingref15_In_L1 {a1 : List Int} {a2 : Int} : LoopOK Try.prog UU 0 18 (subC (codeOf Try.f109) [1, 0, 1, 0, 0]) (ρ := Unit ⊕ Unit) (palingref15_In_L1 a1 a2)
    (fun v3 : Int => ([(0, .sl 3 a1), (1, .v (.int .i64 a2)), (4, .v (.bool false)), (5, .v (.int .i64 v3))] : Fr DD)) (fun v3 : Int => ([] : Heap DD)) (fun r => match r with | Sum.inl _ => .ret | Sum.inr _ => .exit 0) (fun r => match r with | Sum.inl _ => [(4, .v (.bool true))] | Sum.inr _ => [(4, .v (.bool false))]) (fun r => match r with | Sum.inl _ => [] | Sum.inr _ => []) := by
  refine loop_sound3 (fun s q h => ?_) (fun r => ?_)
  · replace h : palingref15_In_L1 a1 a2 s = some q := h; revert h; revert s; intro v3 h
    unfold palingref15_In_L1 at h
    rcases ite_out h with ⟨h4, h⟩ | ⟨h4, h⟩
    · obtain ⟨x5, h6, h⟩ := bind_out h
      rcases ite_out h with ⟨h7, h⟩ | ⟨h7, h⟩
      · injection h with h; subst h; exact runLp_sound mixedOrders (live := [4]) (ids := []) (π := [.dec true, .row (c3 x5), .dec true]) (hx := by kernel_rfl) (hps := pc (h4) <| pc (ob3 h6) <| pc (h7) <| pn)
      · injection h with h; subst h; exact runLp_sound mixedOrders (live := [0, 1, 4, 5]) (ids := []) (π := [.dec true, .row (c3 x5), .dec false]) (hx := by kernel_rfl) (hps := pc (h4) <| pc (ob3 h6) <| pc (h7) <| pn)
    · injection h with h; subst h; exact runLp_sound mixedOrders (live := [4]) (ids := []) (π := [.dec false]) (hx := by kernel_rfl) (hps := pc (h4) <| pn)
  · rcases r with _ | _ <;> exact Ex.noConfusion

theorem k_palingref15_In {a1 : List Int} {a2 : Int} {r : Bool} (h : palingref15_In a1 a2 = some r) :
    CallsOK Try.prog UU 109 [.sl 3 a1, .v (.int .i64 a2)] [] (.v (.bool r)) [] := by
  unfold palingref15_In at h
  obtain ⟨r9, h8, h⟩ := bind_out h
  rcases r9 with _ | _
  · injection h with h; subst h; exact runFn_sound mixedOrders Try.func109 rfl (keep := none) (π := [.sum [0, 1, 4, 5] [] .ret [(4, .v (.bool true))] []]) (hrun := by kernel_rfl) (hps := pc (k_palingref15_In_L1 _ _ h8) <| pn)
  · injection h with h; subst h; exact runFn_sound mixedOrders Try.func109 rfl (keep := none) (π := [.sum [0, 1, 4, 5] [] (.exit 0) [(4, .v (.bool false))] []]) (hrun := by kernel_rfl) (hps := pc (k_palingref15_In_L1 _ _ h8) <| pn)

theorem k_palingref15_peer {a1 : Api_Net} {a2 : Int} {a3 : Int} {r : Bool} (h : palingref15_peer a1 a2 a3 = some r) :
    CallsOK Try.prog UU 121 [.agg (c31 a1), .v (.int .i64 a2), .v (.int .i64 a3)] [] (.v (.bool r)) [] := by
  unfold palingref15_peer at h
  obtain ⟨r4, h5, h⟩ := bind_out h
  rcases ite_out h with ⟨h6, h⟩ | ⟨h6, h⟩
  · injection h with h; subst h; exact runFn_sound mixedOrders Try.func121 rfl (keep := none) (π := [.callv (.v (.bool r4)), .dec true]) (hrun := by kernel_rfl) (hps := pc (k_palingref15_Place h5) <| pc (h6) <| pn)
  · rcases ite_out h with ⟨h7, h⟩ | ⟨h7, h⟩
    · injection h with h; subst h; exact runFn_sound mixedOrders Try.func121 rfl (keep := none) (π := [.callv (.v (.bool r4)), .dec false, .dec true]) (hrun := by kernel_rfl) (hps := pc (k_palingref15_Place h5) <| pc (h6) <| pc (h7) <| pn)
    · obtain ⟨x8, h9, h⟩ := bind_out h
      obtain ⟨x10, h11, h⟩ := bind_out h
      rcases ite_out h with ⟨h12, h⟩ | ⟨h12, h⟩
      · rcases ite_out h with ⟨h13, h⟩ | ⟨h13, h⟩
        · rcases ite_out h with ⟨h14, h⟩ | ⟨h14, h⟩
          · obtain ⟨x15, h16, h⟩ := bind_out h
            rcases ite_out h with ⟨h17, h⟩ | ⟨h17, h⟩
            · obtain ⟨x18, h19, h⟩ := bind_out h
              rcases ite_out h with ⟨h20, h⟩ | ⟨h20, h⟩
              · obtain ⟨r21, h22, h⟩ := bind_out h
                injection h with h; subst h; exact runFn_sound mixedOrders Try.func121 rfl (keep := none) (π := [.callv (.v (.bool r4)), .dec false, .dec false, .row (c40 x8), .row (c40 x10), .dec true, .dec true, .dec true, .row (c96 x15), .dec true, .row (c96 x18), .dec true, .callv (.v (.bool r21))]) (hrun := by kernel_rfl) (hps := pc (k_palingref15_Place h5) <| pc (h6) <| pc (h7) <| pc (ob40 h9) <| pc (ob40 h11) <| pc (h12) <| pc (h13) <| pc (h14) <| pc (ob96 h16) <| pc (h17) <| pc (ob96 h19) <| pc (h20) <| pc (k_palingref15_In h22) <| pn)
              · injection h with h; subst h; exact runFn_sound mixedOrders Try.func121 rfl (keep := none) (π := [.callv (.v (.bool r4)), .dec false, .dec false, .row (c40 x8), .row (c40 x10), .dec true, .dec true, .dec true, .row (c96 x15), .dec true, .row (c96 x18), .dec false]) (hrun := by kernel_rfl) (hps := pc (k_palingref15_Place h5) <| pc (h6) <| pc (h7) <| pc (ob40 h9) <| pc (ob40 h11) <| pc (h12) <| pc (h13) <| pc (h14) <| pc (ob96 h16) <| pc (h17) <| pc (ob96 h19) <| pc (h20) <| pn)
            · injection h with h; subst h; exact runFn_sound mixedOrders Try.func121 rfl (keep := none) (π := [.callv (.v (.bool r4)), .dec false, .dec false, .row (c40 x8), .row (c40 x10), .dec true, .dec true, .dec true, .row (c96 x15), .dec false]) (hrun := by kernel_rfl) (hps := pc (k_palingref15_Place h5) <| pc (h6) <| pc (h7) <| pc (ob40 h9) <| pc (ob40 h11) <| pc (h12) <| pc (h13) <| pc (h14) <| pc (ob96 h16) <| pc (h17) <| pn)
          · injection h with h; subst h; exact runFn_sound mixedOrders Try.func121 rfl (keep := none) (π := [.callv (.v (.bool r4)), .dec false, .dec false, .row (c40 x8), .row (c40 x10), .dec true, .dec true, .dec false]) (hrun := by kernel_rfl) (hps := pc (k_palingref15_Place h5) <| pc (h6) <| pc (h7) <| pc (ob40 h9) <| pc (ob40 h11) <| pc (h12) <| pc (h13) <| pc (h14) <| pn)
        · injection h with h; subst h; exact runFn_sound mixedOrders Try.func121 rfl (keep := none) (π := [.callv (.v (.bool r4)), .dec false, .dec false, .row (c40 x8), .row (c40 x10), .dec true, .dec false]) (hrun := by kernel_rfl) (hps := pc (k_palingref15_Place h5) <| pc (h6) <| pc (h7) <| pc (ob40 h9) <| pc (ob40 h11) <| pc (h12) <| pc (h13) <| pn)
      · injection h with h; subst h; exact runFn_sound mixedOrders Try.func121 rfl (keep := none) (π := [.callv (.v (.bool r4)), .dec false, .dec false, .row (c40 x8), .row (c40 x10), .dec false]) (hrun := by kernel_rfl) (hps := pc (k_palingref15_Place h5) <| pc (h6) <| pc (h7) <| pc (ob40 h9) <| pc (ob40 h11) <| pc (h12) <| pn)

theorem k_palingref15_domains_L1 {a1 : Api_Net} : LoopOK Try.prog UU 0 120 (subC (codeOf Try.f63) [1, 0, 1, 0, 0]) (ρ := Unit ⊕ Unit) (palingref15_domains_L1 a1)
    (fun v2 : Int => ([(1, .op 0 1 0 0), (2, .v (.bool false)), (3, .v (.int .i64 v2))] : Fr DD)) (fun v2 : Int => ([.box 31 (c31 a1) false] : Heap DD)) (fun r => match r with | Sum.inl _ => .ret | Sum.inr _ => .exit 0) (fun r => match r with | Sum.inl _ => [(2, .v (.bool false))] | Sum.inr _ => [(1, .op 0 1 0 0), (2, .v (.bool false))]) (fun r => match r with | Sum.inl _ => [] | Sum.inr _ => [.box 31 (c31 a1) false]) := by
  refine loop_sound3 (fun s q h => ?_) (fun r => ?_)
  · replace h : palingref15_domains_L1 a1 s = some q := h; revert h; revert s; intro v2 h
    unfold palingref15_domains_L1 at h
    rcases ite_out h with ⟨h3, h⟩ | ⟨h3, h⟩
    · obtain ⟨x4, h5, h⟩ := bind_out h
      obtain ⟨r6, h7, h⟩ := bind_out h
      rcases ite_out h with ⟨h8, h⟩ | ⟨h8, h⟩
      · injection h with h; subst h; exact runLp_sound mixedOrders (live := [2]) (ids := []) (π := [.dec true, .row (c40 x4), .callv (.v (.bool r6)), .dec true]) (hx := by kernel_rfl) (hps := pc (h3) <| pc (ob40 h5) <| pc (k_palingref15_Place h7) <| pc (h8) <| pn)
      · rcases ite_out h with ⟨h9, h⟩ | ⟨h9, h⟩
        · injection h with h; subst h; exact runLp_sound mixedOrders (live := [2]) (ids := []) (π := [.dec true, .row (c40 x4), .callv (.v (.bool r6)), .dec false, .dec true]) (hx := by kernel_rfl) (hps := pc (h3) <| pc (ob40 h5) <| pc (k_palingref15_Place h7) <| pc (h8) <| pc (h9) <| pn)
        · rcases ite_out h with ⟨h10, h⟩ | ⟨h10, h⟩
          · injection h with h; subst h; exact runLp_sound mixedOrders (live := [2]) (ids := []) (π := [.dec true, .row (c40 x4), .callv (.v (.bool r6)), .dec false, .dec false, .dec true]) (hx := by kernel_rfl) (hps := pc (h3) <| pc (ob40 h5) <| pc (k_palingref15_Place h7) <| pc (h8) <| pc (h9) <| pc (h10) <| pn)
          · rcases ite_out h with ⟨h11, h⟩ | ⟨h11, h⟩
            · injection h with h; subst h; exact runLp_sound mixedOrders (live := [2]) (ids := []) (π := [.dec true, .row (c40 x4), .callv (.v (.bool r6)), .dec false, .dec false, .dec false, .dec true]) (hx := by kernel_rfl) (hps := pc (h3) <| pc (ob40 h5) <| pc (k_palingref15_Place h7) <| pc (h8) <| pc (h9) <| pc (h10) <| pc (h11) <| pn)
            · rcases ite_out h with ⟨h12, h⟩ | ⟨h12, h⟩
              · injection h with h; subst h; exact runLp_sound mixedOrders (live := [2]) (ids := []) (π := [.dec true, .row (c40 x4), .callv (.v (.bool r6)), .dec false, .dec false, .dec false, .dec false, .dec true]) (hx := by kernel_rfl) (hps := pc (h3) <| pc (ob40 h5) <| pc (k_palingref15_Place h7) <| pc (h8) <| pc (h9) <| pc (h10) <| pc (h11) <| pc (h12) <| pn)
              · obtain ⟨r13, h14, h⟩ := bind_out h
                rcases ite_out h with ⟨h15, h⟩ | ⟨h15, h⟩
                · injection h with h; subst h; exact runLp_sound mixedOrders (live := [2]) (ids := []) (π := [.dec true, .row (c40 x4), .callv (.v (.bool r6)), .dec false, .dec false, .dec false, .dec false, .dec false, .callv (.v (.int .i64 r13)), .dec true]) (hx := by kernel_rfl) (hps := pc (h3) <| pc (ob40 h5) <| pc (k_palingref15_Place h7) <| pc (h8) <| pc (h9) <| pc (h10) <| pc (h11) <| pc (h12) <| pc (k_palingref15_At h14) <| pc (h15) <| pn)
                · rcases ite_out h with ⟨h16, h⟩ | ⟨h16, h⟩
                  · obtain ⟨r17, h18, h⟩ := bind_out h
                    rcases ite_out h with ⟨h19, h⟩ | ⟨h19, h⟩
                    · injection h with h; subst h; exact runLp_sound mixedOrders (live := [2]) (ids := []) (π := [.dec true, .row (c40 x4), .callv (.v (.bool r6)), .dec false, .dec false, .dec false, .dec false, .dec false, .callv (.v (.int .i64 r13)), .dec false, .dec true, .callv (.v (.bool r17)), .dec true]) (hx := by kernel_rfl) (hps := pc (h3) <| pc (ob40 h5) <| pc (k_palingref15_Place h7) <| pc (h8) <| pc (h9) <| pc (h10) <| pc (h11) <| pc (h12) <| pc (k_palingref15_At h14) <| pc (h15) <| pc (h16) <| pc (k_palingref15_Place h18) <| pc (h19) <| pn)
                    · obtain ⟨x20, h21, h⟩ := bind_out h
                      rcases ite_out h with ⟨h22, h⟩ | ⟨h22, h⟩
                      · injection h with h; subst h; exact runLp_sound mixedOrders (live := [2]) (ids := []) (π := [.dec true, .row (c40 x4), .callv (.v (.bool r6)), .dec false, .dec false, .dec false, .dec false, .dec false, .callv (.v (.int .i64 r13)), .dec false, .dec true, .callv (.v (.bool r17)), .dec false, .row (c130 x20), .dec true]) (hx := by kernel_rfl) (hps := pc (h3) <| pc (ob40 h5) <| pc (k_palingref15_Place h7) <| pc (h8) <| pc (h9) <| pc (h10) <| pc (h11) <| pc (h12) <| pc (k_palingref15_At h14) <| pc (h15) <| pc (h16) <| pc (k_palingref15_Place h18) <| pc (h19) <| pc (ob130 h21) <| pc (h22) <| pn)
                      · injection h with h; subst h; exact runLp_sound mixedOrders (live := [1, 2, 3]) (ids := [0]) (π := [.dec true, .row (c40 x4), .callv (.v (.bool r6)), .dec false, .dec false, .dec false, .dec false, .dec false, .callv (.v (.int .i64 r13)), .dec false, .dec true, .callv (.v (.bool r17)), .dec false, .row (c130 x20), .dec false]) (hx := by kernel_rfl) (hps := pc (h3) <| pc (ob40 h5) <| pc (k_palingref15_Place h7) <| pc (h8) <| pc (h9) <| pc (h10) <| pc (h11) <| pc (h12) <| pc (k_palingref15_At h14) <| pc (h15) <| pc (h16) <| pc (k_palingref15_Place h18) <| pc (h19) <| pc (ob130 h21) <| pc (h22) <| pn)
                  · injection h with h; subst h; exact runLp_sound mixedOrders (live := [1, 2, 3]) (ids := [0]) (π := [.dec true, .row (c40 x4), .callv (.v (.bool r6)), .dec false, .dec false, .dec false, .dec false, .dec false, .callv (.v (.int .i64 r13)), .dec false, .dec false]) (hx := by kernel_rfl) (hps := pc (h3) <| pc (ob40 h5) <| pc (k_palingref15_Place h7) <| pc (h8) <| pc (h9) <| pc (h10) <| pc (h11) <| pc (h12) <| pc (k_palingref15_At h14) <| pc (h15) <| pc (h16) <| pn)
    · injection h with h; subst h; exact runLp_sound mixedOrders (live := [1, 2]) (ids := [0]) (π := [.dec false]) (hx := by kernel_rfl) (hps := pc (h3) <| pn)
  · rcases r with _ | _ <;> exact Ex.noConfusion

theorem k_palingref15_domains_L3 {a1 : Api_Net} {v25 : Int} {x27 : Api_Domain} : LoopOK Try.prog UU 0 120 (subC (codeOf Try.f63) [1, 1, 0, 1, 0, 0, 1, 0, 0, 1, 1, 0, 0]) (ρ := Unit ⊕ Unit) (palingref15_domains_L3 a1 v25 x27)
    (fun v29 : Int => ([(1, .op 0 1 0 0), (2, .v (.bool false)), (5, .v (.int .i64 v25)), (6, .op 1 1 0 0), (7, .v (.int .i64 v29))] : Fr DD)) (fun v29 : Int => ([.box 31 (c31 a1) false, .box 40 (c40 x27) false] : Heap DD)) (fun r => match r with | Sum.inl _ => .ret | Sum.inr _ => .exit 4) (fun r => match r with | Sum.inl _ => [(2, .v (.bool false))] | Sum.inr _ => [(1, .op 0 1 0 0), (2, .v (.bool false)), (5, .v (.int .i64 v25))]) (fun r => match r with | Sum.inl _ => [] | Sum.inr _ => [.box 31 (c31 a1) false]) := by
  refine loop_sound3 (fun s q h => ?_) (fun r => ?_)
  · replace h : palingref15_domains_L3 a1 v25 x27 s = some q := h; revert h; revert s; intro v29 h
    unfold palingref15_domains_L3 at h
    rcases ite_out h with ⟨h30, h⟩ | ⟨h30, h⟩
    · obtain ⟨x31, h32, h⟩ := bind_out h
      obtain ⟨r33, h34, h⟩ := bind_out h
      rcases ite_out h with ⟨h35, h⟩ | ⟨h35, h⟩
      · injection h with h; subst h; exact runLp_sound mixedOrders (live := [2]) (ids := []) (π := [.dec true, .row (c3 x31), .callv (.v (.bool r33)), .dec true]) (hx := by kernel_rfl) (hps := pc (h30) <| pc (ob3 h32) <| pc (k_palingref15_peer h34) <| pc (h35) <| pn)
      · rcases ite_out h with ⟨h36, h⟩ | ⟨h36, h⟩
        · obtain ⟨x37, h38, h⟩ := bind_out h
          obtain ⟨r39, h40, h⟩ := bind_out h
          rcases ite_out h with ⟨h41, h⟩ | ⟨h41, h⟩
          · injection h with h; subst h; exact runLp_sound mixedOrders (live := [2]) (ids := []) (π := [.dec true, .row (c3 x31), .callv (.v (.bool r33)), .dec false, .row (c3 x37), .callv (.v (.bool r39)), .dec true]) (hx := by kernel_rfl) (hps := pc (h30) <| pc (ob3 h32) <| pc (k_palingref15_peer h34) <| pc (h35) <| pc (sl_ob h36) <| pc (ob3 h38) <| pc (k_palingref15_In h40) <| pc (h41) <| pn)
          · injection h with h; subst h; exact runLp_sound mixedOrders (live := [1, 2, 5, 6, 7]) (ids := [0, 1]) (π := [.dec true, .row (c3 x31), .callv (.v (.bool r33)), .dec false, .row (c3 x37), .callv (.v (.bool r39)), .dec false]) (hx := by kernel_rfl) (hps := pc (h30) <| pc (ob3 h32) <| pc (k_palingref15_peer h34) <| pc (h35) <| pc (sl_ob h36) <| pc (ob3 h38) <| pc (k_palingref15_In h40) <| pc (h41) <| pn)
        · cases h
    · injection h with h; subst h; exact runLp_sound mixedOrders (live := [1, 2, 5]) (ids := [0]) (π := [.dec false]) (hx := by kernel_rfl) (hps := pc (h30) <| pn)
  · rcases r with _ | _ <;> exact Ex.noConfusion

theorem k_palingref15_domains_L2 {a1 : Api_Net} : LoopOK Try.prog UU 0 120 (subC (codeOf Try.f63) [1, 1, 0, 1, 0, 0]) (ρ := Unit ⊕ Unit) (palingref15_domains_L2 a1)
    (fun v25 : Int => ([(1, .op 0 1 0 0), (2, .v (.bool false)), (5, .v (.int .i64 v25))] : Fr DD)) (fun v25 : Int => ([.box 31 (c31 a1) false] : Heap DD)) (fun r => match r with | Sum.inl _ => .ret | Sum.inr _ => .exit 2) (fun r => match r with | Sum.inl _ => [(2, .v (.bool false))] | Sum.inr _ => [(2, .v (.bool false))]) (fun r => match r with | Sum.inl _ => [] | Sum.inr _ => []) := by
  refine loop_sound3 (fun s q h => ?_) (fun r => ?_)
  · replace h : palingref15_domains_L2 a1 s = some q := h; revert h; revert s; intro v25 h
    unfold palingref15_domains_L2 at h
    rcases ite_out h with ⟨h26, h⟩ | ⟨h26, h⟩
    · obtain ⟨x27, h28, h⟩ := bind_out h
      obtain ⟨r43, h42, h⟩ := bind_out h
      rcases r43 with _ | _
      · injection h with h; subst h; exact runLp_sound mixedOrders (live := [2]) (ids := []) (π := [.dec true, .row (c40 x27), .sum [1, 2, 5, 6, 7] [0, 2] .ret [(2, .v (.bool false))] []]) (hx := by kernel_rfl) (hps := pc (h26) <| pc (ob40 h28) <| pc (k_palingref15_domains_L3 _ _ h42) <| pn)
      · injection h with h; subst h; exact runLp_sound mixedOrders (live := [1, 2, 5]) (ids := [0]) (π := [.dec true, .row (c40 x27), .sum [1, 2, 5, 6, 7] [0, 2] (.exit 4) [(1, .op 0 1 0 0), (2, .v (.bool false)), (5, .v (.int .i64 v25))] [.box 31 (c31 a1) false]]) (hx := by kernel_rfl) (hps := pc (h26) <| pc (ob40 h28) <| pc (k_palingref15_domains_L3 _ _ h42) <| pn)
    · injection h with h; subst h; exact runLp_sound mixedOrders (live := [2]) (ids := []) (π := [.dec false]) (hx := by kernel_rfl) (hps := pc (h26) <| pn)
  · rcases r with _ | _ <;> exact Ex.noConfusion

theorem k_palingref15_domains {a1 : Api_Net} {r : Bool} (h : palingref15_domains a1 = some r) :
    CallsOK Try.prog UU 63 [.agg (c31 a1)] [] (.v (.bool r)) [] := by
  unfold palingref15_domains at h
  obtain ⟨r24, h23, h⟩ := bind_out h
  rcases r24 with _ | _
  · injection h with h; subst h; exact runFn_sound mixedOrders Try.func63 rfl (keep := none) (π := [.sum [1, 2, 3] [0] .ret [(2, .v (.bool false))] []]) (hrun := by kernel_rfl) (hps := pc (k_palingref15_domains_L1 _ _ h23) <| pn)
  · obtain ⟨r45, h44, h⟩ := bind_out h
    rcases r45 with _ | _
    · injection h with h; subst h; exact runFn_sound mixedOrders Try.func63 rfl (keep := none) (π := [.sum [1, 2, 3] [0] (.exit 0) [(1, .op 0 1 0 0), (2, .v (.bool false))] [.box 31 (c31 a1) false], .sum [1, 2, 5] [0] .ret [(2, .v (.bool false))] []]) (hrun := by kernel_rfl) (hps := pc (k_palingref15_domains_L1 _ _ h23) <| pc (k_palingref15_domains_L2 _ _ h44) <| pn)
    · injection h with h; subst h; exact runFn_sound mixedOrders Try.func63 rfl (keep := none) (π := [.sum [1, 2, 3] [0] (.exit 0) [(1, .op 0 1 0 0), (2, .v (.bool false))] [.box 31 (c31 a1) false], .sum [1, 2, 5] [0] (.exit 2) [(2, .v (.bool false))] []]) (hrun := by kernel_rfl) (hps := pc (k_palingref15_domains_L1 _ _ h23) <| pc (k_palingref15_domains_L2 _ _ h44) <| pn)

theorem k_palingref03_Rising_L1 {a1 : List Int} {a2 : Int} {a3 : Int} : LoopOK Try.prog UU 0 52 (subC (codeOf Try.f154) [1, 1, 0, 1, 0, 0]) (ρ := Unit ⊕ Unit) (palingref03_Rising_L1 a1 a2 a3)
    (fun v6 : Int => ([(0, .sl 3 a1), (1, .v (.int .i64 a2)), (2, .v (.int .i64 a3)), (6, .v (.bool false)), (7, .v (.int .i64 v6))] : Fr DD)) (fun v6 : Int => ([] : Heap DD)) (fun r => match r with | Sum.inl _ => .ret | Sum.inr _ => .exit 0) (fun r => match r with | Sum.inl _ => [(6, .v (.bool false))] | Sum.inr _ => [(6, .v (.bool false))]) (fun r => match r with | Sum.inl _ => [] | Sum.inr _ => []) := by
  refine loop_sound3 (fun s q h => ?_) (fun r => ?_)
  · replace h : palingref03_Rising_L1 a1 a2 a3 s = some q := h; revert h; revert s; intro v6 h
    unfold palingref03_Rising_L1 at h
    rcases ite_out h with ⟨h7, h⟩ | ⟨h7, h⟩
    · obtain ⟨x8, h9, h⟩ := bind_out h
      rcases ite_out h with ⟨h10, h⟩ | ⟨h10, h⟩
      · injection h with h; subst h; exact runLp_sound mixedOrders (live := [6]) (ids := []) (π := [.dec true, .row (c3 x8), .dec true]) (hx := by kernel_rfl) (hps := pc (h7) <| pc (ob3 h9) <| pc (h10) <| pn)
      · obtain ⟨x11, h12, h⟩ := bind_out h
        rcases ite_out h with ⟨h13, h⟩ | ⟨h13, h⟩
        · injection h with h; subst h; exact runLp_sound mixedOrders (live := [6]) (ids := []) (π := [.dec true, .row (c3 x8), .dec false, .row (c3 x11), .dec true]) (hx := by kernel_rfl) (hps := pc (h7) <| pc (ob3 h9) <| pc (h10) <| pc (ob3 h12) <| pc (h13) <| pn)
        · rcases ite_out h with ⟨h14, h⟩ | ⟨h14, h⟩
          · obtain ⟨x15, h16, h⟩ := bind_out h
            obtain ⟨x17, h18, h⟩ := bind_out h
            rcases ite_out h with ⟨h19, h⟩ | ⟨h19, h⟩
            · injection h with h; subst h; exact runLp_sound mixedOrders (live := [6]) (ids := []) (π := [.dec true, .row (c3 x8), .dec false, .row (c3 x11), .dec false, .dec true, .row (c3 x15), .row (c3 x17), .dec true]) (hx := by kernel_rfl) (hps := pc (h7) <| pc (ob3 h9) <| pc (h10) <| pc (ob3 h12) <| pc (h13) <| pc (h14) <| pc (ob3 h16) <| pc (ob3 h18) <| pc (h19) <| pn)
            · injection h with h; subst h; exact runLp_sound mixedOrders (live := [0, 1, 2, 6, 7]) (ids := []) (π := [.dec true, .row (c3 x8), .dec false, .row (c3 x11), .dec false, .dec true, .row (c3 x15), .row (c3 x17), .dec false]) (hx := by kernel_rfl) (hps := pc (h7) <| pc (ob3 h9) <| pc (h10) <| pc (ob3 h12) <| pc (h13) <| pc (h14) <| pc (ob3 h16) <| pc (ob3 h18) <| pc (h19) <| pn)
          · injection h with h; subst h; exact runLp_sound mixedOrders (live := [0, 1, 2, 6, 7]) (ids := []) (π := [.dec true, .row (c3 x8), .dec false, .row (c3 x11), .dec false, .dec false]) (hx := by kernel_rfl) (hps := pc (h7) <| pc (ob3 h9) <| pc (h10) <| pc (ob3 h12) <| pc (h13) <| pc (h14) <| pn)
    · injection h with h; subst h; exact runLp_sound mixedOrders (live := [6]) (ids := []) (π := [.dec false]) (hx := by kernel_rfl) (hps := pc (h7) <| pn)
  · rcases r with _ | _ <;> exact Ex.noConfusion

theorem k_palingref03_Rising {a1 : List Int} {a2 : Int} {a3 : Int} {r : Bool} (h : palingref03_Rising a1 a2 a3 = some r) :
    CallsOK Try.prog UU 154 [.sl 3 a1, .v (.int .i64 a2), .v (.int .i64 a3)] [] (.v (.bool r)) [] := by
  unfold palingref03_Rising at h
  rcases ite_out h with ⟨h4, h⟩ | ⟨h4, h⟩
  · injection h with h; subst h; exact runFn_sound mixedOrders Try.func154 rfl (keep := none) (π := [.dec true]) (hrun := by kernel_rfl) (hps := pc (h4) <| pn)
  · rcases ite_out h with ⟨h5, h⟩ | ⟨h5, h⟩
    · injection h with h; subst h; exact runFn_sound mixedOrders Try.func154 rfl (keep := none) (π := [.dec false, .dec true]) (hrun := by kernel_rfl) (hps := pc (h4) <| pc (h5) <| pn)
    · obtain ⟨r21, h20, h⟩ := bind_out h
      rcases r21 with _ | _
      · injection h with h; subst h; exact runFn_sound mixedOrders Try.func154 rfl (keep := none) (π := [.dec false, .dec false, .sum [0, 1, 2, 6, 7] [] .ret [(6, .v (.bool false))] []]) (hrun := by kernel_rfl) (hps := pc (h4) <| pc (h5) <| pc (k_palingref03_Rising_L1 _ _ h20) <| pn)
      · injection h with h; subst h; exact runFn_sound mixedOrders Try.func154 rfl (keep := none) (π := [.dec false, .dec false, .sum [0, 1, 2, 6, 7] [] (.exit 0) [(6, .v (.bool false))] []]) (hrun := by kernel_rfl) (hps := pc (h4) <| pc (h5) <| pc (k_palingref03_Rising_L1 _ _ h20) <| pn)

theorem k_palingref15_rising {a1 : List Int} {a2 : Int} {r : Bool} (h : palingref15_rising a1 a2 = some r) :
    CallsOK Try.prog UU 122 [.sl 3 a1, .v (.int .i64 a2)] [] (.v (.bool r)) [] := by
  unfold palingref15_rising at h
  rcases ite_out h with ⟨h3, h⟩ | ⟨h3, h⟩
  · injection h with h; subst h; exact runFn_sound mixedOrders Try.func122 rfl (keep := none) (π := [.dec true]) (hrun := by kernel_rfl) (hps := pc (h3) <| pn)
  · obtain ⟨r4, h5, h⟩ := bind_out h
    injection h with h; subst h; exact runFn_sound mixedOrders Try.func122 rfl (keep := none) (π := [.dec false, .callv (.v (.bool r4))]) (hrun := by kernel_rfl) (hps := pc (h3) <| pc (k_palingref03_Rising h5) <| pn)

theorem k_palingref15_ports_J2 {a1 : Api_Net} {v2 : Int} {x4 : Api_Port} {r : Unit ⊕ Unit} (h : palingref15_ports_J2 a1 v2 x4 = some r) :
    ExecOK Try.prog UU 0 120 (subC (codeOf Try.f64) [1, 0, 1, 0, 0, 1, 0, 0, 1, 1, 0]) [(1, .op 0 1 0 0), (2, .v (.bool false)), (3, .v (.int .i64 v2)), (4, .op 1 1 0 0)] [.box 31 (c31 a1) false, .box 60 (c60 x4) false] ((fun r => match r with | Sum.inl _ => .ret | Sum.inr _ => .nor) r) ((fun r => match r with | Sum.inl _ => [(2, .v (.bool false))] | Sum.inr _ => [(1, .op 0 1 0 0), (2, .v (.bool false)), (3, .v (.int .i64 v2)), (4, .op 1 1 0 0)]) r) ((fun r => match r with | Sum.inl _ => [] | Sum.inr _ => [.box 31 (c31 a1) false, .box 60 (c60 x4) false]) r) := by
  unfold palingref15_ports_J2 at h
  rcases ite_out h with ⟨h17, h⟩ | ⟨h17, h⟩
  · rcases ite_out h with ⟨h18, h⟩ | ⟨h18, h⟩
    · injection h with h; subst h; exact runLp_sound mixedOrders (live := [2]) (ids := []) (π := [.dec true, .dec true]) (hx := by kernel_rfl) (hps := pc (h17) <| pc (h18) <| pn)
    · rcases ite_out h with ⟨h19, h⟩ | ⟨h19, h⟩
      · obtain ⟨r20, h21, h⟩ := bind_out h
        rcases ite_out h with ⟨h22, h⟩ | ⟨h22, h⟩
        · injection h with h; subst h; exact runLp_sound mixedOrders (live := [2]) (ids := []) (π := [.dec true, .dec false, .dec true, .callv (.v (.int .i64 r20)), .dec true]) (hx := by kernel_rfl) (hps := pc (h17) <| pc (h18) <| pc (h19) <| pc (k_palingref15_At h21) <| pc (h22) <| pn)
        · injection h with h; subst h; exact runLp_sound mixedOrders (live := [1, 2, 3, 4]) (ids := [0, 1]) (π := [.dec true, .dec false, .dec true, .callv (.v (.int .i64 r20)), .dec false]) (hx := by kernel_rfl) (hps := pc (h17) <| pc (h18) <| pc (h19) <| pc (k_palingref15_At h21) <| pc (h22) <| pn)
      · injection h with h; subst h; exact runLp_sound mixedOrders (live := [1, 2, 3, 4]) (ids := [0, 1]) (π := [.dec true, .dec false, .dec false]) (hx := by kernel_rfl) (hps := pc (h17) <| pc (h18) <| pc (h19) <| pn)
  · rcases ite_out h with ⟨h23, h⟩ | ⟨h23, h⟩
    · obtain ⟨r24, h25, h⟩ := bind_out h
      rcases ite_out h with ⟨h26, h⟩ | ⟨h26, h⟩
      · injection h with h; subst h; exact runLp_sound mixedOrders (live := [2]) (ids := []) (π := [.dec false, .dec true, .callv (.v (.int .i64 r24)), .dec true]) (hx := by kernel_rfl) (hps := pc (h17) <| pc (h23) <| pc (k_palingref15_At h25) <| pc (h26) <| pn)
      · injection h with h; subst h; exact runLp_sound mixedOrders (live := [1, 2, 3, 4]) (ids := [0, 1]) (π := [.dec false, .dec true, .callv (.v (.int .i64 r24)), .dec false]) (hx := by kernel_rfl) (hps := pc (h17) <| pc (h23) <| pc (k_palingref15_At h25) <| pc (h26) <| pn)
    · injection h with h; subst h; exact runLp_sound mixedOrders (live := [1, 2, 3, 4]) (ids := [0, 1]) (π := [.dec false, .dec false]) (hx := by kernel_rfl) (hps := pc (h17) <| pc (h23) <| pn)

theorem k_palingref15_ports_L3 {a1 : Api_Net} {v2 : Int} {x4 : Api_Port} : LoopOK Try.prog UU 0 120 (subC (codeOf Try.f64) [1, 0, 1, 0, 0, 1, 0, 0, 1, 1, 1, 0, 1, 0, 0]) (ρ := Unit ⊕ Unit) (palingref15_ports_L3 a1 v2 x4)
    (fun v29 : Int => ([(1, .op 0 1 0 0), (2, .v (.bool false)), (3, .v (.int .i64 v2)), (4, .op 1 1 0 0), (5, .v (.int .i64 v29))] : Fr DD)) (fun v29 : Int => ([.box 31 (c31 a1) false, .box 60 (c60 x4) false] : Heap DD)) (fun r => match r with | Sum.inl _ => .ret | Sum.inr _ => .exit 2) (fun r => match r with | Sum.inl _ => [(2, .v (.bool false))] | Sum.inr _ => [(1, .op 0 1 0 0), (2, .v (.bool false)), (3, .v (.int .i64 v2)), (4, .op 1 1 0 0)]) (fun r => match r with | Sum.inl _ => [] | Sum.inr _ => [.box 31 (c31 a1) false, .box 60 (c60 x4) false]) := by
  refine loop_sound3 (fun s q h => ?_) (fun r => ?_)
  · replace h : palingref15_ports_L3 a1 v2 x4 s = some q := h; revert h; revert s; intro v29 h
    unfold palingref15_ports_L3 at h
    rcases ite_out h with ⟨h30, h⟩ | ⟨h30, h⟩
    · obtain ⟨x31, h32, h⟩ := bind_out h
      obtain ⟨r33, h34, h⟩ := bind_out h
      rcases ite_out h with ⟨h35, h⟩ | ⟨h35, h⟩
      · injection h with h; subst h; exact runLp_sound mixedOrders (live := [2]) (ids := []) (π := [.dec true, .row (c3 x31), .callv (.v (.int .i64 r33)), .dec true]) (hx := by kernel_rfl) (hps := pc (h30) <| pc (ob3 h32) <| pc (k_palingref15_At h34) <| pc (h35) <| pn)
      · injection h with h; subst h; exact runLp_sound mixedOrders (live := [1, 2, 3, 4, 5]) (ids := [0, 1]) (π := [.dec true, .row (c3 x31), .callv (.v (.int .i64 r33)), .dec false]) (hx := by kernel_rfl) (hps := pc (h30) <| pc (ob3 h32) <| pc (k_palingref15_At h34) <| pc (h35) <| pn)
    · injection h with h; subst h; exact runLp_sound mixedOrders (live := [1, 2, 3, 4]) (ids := [0, 1]) (π := [.dec false]) (hx := by kernel_rfl) (hps := pc (h30) <| pn)
  · rcases r with _ | _ <;> exact Ex.noConfusion

theorem k_palingref15_ports_L1 {a1 : Api_Net} : LoopOK Try.prog UU 0 120 (subC (codeOf Try.f64) [1, 0, 1, 0, 0]) (ρ := Unit ⊕ Unit) (palingref15_ports_L1 a1)
    (fun v2 : Int => ([(1, .op 0 1 0 0), (2, .v (.bool false)), (3, .v (.int .i64 v2))] : Fr DD)) (fun v2 : Int => ([.box 31 (c31 a1) false] : Heap DD)) (fun r => match r with | Sum.inl _ => .ret | Sum.inr _ => .exit 0) (fun r => match r with | Sum.inl _ => [(2, .v (.bool false))] | Sum.inr _ => [(2, .v (.bool false))]) (fun r => match r with | Sum.inl _ => [] | Sum.inr _ => []) := by
  refine loop_sound3 (fun s q h => ?_) (fun r => ?_)
  · replace h : palingref15_ports_L1 a1 s = some q := h; revert h; revert s; intro v2 h
    unfold palingref15_ports_L1 at h
    rcases ite_out h with ⟨h3, h⟩ | ⟨h3, h⟩
    · obtain ⟨x4, h5, h⟩ := bind_out h
      obtain ⟨r6, h7, h⟩ := bind_out h
      rcases ite_out h with ⟨h8, h⟩ | ⟨h8, h⟩
      · injection h with h; subst h; exact runLp_sound mixedOrders (live := [2]) (ids := []) (π := [.dec true, .row (c60 x4), .callv (.v (.bool r6)), .dec true]) (hx := by kernel_rfl) (hps := pc (h3) <| pc (ob60 h5) <| pc (k_palingref15_Place h7) <| pc (h8) <| pn)
      · rcases ite_out h with ⟨h9, h⟩ | ⟨h9, h⟩
        · injection h with h; subst h; exact runLp_sound mixedOrders (live := [2]) (ids := []) (π := [.dec true, .row (c60 x4), .callv (.v (.bool r6)), .dec false, .dec true]) (hx := by kernel_rfl) (hps := pc (h3) <| pc (ob60 h5) <| pc (k_palingref15_Place h7) <| pc (h8) <| pc (h9) <| pn)
        · rcases ite_out h with ⟨h10, h⟩ | ⟨h10, h⟩
          · injection h with h; subst h; exact runLp_sound mixedOrders (live := [2]) (ids := []) (π := [.dec true, .row (c60 x4), .callv (.v (.bool r6)), .dec false, .dec false, .dec true]) (hx := by kernel_rfl) (hps := pc (h3) <| pc (ob60 h5) <| pc (k_palingref15_Place h7) <| pc (h8) <| pc (h9) <| pc (h10) <| pn)
          · obtain ⟨r11, h12, h⟩ := bind_out h
            rcases ite_out h with ⟨h13, h⟩ | ⟨h13, h⟩
            · injection h with h; subst h; exact runLp_sound mixedOrders (live := [2]) (ids := []) (π := [.dec true, .row (c60 x4), .callv (.v (.bool r6)), .dec false, .dec false, .dec false, .callv (.v (.bool r11)), .dec true]) (hx := by kernel_rfl) (hps := pc (h3) <| pc (ob60 h5) <| pc (k_palingref15_Place h7) <| pc (h8) <| pc (h9) <| pc (h10) <| pc (k_palingref15_rising h12) <| pc (h13) <| pn)
            · obtain ⟨r14, h15, h⟩ := bind_out h
              rcases ite_out h with ⟨h16, h⟩ | ⟨h16, h⟩
              · injection h with h; subst h; exact runLp_sound mixedOrders (live := [2]) (ids := []) (π := [.dec true, .row (c60 x4), .callv (.v (.bool r6)), .dec false, .dec false, .dec false, .callv (.v (.bool r11)), .dec false, .callv (.v (.bool r14)), .dec true]) (hx := by kernel_rfl) (hps := pc (h3) <| pc (ob60 h5) <| pc (k_palingref15_Place h7) <| pc (h8) <| pc (h9) <| pc (h10) <| pc (k_palingref15_rising h12) <| pc (h13) <| pc (k_palingref15_In h15) <| pc (h16) <| pn)
              · obtain ⟨r28, h27, h⟩ := bind_out h
                rcases r28 with _ | _
                · injection h with h; subst h; exact runLp_sound mixedOrders (live := [2]) (ids := []) (π := [.dec true, .row (c60 x4), .callv (.v (.bool r6)), .dec false, .dec false, .dec false, .callv (.v (.bool r11)), .dec false, .callv (.v (.bool r14)), .dec false, .cut [1, 2, 3, 4] [0, 2] .ret [(2, .v (.bool false))] []]) (hx := by kernel_rfl) (hps := pc (h3) <| pc (ob60 h5) <| pc (k_palingref15_Place h7) <| pc (h8) <| pc (h9) <| pc (h10) <| pc (k_palingref15_rising h12) <| pc (h13) <| pc (k_palingref15_In h15) <| pc (h16) <| pc (k_palingref15_ports_J2 h27) <| pn)
                · obtain ⟨r37, h36, h⟩ := bind_out h
                  rcases r37 with _ | _
                  · injection h with h; subst h; exact runLp_sound mixedOrders (live := [2]) (ids := []) (π := [.dec true, .row (c60 x4), .callv (.v (.bool r6)), .dec false, .dec false, .dec false, .callv (.v (.bool r11)), .dec false, .callv (.v (.bool r14)), .dec false, .cut [1, 2, 3, 4] [0, 2] .nor [(1, .op 0 1 0 0), (2, .v (.bool false)), (3, .v (.int .i64 v2)), (4, .op 1 1 0 0)] [.box 31 (c31 a1) false, .box 60 (c60 x4) false], .sum [1, 2, 3, 4, 5] [0, 1] .ret [(2, .v (.bool false))] []]) (hx := by kernel_rfl) (hps := pc (h3) <| pc (ob60 h5) <| pc (k_palingref15_Place h7) <| pc (h8) <| pc (h9) <| pc (h10) <| pc (k_palingref15_rising h12) <| pc (h13) <| pc (k_palingref15_In h15) <| pc (h16) <| pc (k_palingref15_ports_J2 h27) <| pc (k_palingref15_ports_L3 _ _ h36) <| pn)
                  · rcases ite_out h with ⟨h38, h⟩ | ⟨h38, h⟩
                    · injection h with h; subst h; exact runLp_sound mixedOrders (live := [1, 2, 3]) (ids := [0]) (π := [.dec true, .row (c60 x4), .callv (.v (.bool r6)), .dec false, .dec false, .dec false, .callv (.v (.bool r11)), .dec false, .callv (.v (.bool r14)), .dec false, .cut [1, 2, 3, 4] [0, 2] .nor [(1, .op 0 1 0 0), (2, .v (.bool false)), (3, .v (.int .i64 v2)), (4, .op 1 1 0 0)] [.box 31 (c31 a1) false, .box 60 (c60 x4) false], .sum [1, 2, 3, 4, 5] [0, 1] (.exit 2) [(1, .op 0 1 0 0), (2, .v (.bool false)), (3, .v (.int .i64 v2)), (4, .op 1 1 0 0)] [.box 31 (c31 a1) false, .box 60 (c60 x4) false], .dec true]) (hx := by kernel_rfl) (hps := pc (h3) <| pc (ob60 h5) <| pc (k_palingref15_Place h7) <| pc (h8) <| pc (h9) <| pc (h10) <| pc (k_palingref15_rising h12) <| pc (h13) <| pc (k_palingref15_In h15) <| pc (h16) <| pc (k_palingref15_ports_J2 h27) <| pc (k_palingref15_ports_L3 _ _ h36) <| pc (h38) <| pn)
                    · obtain ⟨r39, h40, h⟩ := bind_out h
                      rcases ite_out h with ⟨h41, h⟩ | ⟨h41, h⟩
                      · injection h with h; subst h; exact runLp_sound mixedOrders (live := [2]) (ids := []) (π := [.dec true, .row (c60 x4), .callv (.v (.bool r6)), .dec false, .dec false, .dec false, .callv (.v (.bool r11)), .dec false, .callv (.v (.bool r14)), .dec false, .cut [1, 2, 3, 4] [0, 2] .nor [(1, .op 0 1 0 0), (2, .v (.bool false)), (3, .v (.int .i64 v2)), (4, .op 1 1 0 0)] [.box 31 (c31 a1) false, .box 60 (c60 x4) false], .sum [1, 2, 3, 4, 5] [0, 1] (.exit 2) [(1, .op 0 1 0 0), (2, .v (.bool false)), (3, .v (.int .i64 v2)), (4, .op 1 1 0 0)] [.box 31 (c31 a1) false, .box 60 (c60 x4) false], .dec false, .callv (.v (.bool r39)), .dec true]) (hx := by kernel_rfl) (hps := pc (h3) <| pc (ob60 h5) <| pc (k_palingref15_Place h7) <| pc (h8) <| pc (h9) <| pc (h10) <| pc (k_palingref15_rising h12) <| pc (h13) <| pc (k_palingref15_In h15) <| pc (h16) <| pc (k_palingref15_ports_J2 h27) <| pc (k_palingref15_ports_L3 _ _ h36) <| pc (h38) <| pc (k_palingref15_Place h40) <| pc (h41) <| pn)
                      · obtain ⟨x42, h43, h⟩ := bind_out h
                        rcases ite_out h with ⟨h44, h⟩ | ⟨h44, h⟩
                        · obtain ⟨x45, h46, h⟩ := bind_out h
                          rcases ite_out h with ⟨h47, h⟩ | ⟨h47, h⟩
                          · injection h with h; subst h; exact runLp_sound mixedOrders (live := [2]) (ids := []) (π := [.dec true, .row (c60 x4), .callv (.v (.bool r6)), .dec false, .dec false, .dec false, .callv (.v (.bool r11)), .dec false, .callv (.v (.bool r14)), .dec false, .cut [1, 2, 3, 4] [0, 2] .nor [(1, .op 0 1 0 0), (2, .v (.bool false)), (3, .v (.int .i64 v2)), (4, .op 1 1 0 0)] [.box 31 (c31 a1) false, .box 60 (c60 x4) false], .sum [1, 2, 3, 4, 5] [0, 1] (.exit 2) [(1, .op 0 1 0 0), (2, .v (.bool false)), (3, .v (.int .i64 v2)), (4, .op 1 1 0 0)] [.box 31 (c31 a1) false, .box 60 (c60 x4) false], .dec false, .callv (.v (.bool r39)), .dec false, .row (c98 x42), .dec true, .row (c98 x45), .dec true]) (hx := by kernel_rfl) (hps := pc (h3) <| pc (ob60 h5) <| pc (k_palingref15_Place h7) <| pc (h8) <| pc (h9) <| pc (h10) <| pc (k_palingref15_rising h12) <| pc (h13) <| pc (k_palingref15_In h15) <| pc (h16) <| pc (k_palingref15_ports_J2 h27) <| pc (k_palingref15_ports_L3 _ _ h36) <| pc (h38) <| pc (k_palingref15_Place h40) <| pc (h41) <| pc (ob98 h43) <| pc (h44) <| pc (ob98 h46) <| pc (h47) <| pn)
                          · injection h with h; subst h; exact runLp_sound mixedOrders (live := [1, 2, 3]) (ids := [0]) (π := [.dec true, .row (c60 x4), .callv (.v (.bool r6)), .dec false, .dec false, .dec false, .callv (.v (.bool r11)), .dec false, .callv (.v (.bool r14)), .dec false, .cut [1, 2, 3, 4] [0, 2] .nor [(1, .op 0 1 0 0), (2, .v (.bool false)), (3, .v (.int .i64 v2)), (4, .op 1 1 0 0)] [.box 31 (c31 a1) false, .box 60 (c60 x4) false], .sum [1, 2, 3, 4, 5] [0, 1] (.exit 2) [(1, .op 0 1 0 0), (2, .v (.bool false)), (3, .v (.int .i64 v2)), (4, .op 1 1 0 0)] [.box 31 (c31 a1) false, .box 60 (c60 x4) false], .dec false, .callv (.v (.bool r39)), .dec false, .row (c98 x42), .dec true, .row (c98 x45), .dec false]) (hx := by kernel_rfl) (hps := pc (h3) <| pc (ob60 h5) <| pc (k_palingref15_Place h7) <| pc (h8) <| pc (h9) <| pc (h10) <| pc (k_palingref15_rising h12) <| pc (h13) <| pc (k_palingref15_In h15) <| pc (h16) <| pc (k_palingref15_ports_J2 h27) <| pc (k_palingref15_ports_L3 _ _ h36) <| pc (h38) <| pc (k_palingref15_Place h40) <| pc (h41) <| pc (ob98 h43) <| pc (h44) <| pc (ob98 h46) <| pc (h47) <| pn)
                        · injection h with h; subst h; exact runLp_sound mixedOrders (live := [1, 2, 3]) (ids := [0]) (π := [.dec true, .row (c60 x4), .callv (.v (.bool r6)), .dec false, .dec false, .dec false, .callv (.v (.bool r11)), .dec false, .callv (.v (.bool r14)), .dec false, .cut [1, 2, 3, 4] [0, 2] .nor [(1, .op 0 1 0 0), (2, .v (.bool false)), (3, .v (.int .i64 v2)), (4, .op 1 1 0 0)] [.box 31 (c31 a1) false, .box 60 (c60 x4) false], .sum [1, 2, 3, 4, 5] [0, 1] (.exit 2) [(1, .op 0 1 0 0), (2, .v (.bool false)), (3, .v (.int .i64 v2)), (4, .op 1 1 0 0)] [.box 31 (c31 a1) false, .box 60 (c60 x4) false], .dec false, .callv (.v (.bool r39)), .dec false, .row (c98 x42), .dec false]) (hx := by kernel_rfl) (hps := pc (h3) <| pc (ob60 h5) <| pc (k_palingref15_Place h7) <| pc (h8) <| pc (h9) <| pc (h10) <| pc (k_palingref15_rising h12) <| pc (h13) <| pc (k_palingref15_In h15) <| pc (h16) <| pc (k_palingref15_ports_J2 h27) <| pc (k_palingref15_ports_L3 _ _ h36) <| pc (h38) <| pc (k_palingref15_Place h40) <| pc (h41) <| pc (ob98 h43) <| pc (h44) <| pn)
    · injection h with h; subst h; exact runLp_sound mixedOrders (live := [2]) (ids := []) (π := [.dec false]) (hx := by kernel_rfl) (hps := pc (h3) <| pn)
  · rcases r with _ | _ <;> exact Ex.noConfusion

theorem k_palingref15_ports {a1 : Api_Net} {r : Bool} (h : palingref15_ports a1 = some r) :
    CallsOK Try.prog UU 64 [.agg (c31 a1)] [] (.v (.bool r)) [] := by
  unfold palingref15_ports at h
  obtain ⟨r49, h48, h⟩ := bind_out h
  rcases r49 with _ | _
  · injection h with h; subst h; exact runFn_sound mixedOrders Try.func64 rfl (keep := none) (π := [.sum [1, 2, 3] [0] .ret [(2, .v (.bool false))] []]) (hrun := by kernel_rfl) (hps := pc (k_palingref15_ports_L1 _ _ h48) <| pn)
  · injection h with h; subst h; exact runFn_sound mixedOrders Try.func64 rfl (keep := none) (π := [.sum [1, 2, 3] [0] (.exit 0) [(2, .v (.bool false))] []]) (hrun := by kernel_rfl) (hps := pc (k_palingref15_ports_L1 _ _ h48) <| pn)

theorem k_palingref15_links_L1 {a1 : Api_Net} : LoopOK Try.prog UU 0 70 (subC (codeOf Try.f65) [1, 0, 1, 0, 0]) (ρ := Unit ⊕ Unit) (palingref15_links_L1 a1)
    (fun v2 : Int => ([(1, .op 0 1 0 0), (2, .v (.bool false)), (3, .v (.int .i64 v2))] : Fr DD)) (fun v2 : Int => ([.box 31 (c31 a1) false] : Heap DD)) (fun r => match r with | Sum.inl _ => .ret | Sum.inr _ => .exit 0) (fun r => match r with | Sum.inl _ => [(2, .v (.bool false))] | Sum.inr _ => [(2, .v (.bool false))]) (fun r => match r with | Sum.inl _ => [] | Sum.inr _ => []) := by
  refine loop_sound3 (fun s q h => ?_) (fun r => ?_)
  · replace h : palingref15_links_L1 a1 s = some q := h; revert h; revert s; intro v2 h
    unfold palingref15_links_L1 at h
    rcases ite_out h with ⟨h3, h⟩ | ⟨h3, h⟩
    · obtain ⟨x4, h5, h⟩ := bind_out h
      obtain ⟨r6, h7, h⟩ := bind_out h
      rcases ite_out h with ⟨h8, h⟩ | ⟨h8, h⟩
      · injection h with h; subst h; exact runLp_sound mixedOrders (live := [2]) (ids := []) (π := [.dec true, .row (c98 x4), .callv (.v (.bool r6)), .dec true]) (hx := by kernel_rfl) (hps := pc (h3) <| pc (ob98 h5) <| pc (k_palingref15_Place h7) <| pc (h8) <| pn)
      · obtain ⟨r9, h10, h⟩ := bind_out h
        rcases ite_out h with ⟨h11, h⟩ | ⟨h11, h⟩
        · injection h with h; subst h; exact runLp_sound mixedOrders (live := [2]) (ids := []) (π := [.dec true, .row (c98 x4), .callv (.v (.bool r6)), .dec false, .callv (.v (.bool r9)), .dec true]) (hx := by kernel_rfl) (hps := pc (h3) <| pc (ob98 h5) <| pc (k_palingref15_Place h7) <| pc (h8) <| pc (k_palingref15_Place h10) <| pc (h11) <| pn)
        · obtain ⟨x12, h13, h⟩ := bind_out h
          obtain ⟨x14, h15, h⟩ := bind_out h
          rcases ite_out h with ⟨h16, h⟩ | ⟨h16, h⟩
          · injection h with h; subst h; exact runLp_sound mixedOrders (live := [2]) (ids := []) (π := [.dec true, .row (c98 x4), .callv (.v (.bool r6)), .dec false, .callv (.v (.bool r9)), .dec false, .row (c60 x12), .row (c60 x14), .dec true]) (hx := by kernel_rfl) (hps := pc (h3) <| pc (ob98 h5) <| pc (k_palingref15_Place h7) <| pc (h8) <| pc (k_palingref15_Place h10) <| pc (h11) <| pc (ob60 h13) <| pc (ob60 h15) <| pc (h16) <| pn)
          · obtain ⟨x17, h18, h⟩ := bind_out h
            rcases ite_out h with ⟨h19, h⟩ | ⟨h19, h⟩
            · injection h with h; subst h; exact runLp_sound mixedOrders (live := [2]) (ids := []) (π := [.dec true, .row (c98 x4), .callv (.v (.bool r6)), .dec false, .callv (.v (.bool r9)), .dec false, .row (c60 x12), .row (c60 x14), .dec false, .row (c60 x17), .dec true]) (hx := by kernel_rfl) (hps := pc (h3) <| pc (ob98 h5) <| pc (k_palingref15_Place h7) <| pc (h8) <| pc (k_palingref15_Place h10) <| pc (h11) <| pc (ob60 h13) <| pc (ob60 h15) <| pc (h16) <| pc (ob60 h18) <| pc (h19) <| pn)
            · obtain ⟨x20, h21, h⟩ := bind_out h
              rcases ite_out h with ⟨h22, h⟩ | ⟨h22, h⟩
              · injection h with h; subst h; exact runLp_sound mixedOrders (live := [2]) (ids := []) (π := [.dec true, .row (c98 x4), .callv (.v (.bool r6)), .dec false, .callv (.v (.bool r9)), .dec false, .row (c60 x12), .row (c60 x14), .dec false, .row (c60 x17), .dec false, .row (c60 x20), .dec true]) (hx := by kernel_rfl) (hps := pc (h3) <| pc (ob98 h5) <| pc (k_palingref15_Place h7) <| pc (h8) <| pc (k_palingref15_Place h10) <| pc (h11) <| pc (ob60 h13) <| pc (ob60 h15) <| pc (h16) <| pc (ob60 h18) <| pc (h19) <| pc (ob60 h21) <| pc (h22) <| pn)
              · injection h with h; subst h; exact runLp_sound mixedOrders (live := [1, 2, 3]) (ids := [0]) (π := [.dec true, .row (c98 x4), .callv (.v (.bool r6)), .dec false, .callv (.v (.bool r9)), .dec false, .row (c60 x12), .row (c60 x14), .dec false, .row (c60 x17), .dec false, .row (c60 x20), .dec false]) (hx := by kernel_rfl) (hps := pc (h3) <| pc (ob98 h5) <| pc (k_palingref15_Place h7) <| pc (h8) <| pc (k_palingref15_Place h10) <| pc (h11) <| pc (ob60 h13) <| pc (ob60 h15) <| pc (h16) <| pc (ob60 h18) <| pc (h19) <| pc (ob60 h21) <| pc (h22) <| pn)
    · injection h with h; subst h; exact runLp_sound mixedOrders (live := [2]) (ids := []) (π := [.dec false]) (hx := by kernel_rfl) (hps := pc (h3) <| pn)
  · rcases r with _ | _ <;> exact Ex.noConfusion

theorem k_palingref15_links {a1 : Api_Net} {r : Bool} (h : palingref15_links a1 = some r) :
    CallsOK Try.prog UU 65 [.agg (c31 a1)] [] (.v (.bool r)) [] := by
  unfold palingref15_links at h
  obtain ⟨r24, h23, h⟩ := bind_out h
  rcases r24 with _ | _
  · injection h with h; subst h; exact runFn_sound mixedOrders Try.func65 rfl (keep := none) (π := [.sum [1, 2, 3] [0] .ret [(2, .v (.bool false))] []]) (hrun := by kernel_rfl) (hps := pc (k_palingref15_links_L1 _ _ h23) <| pn)
  · injection h with h; subst h; exact runFn_sound mixedOrders Try.func65 rfl (keep := none) (π := [.sum [1, 2, 3] [0] (.exit 0) [(2, .v (.bool false))] []]) (hrun := by kernel_rfl) (hps := pc (k_palingref15_links_L1 _ _ h23) <| pn)

theorem k_palingref15_Member {a1 : Api_Port} {a2 : Int} {r : Bool} (h : palingref15_Member a1 a2 = some r) :
    CallsOK Try.prog UU 123 [.agg (c60 a1), .v (.int .i64 a2)] [] (.v (.bool r)) [] := by
  unfold palingref15_Member at h
  rcases ite_out h with ⟨h3, h⟩ | ⟨h3, h⟩
  · rcases ite_out h with ⟨h4, h⟩ | ⟨h4, h⟩
    · injection h with h; subst h; exact runFn_sound mixedOrders Try.func123 rfl (keep := none) (π := [.dec true, .dec true]) (hrun := by kernel_rfl) (hps := pc (h3) <| pc (h4) <| pn)
    · obtain ⟨r5, h6, h⟩ := bind_out h
      injection h with h; subst h; exact runFn_sound mixedOrders Try.func123 rfl (keep := none) (π := [.dec true, .dec false, .callv (.v (.bool r5))]) (hrun := by kernel_rfl) (hps := pc (h3) <| pc (h4) <| pc (k_palingref15_In h6) <| pn)
  · injection h with h; subst h; exact runFn_sound mixedOrders Try.func123 rfl (keep := none) (π := [.dec false]) (hrun := by kernel_rfl) (hps := pc (h3) <| pn)

end Go.Eng
