/- Part of the proof of LinksKeeps: printed mirrors of the functions, or their contracts. No conditions. -/
import Derived.Test.YtlinloabahbioaaMAK
set_option linter.unusedVariables false
set_option maxRecDepth 100000
namespace Go.Eng
open Go Go.Proofs
theorem k_names_judge_few {a1 : Names_judge} {r : Bool} (h : names_judge_few a1 = some r) :
    CallsOK Try.prog UU 77 [.agg (c143 a1)] [] (.v (.bool r)) [] := by
  unfold names_judge_few at h
  rcases ite_out h with ⟨h2, h⟩ | ⟨h2, h⟩
  · rcases ite_out h with ⟨h3, h⟩ | ⟨h3, h⟩
    · rcases ite_out h with ⟨h4, h⟩ | ⟨h4, h⟩
      · rcases ite_out h with ⟨h5, h⟩ | ⟨h5, h⟩
        · rcases ite_out h with ⟨h6, h⟩ | ⟨h6, h⟩
          · rcases ite_out h with ⟨h7, h⟩ | ⟨h7, h⟩
            · rcases ite_out h with ⟨h8, h⟩ | ⟨h8, h⟩
              · injection h with h; subst h; exact runFn_sound mixedOrders Try.func77 rfl (keep := none) (π := [.dec true, .dec true, .dec true, .dec true, .dec true, .dec true, .dec true]) (hrun := by kernel_rfl) (hps := pc (h2) <| pc (h3) <| pc (h4) <| pc (h5) <| pc (h6) <| pc (h7) <| pc (h8) <| pn)
              · injection h with h; subst h; exact runFn_sound mixedOrders Try.func77 rfl (keep := none) (π := [.dec true, .dec true, .dec true, .dec true, .dec true, .dec true, .dec false]) (hrun := by kernel_rfl) (hps := pc (h2) <| pc (h3) <| pc (h4) <| pc (h5) <| pc (h6) <| pc (h7) <| pc (h8) <| pn)
            · injection h with h; subst h; exact runFn_sound mixedOrders Try.func77 rfl (keep := none) (π := [.dec true, .dec true, .dec true, .dec true, .dec true, .dec false]) (hrun := by kernel_rfl) (hps := pc (h2) <| pc (h3) <| pc (h4) <| pc (h5) <| pc (h6) <| pc (h7) <| pn)
          · injection h with h; subst h; exact runFn_sound mixedOrders Try.func77 rfl (keep := none) (π := [.dec true, .dec true, .dec true, .dec true, .dec false]) (hrun := by kernel_rfl) (hps := pc (h2) <| pc (h3) <| pc (h4) <| pc (h5) <| pc (h6) <| pn)
        · injection h with h; subst h; exact runFn_sound mixedOrders Try.func77 rfl (keep := none) (π := [.dec true, .dec true, .dec true, .dec false]) (hrun := by kernel_rfl) (hps := pc (h2) <| pc (h3) <| pc (h4) <| pc (h5) <| pn)
      · injection h with h; subst h; exact runFn_sound mixedOrders Try.func77 rfl (keep := none) (π := [.dec true, .dec true, .dec false]) (hrun := by kernel_rfl) (hps := pc (h2) <| pc (h3) <| pc (h4) <| pn)
    · injection h with h; subst h; exact runFn_sound mixedOrders Try.func77 rfl (keep := none) (π := [.dec true, .dec false]) (hrun := by kernel_rfl) (hps := pc (h2) <| pc (h3) <| pn)
  · injection h with h; subst h; exact runFn_sound mixedOrders Try.func77 rfl (keep := none) (π := [.dec false]) (hrun := by kernel_rfl) (hps := pc (h2) <| pn)

theorem k_names_place_Device {a1 : List Api_Device} {a2 : Int} {r : Bool} (h : names_place_Device a1 a2 = some r) :
    CallsOK Try.prog UU 89 [.sl 86 a1, .v (.int .i64 a2)] [] (.v (.bool r)) [] := by
  unfold names_place_Device at h
  rcases ite_out h with ⟨h3, h⟩ | ⟨h3, h⟩
  · injection h with h; subst h; exact runFn_sound mixedOrders Try.func89 rfl (keep := none) (π := [.dec true]) (hrun := by kernel_rfl) (hps := pc (h3) <| pn)
  · injection h with h; subst h; exact runFn_sound mixedOrders Try.func89 rfl (keep := none) (π := [.dec false]) (hrun := by kernel_rfl) (hps := pc (h3) <| pn)

theorem k_names_judge_domain_1 {a1 : Api_Domain} {a2 : Int} {a3 : Int} {r : Bool} (h : names_judge_domain_1 a1 a2 a3 = some r) :
    CallsOK Try.prog UU 160 [.agg (c65 a1), .rp (c3 a2) 0, .rp (c3 a3) 0] [] (.v (.bool r)) [] := by
  unfold names_judge_domain_1 at h
  rcases ite_out h with ⟨h4, h⟩ | ⟨h4, h⟩
  · injection h with h; subst h; exact runFn_sound mixedOrders Try.func160 rfl (keep := none) (π := [.dec true]) (hrun := by kernel_rfl) (hps := pc (h4) <| pn)
  · injection h with h; subst h; exact runFn_sound mixedOrders Try.func160 rfl (keep := none) (π := [.dec false]) (hrun := by kernel_rfl) (hps := pc (h4) <| pn)

theorem k_slices_IndexFunc_Domain_judge_domain_1_L1 {a1 : List Api_Domain} {a2 : Int} {a3 : Int} : LoopOK Try.prog UU 0 19 (subC (codeOf Try.f159) [1, 0, 1, 0, 0]) (ρ := Int ⊕ Unit) (slices_IndexFunc_Domain_judge_domain_1_L1 a1 a2 a3)
    (fun v4 : Int => ([(0, .sl 65 a1), (1, .fn (.func 160) [] [.rp (c3 a2) 0, .rp (c3 a3) 0]), (4, .z), (7, .v (.int .i64 (a1.length : Int))), (8, .v (.int .i64 v4))] : Fr DD)) (fun v4 : Int => ([] : Heap DD)) (fun r => match r with | Sum.inl v12 => .ret | Sum.inr _ => .exit 0) (fun r => match r with | Sum.inl v12 => [(4, .v (.int .i64 v12))] | Sum.inr _ => [(4, .z)]) (fun r => match r with | Sum.inl v12 => [] | Sum.inr _ => []) := by
  refine loop_sound3 (fun s q h => ?_) (fun r => ?_)
  · replace h : slices_IndexFunc_Domain_judge_domain_1_L1 a1 a2 a3 s = some q := h; revert h; revert s; intro v4 h
    unfold slices_IndexFunc_Domain_judge_domain_1_L1 at h
    rcases ite_out h with ⟨h5, h⟩ | ⟨h5, h⟩
    · obtain ⟨x6, h7, h⟩ := bind_out h
      obtain ⟨r8, h9, h⟩ := bind_out h
      rcases ite_out h with ⟨h10, h⟩ | ⟨h10, h⟩
      · injection h with h; subst h; exact runLp_sound mixedOrders (live := [4]) (ids := []) (π := [.dec true, .row (c65 x6), .callv (.v (.bool r8)), .dec true]) (hx := by kernel_rfl) (hps := pc (h5) <| pc (ob65 h7) <| pc (k_names_judge_domain_1 h9) <| pc (h10) <| pn)
      · injection h with h; subst h; exact runLp_sound mixedOrders (live := [0, 1, 4, 7, 8]) (ids := []) (π := [.dec true, .row (c65 x6), .callv (.v (.bool r8)), .dec false]) (hx := by kernel_rfl) (hps := pc (h5) <| pc (ob65 h7) <| pc (k_names_judge_domain_1 h9) <| pc (h10) <| pn)
    · injection h with h; subst h; exact runLp_sound mixedOrders (live := [4]) (ids := []) (π := [.dec false]) (hx := by kernel_rfl) (hps := pc (h5) <| pn)
  · rcases r with _ | _ <;> exact Ex.noConfusion

theorem k_slices_IndexFunc_Domain_judge_domain_1 {a1 : List Api_Domain} {a2 : Int} {a3 : Int} {r : Int} (h : slices_IndexFunc_Domain_judge_domain_1 a1 a2 a3 = some r) :
    CallsOK Try.prog UU 159 [.sl 65 a1, .fn (.func 160) [] [.rp (c3 a2) 0, .rp (c3 a3) 0]] [] (.v (.int .i64 r)) [] := by
  unfold slices_IndexFunc_Domain_judge_domain_1 at h
  obtain ⟨r14, h13, h⟩ := bind_out h
  rcases r14 with v12 | _
  · injection h with h; subst h; exact runFn_sound mixedOrders Try.func159 rfl (keep := none) (π := [.sum [0, 1, 4, 7, 8] [] .ret [(4, .v (.int .i64 v12))] []]) (hrun := by kernel_rfl) (hps := pc (k_slices_IndexFunc_Domain_judge_domain_1_L1 _ _ h13) <| pn)
  · injection h with h; subst h; exact runFn_sound mixedOrders Try.func159 rfl (keep := none) (π := [.sum [0, 1, 4, 7, 8] [] (.exit 0) [(4, .z)] []]) (hrun := by kernel_rfl) (hps := pc (k_slices_IndexFunc_Domain_judge_domain_1_L1 _ _ h13) <| pn)

theorem k_names_judge_domain {a1 : Names_judge} {a2 : Int} {a3 : Int} {r : Int} (h : names_judge_domain a1 a2 a3 = some r) :
    CallsOK Try.prog UU 133 [.agg (c143 a1), .v (.int .i64 a2), .v (.int .i64 a3)] [] (.v (.int .i64 r)) [] := by
  unfold names_judge_domain at h
  obtain ⟨r4, h5, h⟩ := bind_out h
  injection h with h; subst h; exact runFn_sound mixedOrders Try.func133 rfl (keep := none) (π := [.callv (.v (.int .i64 r4))]) (hrun := by kernel_rfl) (hps := pc (k_slices_IndexFunc_Domain_judge_domain_1 h5) <| pn)

theorem k_names_place_Irb {a1 : List Api_Irb} {a2 : Int} {r : Bool} (h : names_place_Irb a1 a2 = some r) :
    CallsOK Try.prog UU 132 [.sl 115 a1, .v (.int .i64 a2)] [] (.v (.bool r)) [] := by
  unfold names_place_Irb at h
  rcases ite_out h with ⟨h3, h⟩ | ⟨h3, h⟩
  · injection h with h; subst h; exact runFn_sound mixedOrders Try.func132 rfl (keep := none) (π := [.dec true]) (hrun := by kernel_rfl) (hps := pc (h3) <| pn)
  · injection h with h; subst h; exact runFn_sound mixedOrders Try.func132 rfl (keep := none) (π := [.dec false]) (hrun := by kernel_rfl) (hps := pc (h3) <| pn)

theorem k_names_judge_bare {a1 : Names_judge} {a2 : Int} {a3 : Api_Domain} {r : Bool} (h : names_judge_bare a1 a2 a3 = some r) :
    CallsOK Try.prog UU 79 [.agg (c143 a1), .v (.int .i64 a2), .agg (c65 a3)] [] (.v (.bool r)) [] := by
  unfold names_judge_bare at h
  obtain ⟨r4, h5, h⟩ := bind_out h
  rcases ite_out h with ⟨h6, h⟩ | ⟨h6, h⟩
  · rcases ite_out h with ⟨h7, h⟩ | ⟨h7, h⟩
    · rcases ite_out h with ⟨h8, h⟩ | ⟨h8, h⟩
      · rcases ite_out h with ⟨h9, h⟩ | ⟨h9, h⟩
        · rcases ite_out h with ⟨h10, h⟩ | ⟨h10, h⟩
          · rcases ite_out h with ⟨h11, h⟩ | ⟨h11, h⟩
            · obtain ⟨r12, h13, h⟩ := bind_out h
              injection h with h; subst h; exact runFn_sound mixedOrders Try.func79 rfl (keep := none) (π := [.callv (.v (.bool r4)), .dec true, .dec true, .dec true, .dec true, .dec true, .dec true, .callv (.v (.int .i64 r12))]) (hrun := by kernel_rfl) (hps := pc (k_names_place_Device h5) <| pc (h6) <| pc (h7) <| pc (h8) <| pc (h9) <| pc (h10) <| pc (h11) <| pc (k_names_judge_domain h13) <| pn)
            · obtain ⟨r14, h15, h⟩ := bind_out h
              rcases ite_out h with ⟨h16, h⟩ | ⟨h16, h⟩
              · obtain ⟨x17, h18, h⟩ := bind_out h
                rcases ite_out h with ⟨h19, h⟩ | ⟨h19, h⟩
                · obtain ⟨r20, h21, h⟩ := bind_out h
                  injection h with h; subst h; exact runFn_sound mixedOrders Try.func79 rfl (keep := none) (π := [.callv (.v (.bool r4)), .dec true, .dec true, .dec true, .dec true, .dec true, .dec false, .callv (.v (.bool r14)), .dec true, .row (c115 x17), .dec true, .callv (.v (.int .i64 r20))]) (hrun := by kernel_rfl) (hps := pc (k_names_place_Device h5) <| pc (h6) <| pc (h7) <| pc (h8) <| pc (h9) <| pc (h10) <| pc (h11) <| pc (k_names_place_Irb h15) <| pc (h16) <| pc (ob115 h18) <| pc (h19) <| pc (k_names_judge_domain h21) <| pn)
                · injection h with h; subst h; exact runFn_sound mixedOrders Try.func79 rfl (keep := none) (π := [.callv (.v (.bool r4)), .dec true, .dec true, .dec true, .dec true, .dec true, .dec false, .callv (.v (.bool r14)), .dec true, .row (c115 x17), .dec false]) (hrun := by kernel_rfl) (hps := pc (k_names_place_Device h5) <| pc (h6) <| pc (h7) <| pc (h8) <| pc (h9) <| pc (h10) <| pc (h11) <| pc (k_names_place_Irb h15) <| pc (h16) <| pc (ob115 h18) <| pc (h19) <| pn)
              · injection h with h; subst h; exact runFn_sound mixedOrders Try.func79 rfl (keep := none) (π := [.callv (.v (.bool r4)), .dec true, .dec true, .dec true, .dec true, .dec true, .dec false, .callv (.v (.bool r14)), .dec false]) (hrun := by kernel_rfl) (hps := pc (k_names_place_Device h5) <| pc (h6) <| pc (h7) <| pc (h8) <| pc (h9) <| pc (h10) <| pc (h11) <| pc (k_names_place_Irb h15) <| pc (h16) <| pn)
          · injection h with h; subst h; exact runFn_sound mixedOrders Try.func79 rfl (keep := none) (π := [.callv (.v (.bool r4)), .dec true, .dec true, .dec true, .dec true, .dec false]) (hrun := by kernel_rfl) (hps := pc (k_names_place_Device h5) <| pc (h6) <| pc (h7) <| pc (h8) <| pc (h9) <| pc (h10) <| pn)
        · injection h with h; subst h; exact runFn_sound mixedOrders Try.func79 rfl (keep := none) (π := [.callv (.v (.bool r4)), .dec true, .dec true, .dec true, .dec false]) (hrun := by kernel_rfl) (hps := pc (k_names_place_Device h5) <| pc (h6) <| pc (h7) <| pc (h8) <| pc (h9) <| pn)
      · injection h with h; subst h; exact runFn_sound mixedOrders Try.func79 rfl (keep := none) (π := [.callv (.v (.bool r4)), .dec true, .dec true, .dec false]) (hrun := by kernel_rfl) (hps := pc (k_names_place_Device h5) <| pc (h6) <| pc (h7) <| pc (h8) <| pn)
    · injection h with h; subst h; exact runFn_sound mixedOrders Try.func79 rfl (keep := none) (π := [.callv (.v (.bool r4)), .dec true, .dec false]) (hrun := by kernel_rfl) (hps := pc (k_names_place_Device h5) <| pc (h6) <| pc (h7) <| pn)
  · injection h with h; subst h; exact runFn_sound mixedOrders Try.func79 rfl (keep := none) (π := [.callv (.v (.bool r4)), .dec false]) (hrun := by kernel_rfl) (hps := pc (k_names_place_Device h5) <| pc (h6) <| pn)

theorem k_names_all_Domain_judge_bare_L1 {a1 : List Api_Domain} {a2 : Names_judge} : LoopOK Try.prog UU 0 20 (subC (codeOf Try.f78) [1, 0, 1, 0, 0]) (ρ := Unit ⊕ Unit) (names_all_Domain_judge_bare_L1 a1 a2)
    (fun v3 : Int => ([(1, .fn (.func 79) [.agg (c143 a2)] []), (4, .v (.bool false)), (7, .sl 65 a1), (8, .v (.int .i64 (a1.length : Int))), (9, .v (.int .i64 v3))] : Fr DD)) (fun v3 : Int => ([] : Heap DD)) (fun r => match r with | Sum.inl _ => .ret | Sum.inr _ => .exit 0) (fun r => match r with | Sum.inl _ => [(4, .v (.bool false))] | Sum.inr _ => [(4, .v (.bool false))]) (fun r => match r with | Sum.inl _ => [] | Sum.inr _ => []) := by
  refine loop_sound3 (fun s q h => ?_) (fun r => ?_)
  · replace h : names_all_Domain_judge_bare_L1 a1 a2 s = some q := h; revert h; revert s; intro v3 h
    unfold names_all_Domain_judge_bare_L1 at h
    rcases ite_out h with ⟨h4, h⟩ | ⟨h4, h⟩
    · obtain ⟨x5, h6, h⟩ := bind_out h
      obtain ⟨r7, h8, h⟩ := bind_out h
      rcases ite_out h with ⟨h9, h⟩ | ⟨h9, h⟩
      · injection h with h; subst h; exact runLp_sound mixedOrders (live := [4]) (ids := []) (π := [.dec true, .row (c65 x5), .callv (.v (.bool r7)), .dec true]) (hx := by kernel_rfl) (hps := pc (h4) <| pc (ob65 h6) <| pc (k_names_judge_bare h8) <| pc (h9) <| pn)
      · injection h with h; subst h; exact runLp_sound mixedOrders (live := [1, 4, 7, 8, 9]) (ids := []) (π := [.dec true, .row (c65 x5), .callv (.v (.bool r7)), .dec false]) (hx := by kernel_rfl) (hps := pc (h4) <| pc (ob65 h6) <| pc (k_names_judge_bare h8) <| pc (h9) <| pn)
    · injection h with h; subst h; exact runLp_sound mixedOrders (live := [4]) (ids := []) (π := [.dec false]) (hx := by kernel_rfl) (hps := pc (h4) <| pn)
  · rcases r with _ | _ <;> exact Ex.noConfusion

theorem k_names_all_Domain_judge_bare {a1 : List Api_Domain} {a2 : Names_judge} {r : Bool} (h : names_all_Domain_judge_bare a1 a2 = some r) :
    CallsOK Try.prog UU 78 [.sl 65 a1, .fn (.func 79) [.agg (c143 a2)] []] [] (.v (.bool r)) [] := by
  unfold names_all_Domain_judge_bare at h
  obtain ⟨r11, h10, h⟩ := bind_out h
  rcases r11 with _ | _
  · injection h with h; subst h; exact runFn_sound mixedOrders Try.func78 rfl (keep := none) (π := [.sum [1, 4, 7, 8, 9] [] .ret [(4, .v (.bool false))] []]) (hrun := by kernel_rfl) (hps := pc (k_names_all_Domain_judge_bare_L1 _ _ h10) <| pn)
  · injection h with h; subst h; exact runFn_sound mixedOrders Try.func78 rfl (keep := none) (π := [.sum [1, 4, 7, 8, 9] [] (.exit 0) [(4, .v (.bool false))] []]) (hrun := by kernel_rfl) (hps := pc (k_names_all_Domain_judge_bare_L1 _ _ h10) <| pn)

theorem k_names_place_Domain {a1 : List Api_Domain} {a2 : Int} {r : Bool} (h : names_place_Domain a1 a2 = some r) :
    CallsOK Try.prog UU 95 [.sl 65 a1, .v (.int .i64 a2)] [] (.v (.bool r)) [] := by
  unfold names_place_Domain at h
  rcases ite_out h with ⟨h3, h⟩ | ⟨h3, h⟩
  · injection h with h; subst h; exact runFn_sound mixedOrders Try.func95 rfl (keep := none) (π := [.dec true]) (hrun := by kernel_rfl) (hps := pc (h3) <| pn)
  · injection h with h; subst h; exact runFn_sound mixedOrders Try.func95 rfl (keep := none) (π := [.dec false]) (hrun := by kernel_rfl) (hps := pc (h3) <| pn)

theorem k_names_judge_vtep {a1 : Names_judge} {a2 : Api_Domain} {r : Bool} (h : names_judge_vtep a1 a2 = some r) :
    CallsOK Try.prog UU 161 [.agg (c143 a1), .agg (c65 a2)] [] (.v (.bool r)) [] := by
  unfold names_judge_vtep at h
  obtain ⟨x3, h4, h⟩ := bind_out h
  injection h with h; subst h; exact runFn_sound mixedOrders Try.func161 rfl (keep := none) (π := [.row (c86 x3)]) (hrun := by kernel_rfl) (hps := pc (ob86 h4) <| pn)

theorem k_slices_Index_int_L1 {a1 : List Int} {a2 : Int} : LoopOK Try.prog UU 0 19 (subC (codeOf Try.f137) [1, 0, 1, 0, 0]) (ρ := Int ⊕ Unit) (slices_Index_int_L1 a1 a2)
    (fun v3 : Int => ([(0, .sl 3 a1), (1, .v (.int .i64 a2)), (4, .z), (7, .v (.int .i64 (a1.length : Int))), (8, .v (.int .i64 v3))] : Fr DD)) (fun v3 : Int => ([] : Heap DD)) (fun r => match r with | Sum.inl v9 => .ret | Sum.inr _ => .exit 0) (fun r => match r with | Sum.inl v9 => [(4, .v (.int .i64 v9))] | Sum.inr _ => [(4, .z)]) (fun r => match r with | Sum.inl v9 => [] | Sum.inr _ => []) := by
  refine loop_sound3 (fun s q h => ?_) (fun r => ?_)
  · replace h : slices_Index_int_L1 a1 a2 s = some q := h; revert h; revert s; intro v3 h
    unfold slices_Index_int_L1 at h
    rcases ite_out h with ⟨h4, h⟩ | ⟨h4, h⟩
    · obtain ⟨x5, h6, h⟩ := bind_out h
      rcases ite_out h with ⟨h7, h⟩ | ⟨h7, h⟩
      · injection h with h; subst h; exact runLp_sound mixedOrders (live := [4]) (ids := []) (π := [.dec true, .row (c3 x5), .dec true]) (hx := by kernel_rfl) (hps := pc (h4) <| pc (ob3 h6) <| pc (h7) <| pn)
      · injection h with h; subst h; exact runLp_sound mixedOrders (live := [0, 1, 4, 7, 8]) (ids := []) (π := [.dec true, .row (c3 x5), .dec false]) (hx := by kernel_rfl) (hps := pc (h4) <| pc (ob3 h6) <| pc (h7) <| pn)
    · injection h with h; subst h; exact runLp_sound mixedOrders (live := [4]) (ids := []) (π := [.dec false]) (hx := by kernel_rfl) (hps := pc (h4) <| pn)
  · rcases r with _ | _ <;> exact Ex.noConfusion

theorem k_slices_Index_int {a1 : List Int} {a2 : Int} {r : Int} (h : slices_Index_int a1 a2 = some r) :
    CallsOK Try.prog UU 137 [.sl 3 a1, .v (.int .i64 a2)] [] (.v (.int .i64 r)) [] := by
  unfold slices_Index_int at h
  obtain ⟨r11, h10, h⟩ := bind_out h
  rcases r11 with v9 | _
  · injection h with h; subst h; exact runFn_sound mixedOrders Try.func137 rfl (keep := none) (π := [.sum [0, 1, 4, 7, 8] [] .ret [(4, .v (.int .i64 v9))] []]) (hrun := by kernel_rfl) (hps := pc (k_slices_Index_int_L1 _ _ h10) <| pn)
  · injection h with h; subst h; exact runFn_sound mixedOrders Try.func137 rfl (keep := none) (π := [.sum [0, 1, 4, 7, 8] [] (.exit 0) [(4, .z)] []]) (hrun := by kernel_rfl) (hps := pc (k_slices_Index_int_L1 _ _ h10) <| pn)

theorem k_slices_Contains_int {a1 : List Int} {a2 : Int} {r : Bool} (h : slices_Contains_int a1 a2 = some r) :
    CallsOK Try.prog UU 117 [.sl 3 a1, .v (.int .i64 a2)] [] (.v (.bool r)) [] := by
  unfold slices_Contains_int at h
  obtain ⟨r3, h4, h⟩ := bind_out h
  injection h with h; subst h; exact runFn_sound mixedOrders Try.func117 rfl (keep := none) (π := [.callv (.v (.int .i64 r3))]) (hrun := by kernel_rfl) (hps := pc (k_slices_Index_int h4) <| pn)

theorem k_names_judge_peer {a1 : Names_judge} {a2 : Int} {a3 : Api_Domain} {a4 : Int} {r : Bool} (h : names_judge_peer a1 a2 a3 a4 = some r) :
    CallsOK Try.prog UU 136 [.agg (c143 a1), .v (.int .i64 a2), .agg (c65 a3), .v (.int .i64 a4)] [] (.v (.bool r)) [] := by
  unfold names_judge_peer at h
  obtain ⟨r5, h6, h⟩ := bind_out h
  rcases ite_out h with ⟨h7, h⟩ | ⟨h7, h⟩
  · injection h with h; subst h; exact runFn_sound mixedOrders Try.func136 rfl (keep := none) (π := [.callv (.v (.bool r5)), .dec true]) (hrun := by kernel_rfl) (hps := pc (k_names_place_Domain h6) <| pc (h7) <| pn)
  · rcases ite_out h with ⟨h8, h⟩ | ⟨h8, h⟩
    · injection h with h; subst h; exact runFn_sound mixedOrders Try.func136 rfl (keep := none) (π := [.callv (.v (.bool r5)), .dec false, .dec true]) (hrun := by kernel_rfl) (hps := pc (k_names_place_Domain h6) <| pc (h7) <| pc (h8) <| pn)
    · obtain ⟨x9, h10, h⟩ := bind_out h
      obtain ⟨r11, h12, h⟩ := bind_out h
      rcases ite_out h with ⟨h13, h⟩ | ⟨h13, h⟩
      · rcases ite_out h with ⟨h14, h⟩ | ⟨h14, h⟩
        · rcases ite_out h with ⟨h15, h⟩ | ⟨h15, h⟩
          · rcases ite_out h with ⟨h16, h⟩ | ⟨h16, h⟩
            · obtain ⟨r17, h18, h⟩ := bind_out h
              rcases ite_out h with ⟨h19, h⟩ | ⟨h19, h⟩
              · obtain ⟨r20, h21, h⟩ := bind_out h
                rcases ite_out h with ⟨h22, h⟩ | ⟨h22, h⟩
                · obtain ⟨r23, h24, h⟩ := bind_out h
                  injection h with h; subst h; exact runFn_sound mixedOrders Try.func136 rfl (keep := none) (π := [.callv (.v (.bool r5)), .dec false, .dec false, .row (c65 x9), .callv (.v (.bool r11)), .dec true, .dec true, .dec true, .dec true, .callv (.v (.bool r17)), .dec true, .callv (.v (.bool r20)), .dec true, .callv (.v (.bool r23))]) (hrun := by kernel_rfl) (hps := pc (k_names_place_Domain h6) <| pc (h7) <| pc (h8) <| pc (ob65 h10) <| pc (k_names_place_Device h12) <| pc (h13) <| pc (h14) <| pc (h15) <| pc (h16) <| pc (k_names_judge_vtep h18) <| pc (h19) <| pc (k_names_judge_vtep h21) <| pc (h22) <| pc (k_slices_Contains_int h24) <| pn)
                · injection h with h; subst h; exact runFn_sound mixedOrders Try.func136 rfl (keep := none) (π := [.callv (.v (.bool r5)), .dec false, .dec false, .row (c65 x9), .callv (.v (.bool r11)), .dec true, .dec true, .dec true, .dec true, .callv (.v (.bool r17)), .dec true, .callv (.v (.bool r20)), .dec false]) (hrun := by kernel_rfl) (hps := pc (k_names_place_Domain h6) <| pc (h7) <| pc (h8) <| pc (ob65 h10) <| pc (k_names_place_Device h12) <| pc (h13) <| pc (h14) <| pc (h15) <| pc (h16) <| pc (k_names_judge_vtep h18) <| pc (h19) <| pc (k_names_judge_vtep h21) <| pc (h22) <| pn)
              · injection h with h; subst h; exact runFn_sound mixedOrders Try.func136 rfl (keep := none) (π := [.callv (.v (.bool r5)), .dec false, .dec false, .row (c65 x9), .callv (.v (.bool r11)), .dec true, .dec true, .dec true, .dec true, .callv (.v (.bool r17)), .dec false]) (hrun := by kernel_rfl) (hps := pc (k_names_place_Domain h6) <| pc (h7) <| pc (h8) <| pc (ob65 h10) <| pc (k_names_place_Device h12) <| pc (h13) <| pc (h14) <| pc (h15) <| pc (h16) <| pc (k_names_judge_vtep h18) <| pc (h19) <| pn)
            · injection h with h; subst h; exact runFn_sound mixedOrders Try.func136 rfl (keep := none) (π := [.callv (.v (.bool r5)), .dec false, .dec false, .row (c65 x9), .callv (.v (.bool r11)), .dec true, .dec true, .dec true, .dec false]) (hrun := by kernel_rfl) (hps := pc (k_names_place_Domain h6) <| pc (h7) <| pc (h8) <| pc (ob65 h10) <| pc (k_names_place_Device h12) <| pc (h13) <| pc (h14) <| pc (h15) <| pc (h16) <| pn)
          · injection h with h; subst h; exact runFn_sound mixedOrders Try.func136 rfl (keep := none) (π := [.callv (.v (.bool r5)), .dec false, .dec false, .row (c65 x9), .callv (.v (.bool r11)), .dec true, .dec true, .dec false]) (hrun := by kernel_rfl) (hps := pc (k_names_place_Domain h6) <| pc (h7) <| pc (h8) <| pc (ob65 h10) <| pc (k_names_place_Device h12) <| pc (h13) <| pc (h14) <| pc (h15) <| pn)
        · injection h with h; subst h; exact runFn_sound mixedOrders Try.func136 rfl (keep := none) (π := [.callv (.v (.bool r5)), .dec false, .dec false, .row (c65 x9), .callv (.v (.bool r11)), .dec true, .dec false]) (hrun := by kernel_rfl) (hps := pc (k_names_place_Domain h6) <| pc (h7) <| pc (h8) <| pc (ob65 h10) <| pc (k_names_place_Device h12) <| pc (h13) <| pc (h14) <| pn)
      · injection h with h; subst h; exact runFn_sound mixedOrders Try.func136 rfl (keep := none) (π := [.callv (.v (.bool r5)), .dec false, .dec false, .row (c65 x9), .callv (.v (.bool r11)), .dec false]) (hrun := by kernel_rfl) (hps := pc (k_names_place_Domain h6) <| pc (h7) <| pc (h8) <| pc (ob65 h10) <| pc (k_names_place_Device h12) <| pc (h13) <| pn)

theorem k_names_judge_peers_1 {a1 : Int} {a2 : Int} {a3 : Names_judge} {a4 : Int} {a5 : Api_Domain} {r : Bool} (h : names_judge_peers_1 a1 a2 a3 a4 a5 = some r) :
    CallsOK Try.prog UU 135 [.v (.int .i64 a1), .v (.int .i64 a2), .rp (c143 a3) 0, .rp (c3 a4) 0, .rp (c65 a5) 0] [] (.v (.bool r)) [] := by
  unfold names_judge_peers_1 at h
  obtain ⟨r6, h7, h⟩ := bind_out h
  rcases ite_out h with ⟨h8, h⟩ | ⟨h8, h⟩
  · obtain ⟨r9, h10, h⟩ := bind_out h
    injection h with h; subst h; exact runFn_sound mixedOrders Try.func135 rfl (keep := none) (π := [.callv (.v (.bool r6)), .dec true, .callv (.v (.int .i64 r9))]) (hrun := by kernel_rfl) (hps := pc (k_names_judge_peer h7) <| pc (h8) <| pc (k_slices_Index_int h10) <| pn)
  · injection h with h; subst h; exact runFn_sound mixedOrders Try.func135 rfl (keep := none) (π := [.callv (.v (.bool r6)), .dec false]) (hrun := by kernel_rfl) (hps := pc (k_names_judge_peer h7) <| pc (h8) <| pn)

theorem k_names_all_int_judge_peers_1_L1 {a1 : List Int} {a2 : Names_judge} {a3 : Int} {a4 : Api_Domain} : LoopOK Try.prog UU 0 20 (subC (codeOf Try.f134) [1, 0, 1, 0, 0]) (ρ := Unit ⊕ Unit) (names_all_int_judge_peers_1_L1 a1 a2 a3 a4)
    (fun v5 : Int => ([(1, .fn (.func 135) [] [.rp (c143 a2) 0, .rp (c3 a3) 0, .rp (c65 a4) 0]), (4, .v (.bool false)), (7, .sl 3 a1), (8, .v (.int .i64 (a1.length : Int))), (9, .v (.int .i64 v5))] : Fr DD)) (fun v5 : Int => ([] : Heap DD)) (fun r => match r with | Sum.inl _ => .ret | Sum.inr _ => .exit 0) (fun r => match r with | Sum.inl _ => [(4, .v (.bool false))] | Sum.inr _ => [(4, .v (.bool false))]) (fun r => match r with | Sum.inl _ => [] | Sum.inr _ => []) := by
  refine loop_sound3 (fun s q h => ?_) (fun r => ?_)
  · replace h : names_all_int_judge_peers_1_L1 a1 a2 a3 a4 s = some q := h; revert h; revert s; intro v5 h
    unfold names_all_int_judge_peers_1_L1 at h
    rcases ite_out h with ⟨h6, h⟩ | ⟨h6, h⟩
    · obtain ⟨x7, h8, h⟩ := bind_out h
      obtain ⟨r9, h10, h⟩ := bind_out h
      rcases ite_out h with ⟨h11, h⟩ | ⟨h11, h⟩
      · injection h with h; subst h; exact runLp_sound mixedOrders (live := [4]) (ids := []) (π := [.dec true, .row (c3 x7), .callv (.v (.bool r9)), .dec true]) (hx := by kernel_rfl) (hps := pc (h6) <| pc (ob3 h8) <| pc (k_names_judge_peers_1 h10) <| pc (h11) <| pn)
      · injection h with h; subst h; exact runLp_sound mixedOrders (live := [1, 4, 7, 8, 9]) (ids := []) (π := [.dec true, .row (c3 x7), .callv (.v (.bool r9)), .dec false]) (hx := by kernel_rfl) (hps := pc (h6) <| pc (ob3 h8) <| pc (k_names_judge_peers_1 h10) <| pc (h11) <| pn)
    · injection h with h; subst h; exact runLp_sound mixedOrders (live := [4]) (ids := []) (π := [.dec false]) (hx := by kernel_rfl) (hps := pc (h6) <| pn)
  · rcases r with _ | _ <;> exact Ex.noConfusion

theorem k_names_all_int_judge_peers_1 {a1 : List Int} {a2 : Names_judge} {a3 : Int} {a4 : Api_Domain} {r : Bool} (h : names_all_int_judge_peers_1 a1 a2 a3 a4 = some r) :
    CallsOK Try.prog UU 134 [.sl 3 a1, .fn (.func 135) [] [.rp (c143 a2) 0, .rp (c3 a3) 0, .rp (c65 a4) 0]] [] (.v (.bool r)) [] := by
  unfold names_all_int_judge_peers_1 at h
  obtain ⟨r13, h12, h⟩ := bind_out h
  rcases r13 with _ | _
  · injection h with h; subst h; exact runFn_sound mixedOrders Try.func134 rfl (keep := none) (π := [.sum [1, 4, 7, 8, 9] [] .ret [(4, .v (.bool false))] []]) (hrun := by kernel_rfl) (hps := pc (k_names_all_int_judge_peers_1_L1 _ _ h12) <| pn)
  · injection h with h; subst h; exact runFn_sound mixedOrders Try.func134 rfl (keep := none) (π := [.sum [1, 4, 7, 8, 9] [] (.exit 0) [(4, .v (.bool false))] []]) (hrun := by kernel_rfl) (hps := pc (k_names_all_int_judge_peers_1_L1 _ _ h12) <| pn)

theorem k_names_judge_peers {a1 : Names_judge} {a2 : Int} {a3 : Api_Domain} {r : Bool} (h : names_judge_peers a1 a2 a3 = some r) :
    CallsOK Try.prog UU 80 [.agg (c143 a1), .v (.int .i64 a2), .agg (c65 a3)] [] (.v (.bool r)) [] := by
  unfold names_judge_peers at h
  obtain ⟨r4, h5, h⟩ := bind_out h
  injection h with h; subst h; exact runFn_sound mixedOrders Try.func80 rfl (keep := none) (π := [.callv (.v (.bool r4))]) (hrun := by kernel_rfl) (hps := pc (k_names_all_int_judge_peers_1 h5) <| pn)

theorem k_names_all_Domain_judge_peers_L1 {a1 : List Api_Domain} {a2 : Names_judge} : LoopOK Try.prog UU 0 20 (subC (codeOf Try.f78) [1, 0, 1, 0, 0]) (ρ := Unit ⊕ Unit) (names_all_Domain_judge_peers_L1 a1 a2)
    (fun v3 : Int => ([(1, .fn (.func 80) [.agg (c143 a2)] []), (4, .v (.bool false)), (7, .sl 65 a1), (8, .v (.int .i64 (a1.length : Int))), (9, .v (.int .i64 v3))] : Fr DD)) (fun v3 : Int => ([] : Heap DD)) (fun r => match r with | Sum.inl _ => .ret | Sum.inr _ => .exit 0) (fun r => match r with | Sum.inl _ => [(4, .v (.bool false))] | Sum.inr _ => [(4, .v (.bool false))]) (fun r => match r with | Sum.inl _ => [] | Sum.inr _ => []) := by
  refine loop_sound3 (fun s q h => ?_) (fun r => ?_)
  · replace h : names_all_Domain_judge_peers_L1 a1 a2 s = some q := h; revert h; revert s; intro v3 h
    unfold names_all_Domain_judge_peers_L1 at h
    rcases ite_out h with ⟨h4, h⟩ | ⟨h4, h⟩
    · obtain ⟨x5, h6, h⟩ := bind_out h
      obtain ⟨r7, h8, h⟩ := bind_out h
      rcases ite_out h with ⟨h9, h⟩ | ⟨h9, h⟩
      · injection h with h; subst h; exact runLp_sound mixedOrders (live := [4]) (ids := []) (π := [.dec true, .row (c65 x5), .callv (.v (.bool r7)), .dec true]) (hx := by kernel_rfl) (hps := pc (h4) <| pc (ob65 h6) <| pc (k_names_judge_peers h8) <| pc (h9) <| pn)
      · injection h with h; subst h; exact runLp_sound mixedOrders (live := [1, 4, 7, 8, 9]) (ids := []) (π := [.dec true, .row (c65 x5), .callv (.v (.bool r7)), .dec false]) (hx := by kernel_rfl) (hps := pc (h4) <| pc (ob65 h6) <| pc (k_names_judge_peers h8) <| pc (h9) <| pn)
    · injection h with h; subst h; exact runLp_sound mixedOrders (live := [4]) (ids := []) (π := [.dec false]) (hx := by kernel_rfl) (hps := pc (h4) <| pn)
  · rcases r with _ | _ <;> exact Ex.noConfusion

theorem k_names_all_Domain_judge_peers {a1 : List Api_Domain} {a2 : Names_judge} {r : Bool} (h : names_all_Domain_judge_peers a1 a2 = some r) :
    CallsOK Try.prog UU 78 [.sl 65 a1, .fn (.func 80) [.agg (c143 a2)] []] [] (.v (.bool r)) [] := by
  unfold names_all_Domain_judge_peers at h
  obtain ⟨r11, h10, h⟩ := bind_out h
  rcases r11 with _ | _
  · injection h with h; subst h; exact runFn_sound mixedOrders Try.func78 rfl (keep := none) (π := [.sum [1, 4, 7, 8, 9] [] .ret [(4, .v (.bool false))] []]) (hrun := by kernel_rfl) (hps := pc (k_names_all_Domain_judge_peers_L1 _ _ h10) <| pn)
  · injection h with h; subst h; exact runFn_sound mixedOrders Try.func78 rfl (keep := none) (π := [.sum [1, 4, 7, 8, 9] [] (.exit 0) [(4, .v (.bool false))] []]) (hrun := by kernel_rfl) (hps := pc (k_names_all_Domain_judge_peers_L1 _ _ h10) <| pn)

theorem k_num_Rising_L1 {a1 : List Int} {a2 : Int} {a3 : Int} : LoopOK Try.prog UU 0 46 (subC (codeOf Try.f140) [1, 0, 1, 0, 0]) (ρ := Unit ⊕ Unit) (num_Rising_L1 a1 a2 a3)
    (fun v4 : Int => ([(0, .sl 3 a1), (1, .v (.int .i64 a2)), (2, .v (.int .i64 a3)), (6, .v (.bool false)), (9, .sl 3 a1), (10, .v (.int .i64 (a1.length : Int))), (11, .v (.int .i64 v4))] : Fr DD)) (fun v4 : Int => ([] : Heap DD)) (fun r => match r with | Sum.inl _ => .ret | Sum.inr _ => .exit 0) (fun r => match r with | Sum.inl _ => [(6, .v (.bool false))] | Sum.inr _ => [(0, .sl 3 a1), (6, .v (.bool false))]) (fun r => match r with | Sum.inl _ => [] | Sum.inr _ => []) := by
  refine loop_sound3 (fun s q h => ?_) (fun r => ?_)
  · replace h : num_Rising_L1 a1 a2 a3 s = some q := h; revert h; revert s; intro v4 h
    unfold num_Rising_L1 at h
    rcases ite_out h with ⟨h5, h⟩ | ⟨h5, h⟩
    · obtain ⟨x6, h7, h⟩ := bind_out h
      rcases ite_out h with ⟨h8, h⟩ | ⟨h8, h⟩
      · injection h with h; subst h; exact runLp_sound mixedOrders (live := [6]) (ids := []) (π := [.dec true, .row (c3 x6), .dec true]) (hx := by kernel_rfl) (hps := pc (h5) <| pc (ob3 h7) <| pc (h8) <| pn)
      · rcases ite_out h with ⟨h9, h⟩ | ⟨h9, h⟩
        · injection h with h; subst h; exact runLp_sound mixedOrders (live := [6]) (ids := []) (π := [.dec true, .row (c3 x6), .dec false, .dec true]) (hx := by kernel_rfl) (hps := pc (h5) <| pc (ob3 h7) <| pc (h8) <| pc (h9) <| pn)
        · rcases ite_out h with ⟨h10, h⟩ | ⟨h10, h⟩
          · obtain ⟨x11, h12, h⟩ := bind_out h
            rcases ite_out h with ⟨h13, h⟩ | ⟨h13, h⟩
            · injection h with h; subst h; exact runLp_sound mixedOrders (live := [6]) (ids := []) (π := [.dec true, .row (c3 x6), .dec false, .dec false, .dec true, .row (c3 x11), .dec true]) (hx := by kernel_rfl) (hps := pc (h5) <| pc (ob3 h7) <| pc (h8) <| pc (h9) <| pc (h10) <| pc (ob3 h12) <| pc (h13) <| pn)
            · injection h with h; subst h; exact runLp_sound mixedOrders (live := [0, 1, 2, 6, 9, 10, 11]) (ids := []) (π := [.dec true, .row (c3 x6), .dec false, .dec false, .dec true, .row (c3 x11), .dec false]) (hx := by kernel_rfl) (hps := pc (h5) <| pc (ob3 h7) <| pc (h8) <| pc (h9) <| pc (h10) <| pc (ob3 h12) <| pc (h13) <| pn)
          · injection h with h; subst h; exact runLp_sound mixedOrders (live := [0, 1, 2, 6, 9, 10, 11]) (ids := []) (π := [.dec true, .row (c3 x6), .dec false, .dec false, .dec false]) (hx := by kernel_rfl) (hps := pc (h5) <| pc (ob3 h7) <| pc (h8) <| pc (h9) <| pc (h10) <| pn)
    · injection h with h; subst h; exact runLp_sound mixedOrders (live := [0, 6]) (ids := []) (π := [.dec false]) (hx := by kernel_rfl) (hps := pc (h5) <| pn)
  · rcases r with _ | _ <;> exact Ex.noConfusion

theorem k_num_Rising {a1 : List Int} {a2 : Int} {a3 : Int} {r : Bool} (h : num_Rising a1 a2 a3 = some r) :
    CallsOK Try.prog UU 140 [.sl 3 a1, .v (.int .i64 a2), .v (.int .i64 a3)] [] (.v (.bool r)) [] := by
  unfold num_Rising at h
  obtain ⟨r15, h14, h⟩ := bind_out h
  rcases r15 with _ | _
  · injection h with h; subst h; exact runFn_sound mixedOrders Try.func140 rfl (keep := none) (π := [.sum [0, 1, 2, 6, 9, 10, 11] [] .ret [(6, .v (.bool false))] []]) (hrun := by kernel_rfl) (hps := pc (k_num_Rising_L1 _ _ h14) <| pn)
  · rcases ite_out h with ⟨h16, h⟩ | ⟨h16, h⟩
    · injection h with h; subst h; exact runFn_sound mixedOrders Try.func140 rfl (keep := none) (π := [.sum [0, 1, 2, 6, 9, 10, 11] [] (.exit 0) [(0, .sl 3 a1), (6, .v (.bool false))] [], .dec true]) (hrun := by kernel_rfl) (hps := pc (k_num_Rising_L1 _ _ h14) <| pc (h16) <| pn)
    · injection h with h; subst h; exact runFn_sound mixedOrders Try.func140 rfl (keep := none) (π := [.sum [0, 1, 2, 6, 9, 10, 11] [] (.exit 0) [(0, .sl 3 a1), (6, .v (.bool false))] [], .dec false]) (hrun := by kernel_rfl) (hps := pc (k_num_Rising_L1 _ _ h14) <| pc (h16) <| pn)

theorem k_names_rising {a1 : List Int} {a2 : Int} {r : Bool} (h : names_rising a1 a2 = some r) :
    CallsOK Try.prog UU 92 [.sl 3 a1, .v (.int .i64 a2)] [] (.v (.bool r)) [] := by
  unfold names_rising at h
  rcases ite_out h with ⟨h3, h⟩ | ⟨h3, h⟩
  · injection h with h; subst h; exact runFn_sound mixedOrders Try.func92 rfl (keep := none) (π := [.dec true]) (hrun := by kernel_rfl) (hps := pc (h3) <| pn)
  · obtain ⟨r4, h5, h⟩ := bind_out h
    injection h with h; subst h; exact runFn_sound mixedOrders Try.func92 rfl (keep := none) (π := [.dec false, .callv (.v (.bool r4))]) (hrun := by kernel_rfl) (hps := pc (h3) <| pc (k_num_Rising h5) <| pn)

theorem k_names_place_Link {a1 : List Api_Link} {a2 : Int} {r : Bool} (h : names_place_Link a1 a2 = some r) :
    CallsOK Try.prog UU 138 [.sl 88 a1, .v (.int .i64 a2)] [] (.v (.bool r)) [] := by
  unfold names_place_Link at h
  rcases ite_out h with ⟨h3, h⟩ | ⟨h3, h⟩
  · injection h with h; subst h; exact runFn_sound mixedOrders Try.func138 rfl (keep := none) (π := [.dec true]) (hrun := by kernel_rfl) (hps := pc (h3) <| pn)
  · injection h with h; subst h; exact runFn_sound mixedOrders Try.func138 rfl (keep := none) (π := [.dec false]) (hrun := by kernel_rfl) (hps := pc (h3) <| pn)

theorem k_names_judge_port_J1 {a1 : Names_judge} {a2 : Int} {a3 : Api_Port} {r : Unit ⊕ Unit} (h : names_judge_port_J1 a1 a2 a3 = some r) :
    ExecOK Try.prog UU 0 111 (subC (codeOf Try.f82) [1, 0]) [(1, .v (.int .i64 a2)), (3, .op 0 1 0 0), (5, .op 1 1 0 0), (6, .v (.bool false))] [.box 143 (c143 a1) false, .box 63 (c63 a3) false] ((fun r => match r with | Sum.inl _ => .ret | Sum.inr _ => .nor) r) ((fun r => match r with | Sum.inl _ => [(6, .v (.bool false))] | Sum.inr _ => [(1, .v (.int .i64 a2)), (3, .op 0 1 0 0), (5, .op 1 1 0 0), (6, .v (.bool false))]) r) ((fun r => match r with | Sum.inl _ => [] | Sum.inr _ => [.box 143 (c143 a1) false, .box 63 (c63 a3) false]) r) := by
  unfold names_judge_port_J1 at h
  obtain ⟨r4, h5, h⟩ := bind_out h
  rcases ite_out h with ⟨h6, h⟩ | ⟨h6, h⟩
  · injection h with h; subst h; exact runLp_sound mixedOrders (live := [6]) (ids := []) (π := [.callv (.v (.bool r4)), .dec true]) (hx := by kernel_rfl) (hps := pc (k_names_place_Device h5) <| pc (h6) <| pn)
  · rcases ite_out h with ⟨h7, h⟩ | ⟨h7, h⟩
    · injection h with h; subst h; exact runLp_sound mixedOrders (live := [6]) (ids := []) (π := [.callv (.v (.bool r4)), .dec false, .dec true]) (hx := by kernel_rfl) (hps := pc (k_names_place_Device h5) <| pc (h6) <| pc (h7) <| pn)
    · rcases ite_out h with ⟨h8, h⟩ | ⟨h8, h⟩
      · injection h with h; subst h; exact runLp_sound mixedOrders (live := [6]) (ids := []) (π := [.callv (.v (.bool r4)), .dec false, .dec false, .dec true]) (hx := by kernel_rfl) (hps := pc (k_names_place_Device h5) <| pc (h6) <| pc (h7) <| pc (h8) <| pn)
      · obtain ⟨r9, h10, h⟩ := bind_out h
        rcases ite_out h with ⟨h11, h⟩ | ⟨h11, h⟩
        · injection h with h; subst h; exact runLp_sound mixedOrders (live := [6]) (ids := []) (π := [.callv (.v (.bool r4)), .dec false, .dec false, .dec false, .callv (.v (.bool r9)), .dec true]) (hx := by kernel_rfl) (hps := pc (k_names_place_Device h5) <| pc (h6) <| pc (h7) <| pc (h8) <| pc (k_names_rising h10) <| pc (h11) <| pn)
        · obtain ⟨r12, h13, h⟩ := bind_out h
          rcases ite_out h with ⟨h14, h⟩ | ⟨h14, h⟩
          · injection h with h; subst h; exact runLp_sound mixedOrders (live := [6]) (ids := []) (π := [.callv (.v (.bool r4)), .dec false, .dec false, .dec false, .callv (.v (.bool r9)), .dec false, .callv (.v (.bool r12)), .dec true]) (hx := by kernel_rfl) (hps := pc (k_names_place_Device h5) <| pc (h6) <| pc (h7) <| pc (h8) <| pc (k_names_rising h10) <| pc (h11) <| pc (k_slices_Contains_int h13) <| pc (h14) <| pn)
          · rcases ite_out h with ⟨h15, h⟩ | ⟨h15, h⟩
            · rcases ite_out h with ⟨h16, h⟩ | ⟨h16, h⟩
              · injection h with h; subst h; exact runLp_sound mixedOrders (live := [6]) (ids := []) (π := [.callv (.v (.bool r4)), .dec false, .dec false, .dec false, .callv (.v (.bool r9)), .dec false, .callv (.v (.bool r12)), .dec false, .dec true, .dec true]) (hx := by kernel_rfl) (hps := pc (k_names_place_Device h5) <| pc (h6) <| pc (h7) <| pc (h8) <| pc (k_names_rising h10) <| pc (h11) <| pc (k_slices_Contains_int h13) <| pc (h14) <| pc (h15) <| pc (h16) <| pn)
              · injection h with h; subst h; exact runLp_sound mixedOrders (live := [1, 3, 5, 6]) (ids := [0, 1]) (π := [.callv (.v (.bool r4)), .dec false, .dec false, .dec false, .callv (.v (.bool r9)), .dec false, .callv (.v (.bool r12)), .dec false, .dec true, .dec false]) (hx := by kernel_rfl) (hps := pc (k_names_place_Device h5) <| pc (h6) <| pc (h7) <| pc (h8) <| pc (k_names_rising h10) <| pc (h11) <| pc (k_slices_Contains_int h13) <| pc (h14) <| pc (h15) <| pc (h16) <| pn)
            · injection h with h; subst h; exact runLp_sound mixedOrders (live := [1, 3, 5, 6]) (ids := [0, 1]) (π := [.callv (.v (.bool r4)), .dec false, .dec false, .dec false, .callv (.v (.bool r9)), .dec false, .callv (.v (.bool r12)), .dec false, .dec false]) (hx := by kernel_rfl) (hps := pc (k_names_place_Device h5) <| pc (h6) <| pc (h7) <| pc (h8) <| pc (k_names_rising h10) <| pc (h11) <| pc (k_slices_Contains_int h13) <| pc (h14) <| pc (h15) <| pn)

theorem k_names_judge_port_L2 {a1 : Names_judge} {a2 : Int} {a3 : Api_Port} : LoopOK Try.prog UU 0 111 (subC (codeOf Try.f82) [1, 1, 0, 1, 0, 0]) (ρ := Unit ⊕ Unit) (names_judge_port_L2 a1 a2 a3)
    (fun v19 : Int => ([(1, .v (.int .i64 a2)), (3, .op 0 1 0 0), (5, .op 1 1 0 0), (6, .v (.bool false)), (51, .sl 3 a3.tagged), (52, .v (.int .i64 (a3.tagged.length : Int))), (53, .v (.int .i64 v19))] : Fr DD)) (fun v19 : Int => ([.box 143 (c143 a1) false, .box 63 (c63 a3) false] : Heap DD)) (fun r => match r with | Sum.inl _ => .ret | Sum.inr _ => .exit 0) (fun r => match r with | Sum.inl _ => [(6, .v (.bool false))] | Sum.inr _ => [(1, .v (.int .i64 a2)), (3, .op 0 1 0 0), (5, .op 1 1 0 0), (6, .v (.bool false))]) (fun r => match r with | Sum.inl _ => [] | Sum.inr _ => [.box 143 (c143 a1) false, .box 63 (c63 a3) false]) := by
  refine loop_sound3 (fun s q h => ?_) (fun r => ?_)
  · replace h : names_judge_port_L2 a1 a2 a3 s = some q := h; revert h; revert s; intro v19 h
    unfold names_judge_port_L2 at h
    rcases ite_out h with ⟨h20, h⟩ | ⟨h20, h⟩
    · obtain ⟨x21, h22, h⟩ := bind_out h
      obtain ⟨r23, h24, h⟩ := bind_out h
      rcases ite_out h with ⟨h25, h⟩ | ⟨h25, h⟩
      · injection h with h; subst h; exact runLp_sound mixedOrders (live := [6]) (ids := []) (π := [.dec true, .row (c3 x21), .callv (.v (.int .i64 r23)), .dec true]) (hx := by kernel_rfl) (hps := pc (h20) <| pc (ob3 h22) <| pc (k_names_judge_domain h24) <| pc (h25) <| pn)
      · injection h with h; subst h; exact runLp_sound mixedOrders (live := [1, 3, 5, 6, 51, 52, 53]) (ids := [0, 1]) (π := [.dec true, .row (c3 x21), .callv (.v (.int .i64 r23)), .dec false]) (hx := by kernel_rfl) (hps := pc (h20) <| pc (ob3 h22) <| pc (k_names_judge_domain h24) <| pc (h25) <| pn)
    · injection h with h; subst h; exact runLp_sound mixedOrders (live := [1, 3, 5, 6]) (ids := [0, 1]) (π := [.dec false]) (hx := by kernel_rfl) (hps := pc (h20) <| pn)
  · rcases r with _ | _ <;> exact Ex.noConfusion

theorem k_names_judge_port_J3 {a1 : Names_judge} {a2 : Int} {a3 : Api_Port} {r : Unit ⊕ Unit} (h : names_judge_port_J3 a1 a2 a3 = some r) :
    ExecOK Try.prog UU 0 111 (subC (codeOf Try.f82) [1, 1, 1, 0]) [(1, .v (.int .i64 a2)), (3, .op 0 1 0 0), (5, .op 1 1 0 0), (6, .v (.bool false))] [.box 143 (c143 a1) false, .box 63 (c63 a3) false] ((fun r => match r with | Sum.inl _ => .ret | Sum.inr _ => .nor) r) ((fun r => match r with | Sum.inl _ => [(6, .v (.bool false))] | Sum.inr _ => [(1, .v (.int .i64 a2)), (3, .op 0 1 0 0), (5, .op 1 1 0 0), (6, .v (.bool false))]) r) ((fun r => match r with | Sum.inl _ => [] | Sum.inr _ => [.box 143 (c143 a1) false, .box 63 (c63 a3) false]) r) := by
  unfold names_judge_port_J3 at h
  rcases ite_out h with ⟨h28, h⟩ | ⟨h28, h⟩
  · obtain ⟨r29, h30, h⟩ := bind_out h
    rcases ite_out h with ⟨h31, h⟩ | ⟨h31, h⟩
    · injection h with h; subst h; exact runLp_sound mixedOrders (live := [6]) (ids := []) (π := [.dec true, .callv (.v (.int .i64 r29)), .dec true]) (hx := by kernel_rfl) (hps := pc (h28) <| pc (k_names_judge_domain h30) <| pc (h31) <| pn)
    · injection h with h; subst h; exact runLp_sound mixedOrders (live := [1, 3, 5, 6]) (ids := [0, 1]) (π := [.dec true, .callv (.v (.int .i64 r29)), .dec false]) (hx := by kernel_rfl) (hps := pc (h28) <| pc (k_names_judge_domain h30) <| pc (h31) <| pn)
  · injection h with h; subst h; exact runLp_sound mixedOrders (live := [1, 3, 5, 6]) (ids := [0, 1]) (π := [.dec false]) (hx := by kernel_rfl) (hps := pc (h28) <| pn)

theorem k_names_judge_port {a1 : Names_judge} {a2 : Int} {a3 : Api_Port} {r : Bool} (h : names_judge_port a1 a2 a3 = some r) :
    CallsOK Try.prog UU 82 [.agg (c143 a1), .v (.int .i64 a2), .agg (c63 a3)] [] (.v (.bool r)) [] := by
  unfold names_judge_port at h
  obtain ⟨r18, h17, h⟩ := bind_out h
  rcases r18 with _ | _
  · injection h with h; subst h; exact runFn_sound mixedOrders Try.func82 rfl (keep := none) (π := [.skp, .cut [1, 3, 5, 6] [0, 1] .ret [(6, .v (.bool false))] []]) (hrun := by kernel_rfl) (hps := pc (k_names_judge_port_J1 h17) <| pn)
  · obtain ⟨r27, h26, h⟩ := bind_out h
    rcases r27 with _ | _
    · injection h with h; subst h; exact runFn_sound mixedOrders Try.func82 rfl (keep := none) (π := [.skp, .cut [1, 3, 5, 6] [0, 1] .nor [(1, .v (.int .i64 a2)), (3, .op 0 1 0 0), (5, .op 1 1 0 0), (6, .v (.bool false))] [.box 143 (c143 a1) false, .box 63 (c63 a3) false], .sum [1, 3, 5, 6, 51, 52, 53] [0, 1] .ret [(6, .v (.bool false))] []]) (hrun := by kernel_rfl) (hps := pc (k_names_judge_port_J1 h17) <| pc (k_names_judge_port_L2 _ _ h26) <| pn)
    · obtain ⟨r33, h32, h⟩ := bind_out h
      rcases r33 with _ | _
      · injection h with h; subst h; exact runFn_sound mixedOrders Try.func82 rfl (keep := none) (π := [.skp, .cut [1, 3, 5, 6] [0, 1] .nor [(1, .v (.int .i64 a2)), (3, .op 0 1 0 0), (5, .op 1 1 0 0), (6, .v (.bool false))] [.box 143 (c143 a1) false, .box 63 (c63 a3) false], .sum [1, 3, 5, 6, 51, 52, 53] [0, 1] (.exit 0) [(1, .v (.int .i64 a2)), (3, .op 0 1 0 0), (5, .op 1 1 0 0), (6, .v (.bool false))] [.box 143 (c143 a1) false, .box 63 (c63 a3) false], .cut [1, 3, 5, 6] [0, 1] .ret [(6, .v (.bool false))] []]) (hrun := by kernel_rfl) (hps := pc (k_names_judge_port_J1 h17) <| pc (k_names_judge_port_L2 _ _ h26) <| pc (k_names_judge_port_J3 h32) <| pn)
      · rcases ite_out h with ⟨h34, h⟩ | ⟨h34, h⟩
        · injection h with h; subst h; exact runFn_sound mixedOrders Try.func82 rfl (keep := none) (π := [.skp, .cut [1, 3, 5, 6] [0, 1] .nor [(1, .v (.int .i64 a2)), (3, .op 0 1 0 0), (5, .op 1 1 0 0), (6, .v (.bool false))] [.box 143 (c143 a1) false, .box 63 (c63 a3) false], .sum [1, 3, 5, 6, 51, 52, 53] [0, 1] (.exit 0) [(1, .v (.int .i64 a2)), (3, .op 0 1 0 0), (5, .op 1 1 0 0), (6, .v (.bool false))] [.box 143 (c143 a1) false, .box 63 (c63 a3) false], .cut [1, 3, 5, 6] [0, 1] .nor [(1, .v (.int .i64 a2)), (3, .op 0 1 0 0), (5, .op 1 1 0 0), (6, .v (.bool false))] [.box 143 (c143 a1) false, .box 63 (c63 a3) false], .dec true]) (hrun := by kernel_rfl) (hps := pc (k_names_judge_port_J1 h17) <| pc (k_names_judge_port_L2 _ _ h26) <| pc (k_names_judge_port_J3 h32) <| pc (h34) <| pn)
        · obtain ⟨r35, h36, h⟩ := bind_out h
          rcases ite_out h with ⟨h37, h⟩ | ⟨h37, h⟩
          · obtain ⟨x38, h39, h⟩ := bind_out h
            rcases ite_out h with ⟨h40, h⟩ | ⟨h40, h⟩
            · injection h with h; subst h; exact runFn_sound mixedOrders Try.func82 rfl (keep := none) (π := [.skp, .cut [1, 3, 5, 6] [0, 1] .nor [(1, .v (.int .i64 a2)), (3, .op 0 1 0 0), (5, .op 1 1 0 0), (6, .v (.bool false))] [.box 143 (c143 a1) false, .box 63 (c63 a3) false], .sum [1, 3, 5, 6, 51, 52, 53] [0, 1] (.exit 0) [(1, .v (.int .i64 a2)), (3, .op 0 1 0 0), (5, .op 1 1 0 0), (6, .v (.bool false))] [.box 143 (c143 a1) false, .box 63 (c63 a3) false], .cut [1, 3, 5, 6] [0, 1] .nor [(1, .v (.int .i64 a2)), (3, .op 0 1 0 0), (5, .op 1 1 0 0), (6, .v (.bool false))] [.box 143 (c143 a1) false, .box 63 (c63 a3) false], .dec false, .callv (.v (.bool r35)), .dec true, .row (c88 x38), .dec true]) (hrun := by kernel_rfl) (hps := pc (k_names_judge_port_J1 h17) <| pc (k_names_judge_port_L2 _ _ h26) <| pc (k_names_judge_port_J3 h32) <| pc (h34) <| pc (k_names_place_Link h36) <| pc (h37) <| pc (ob88 h39) <| pc (h40) <| pn)
            · obtain ⟨x41, h42, h⟩ := bind_out h
              injection h with h; subst h; exact runFn_sound mixedOrders Try.func82 rfl (keep := none) (π := [.skp, .cut [1, 3, 5, 6] [0, 1] .nor [(1, .v (.int .i64 a2)), (3, .op 0 1 0 0), (5, .op 1 1 0 0), (6, .v (.bool false))] [.box 143 (c143 a1) false, .box 63 (c63 a3) false], .sum [1, 3, 5, 6, 51, 52, 53] [0, 1] (.exit 0) [(1, .v (.int .i64 a2)), (3, .op 0 1 0 0), (5, .op 1 1 0 0), (6, .v (.bool false))] [.box 143 (c143 a1) false, .box 63 (c63 a3) false], .cut [1, 3, 5, 6] [0, 1] .nor [(1, .v (.int .i64 a2)), (3, .op 0 1 0 0), (5, .op 1 1 0 0), (6, .v (.bool false))] [.box 143 (c143 a1) false, .box 63 (c63 a3) false], .dec false, .callv (.v (.bool r35)), .dec true, .row (c88 x38), .dec false, .row (c88 x41)]) (hrun := by kernel_rfl) (hps := pc (k_names_judge_port_J1 h17) <| pc (k_names_judge_port_L2 _ _ h26) <| pc (k_names_judge_port_J3 h32) <| pc (h34) <| pc (k_names_place_Link h36) <| pc (h37) <| pc (ob88 h39) <| pc (h40) <| pc (ob88 h42) <| pn)
          · injection h with h; subst h; exact runFn_sound mixedOrders Try.func82 rfl (keep := none) (π := [.skp, .cut [1, 3, 5, 6] [0, 1] .nor [(1, .v (.int .i64 a2)), (3, .op 0 1 0 0), (5, .op 1 1 0 0), (6, .v (.bool false))] [.box 143 (c143 a1) false, .box 63 (c63 a3) false], .sum [1, 3, 5, 6, 51, 52, 53] [0, 1] (.exit 0) [(1, .v (.int .i64 a2)), (3, .op 0 1 0 0), (5, .op 1 1 0 0), (6, .v (.bool false))] [.box 143 (c143 a1) false, .box 63 (c63 a3) false], .cut [1, 3, 5, 6] [0, 1] .nor [(1, .v (.int .i64 a2)), (3, .op 0 1 0 0), (5, .op 1 1 0 0), (6, .v (.bool false))] [.box 143 (c143 a1) false, .box 63 (c63 a3) false], .dec false, .callv (.v (.bool r35)), .dec false]) (hrun := by kernel_rfl) (hps := pc (k_names_judge_port_J1 h17) <| pc (k_names_judge_port_L2 _ _ h26) <| pc (k_names_judge_port_J3 h32) <| pc (h34) <| pc (k_names_place_Link h36) <| pc (h37) <| pn)

theorem k_names_all_Port_judge_port_L1 {a1 : List Api_Port} {a2 : Names_judge} : LoopOK Try.prog UU 0 20 (subC (codeOf Try.f81) [1, 0, 1, 0, 0]) (ρ := Unit ⊕ Unit) (names_all_Port_judge_port_L1 a1 a2)
    (fun v3 : Int => ([(1, .fn (.func 82) [.agg (c143 a2)] []), (4, .v (.bool false)), (7, .sl 63 a1), (8, .v (.int .i64 (a1.length : Int))), (9, .v (.int .i64 v3))] : Fr DD)) (fun v3 : Int => ([] : Heap DD)) (fun r => match r with | Sum.inl _ => .ret | Sum.inr _ => .exit 0) (fun r => match r with | Sum.inl _ => [(4, .v (.bool false))] | Sum.inr _ => [(4, .v (.bool false))]) (fun r => match r with | Sum.inl _ => [] | Sum.inr _ => []) := by
  refine loop_sound3 (fun s q h => ?_) (fun r => ?_)
  · replace h : names_all_Port_judge_port_L1 a1 a2 s = some q := h; revert h; revert s; intro v3 h
    unfold names_all_Port_judge_port_L1 at h
    rcases ite_out h with ⟨h4, h⟩ | ⟨h4, h⟩
    · obtain ⟨x5, h6, h⟩ := bind_out h
      obtain ⟨r7, h8, h⟩ := bind_out h
      rcases ite_out h with ⟨h9, h⟩ | ⟨h9, h⟩
      · injection h with h; subst h; exact runLp_sound mixedOrders (live := [4]) (ids := []) (π := [.dec true, .row (c63 x5), .callv (.v (.bool r7)), .dec true]) (hx := by kernel_rfl) (hps := pc (h4) <| pc (ob63 h6) <| pc (k_names_judge_port h8) <| pc (h9) <| pn)
      · injection h with h; subst h; exact runLp_sound mixedOrders (live := [1, 4, 7, 8, 9]) (ids := []) (π := [.dec true, .row (c63 x5), .callv (.v (.bool r7)), .dec false]) (hx := by kernel_rfl) (hps := pc (h4) <| pc (ob63 h6) <| pc (k_names_judge_port h8) <| pc (h9) <| pn)
    · injection h with h; subst h; exact runLp_sound mixedOrders (live := [4]) (ids := []) (π := [.dec false]) (hx := by kernel_rfl) (hps := pc (h4) <| pn)
  · rcases r with _ | _ <;> exact Ex.noConfusion

theorem k_names_all_Port_judge_port {a1 : List Api_Port} {a2 : Names_judge} {r : Bool} (h : names_all_Port_judge_port a1 a2 = some r) :
    CallsOK Try.prog UU 81 [.sl 63 a1, .fn (.func 82) [.agg (c143 a2)] []] [] (.v (.bool r)) [] := by
  unfold names_all_Port_judge_port at h
  obtain ⟨r11, h10, h⟩ := bind_out h
  rcases r11 with _ | _
  · injection h with h; subst h; exact runFn_sound mixedOrders Try.func81 rfl (keep := none) (π := [.sum [1, 4, 7, 8, 9] [] .ret [(4, .v (.bool false))] []]) (hrun := by kernel_rfl) (hps := pc (k_names_all_Port_judge_port_L1 _ _ h10) <| pn)
  · injection h with h; subst h; exact runFn_sound mixedOrders Try.func81 rfl (keep := none) (π := [.sum [1, 4, 7, 8, 9] [] (.exit 0) [(4, .v (.bool false))] []]) (hrun := by kernel_rfl) (hps := pc (k_names_all_Port_judge_port_L1 _ _ h10) <| pn)

theorem k_names_place_Port {a1 : List Api_Port} {a2 : Int} {r : Bool} (h : names_place_Port a1 a2 = some r) :
    CallsOK Try.prog UU 139 [.sl 63 a1, .v (.int .i64 a2)] [] (.v (.bool r)) [] := by
  unfold names_place_Port at h
  rcases ite_out h with ⟨h3, h⟩ | ⟨h3, h⟩
  · injection h with h; subst h; exact runFn_sound mixedOrders Try.func139 rfl (keep := none) (π := [.dec true]) (hrun := by kernel_rfl) (hps := pc (h3) <| pn)
  · injection h with h; subst h; exact runFn_sound mixedOrders Try.func139 rfl (keep := none) (π := [.dec false]) (hrun := by kernel_rfl) (hps := pc (h3) <| pn)

theorem k_names_judge_link {a1 : Names_judge} {a2 : Int} {a3 : Api_Link} {r : Bool} (h : names_judge_link a1 a2 a3 = some r) :
    CallsOK Try.prog UU 84 [.agg (c143 a1), .v (.int .i64 a2), .agg (c88 a3)] [] (.v (.bool r)) [] := by
  unfold names_judge_link at h
  obtain ⟨r4, h5, h⟩ := bind_out h
  rcases ite_out h with ⟨h6, h⟩ | ⟨h6, h⟩
  · injection h with h; subst h; exact runFn_sound mixedOrders Try.func84 rfl (keep := none) (π := [.callv (.v (.bool r4)), .dec true]) (hrun := by kernel_rfl) (hps := pc (k_names_place_Port h5) <| pc (h6) <| pn)
  · obtain ⟨r7, h8, h⟩ := bind_out h
    rcases ite_out h with ⟨h9, h⟩ | ⟨h9, h⟩
    · injection h with h; subst h; exact runFn_sound mixedOrders Try.func84 rfl (keep := none) (π := [.callv (.v (.bool r4)), .dec false, .callv (.v (.bool r7)), .dec true]) (hrun := by kernel_rfl) (hps := pc (k_names_place_Port h5) <| pc (h6) <| pc (k_names_place_Port h8) <| pc (h9) <| pn)
    · obtain ⟨x10, h11, h⟩ := bind_out h
      obtain ⟨x12, h13, h⟩ := bind_out h
      rcases ite_out h with ⟨h14, h⟩ | ⟨h14, h⟩
      · rcases ite_out h with ⟨h15, h⟩ | ⟨h15, h⟩
        · injection h with h; subst h; exact runFn_sound mixedOrders Try.func84 rfl (keep := none) (π := [.callv (.v (.bool r4)), .dec false, .callv (.v (.bool r7)), .dec false, .row (c63 x10), .row (c63 x12), .dec true, .dec true]) (hrun := by kernel_rfl) (hps := pc (k_names_place_Port h5) <| pc (h6) <| pc (k_names_place_Port h8) <| pc (h9) <| pc (ob63 h11) <| pc (ob63 h13) <| pc (h14) <| pc (h15) <| pn)
        · injection h with h; subst h; exact runFn_sound mixedOrders Try.func84 rfl (keep := none) (π := [.callv (.v (.bool r4)), .dec false, .callv (.v (.bool r7)), .dec false, .row (c63 x10), .row (c63 x12), .dec true, .dec false]) (hrun := by kernel_rfl) (hps := pc (k_names_place_Port h5) <| pc (h6) <| pc (k_names_place_Port h8) <| pc (h9) <| pc (ob63 h11) <| pc (ob63 h13) <| pc (h14) <| pc (h15) <| pn)
      · injection h with h; subst h; exact runFn_sound mixedOrders Try.func84 rfl (keep := none) (π := [.callv (.v (.bool r4)), .dec false, .callv (.v (.bool r7)), .dec false, .row (c63 x10), .row (c63 x12), .dec false]) (hrun := by kernel_rfl) (hps := pc (k_names_place_Port h5) <| pc (h6) <| pc (k_names_place_Port h8) <| pc (h9) <| pc (ob63 h11) <| pc (ob63 h13) <| pc (h14) <| pn)

theorem k_names_all_Link_judge_link_L1 {a1 : List Api_Link} {a2 : Names_judge} : LoopOK Try.prog UU 0 20 (subC (codeOf Try.f83) [1, 0, 1, 0, 0]) (ρ := Unit ⊕ Unit) (names_all_Link_judge_link_L1 a1 a2)
    (fun v3 : Int => ([(1, .fn (.func 84) [.agg (c143 a2)] []), (4, .v (.bool false)), (7, .sl 88 a1), (8, .v (.int .i64 (a1.length : Int))), (9, .v (.int .i64 v3))] : Fr DD)) (fun v3 : Int => ([] : Heap DD)) (fun r => match r with | Sum.inl _ => .ret | Sum.inr _ => .exit 0) (fun r => match r with | Sum.inl _ => [(4, .v (.bool false))] | Sum.inr _ => [(4, .v (.bool false))]) (fun r => match r with | Sum.inl _ => [] | Sum.inr _ => []) := by
  refine loop_sound3 (fun s q h => ?_) (fun r => ?_)
  · replace h : names_all_Link_judge_link_L1 a1 a2 s = some q := h; revert h; revert s; intro v3 h
    unfold names_all_Link_judge_link_L1 at h
    rcases ite_out h with ⟨h4, h⟩ | ⟨h4, h⟩
    · obtain ⟨x5, h6, h⟩ := bind_out h
      obtain ⟨r7, h8, h⟩ := bind_out h
      rcases ite_out h with ⟨h9, h⟩ | ⟨h9, h⟩
      · injection h with h; subst h; exact runLp_sound mixedOrders (live := [4]) (ids := []) (π := [.dec true, .row (c88 x5), .callv (.v (.bool r7)), .dec true]) (hx := by kernel_rfl) (hps := pc (h4) <| pc (ob88 h6) <| pc (k_names_judge_link h8) <| pc (h9) <| pn)
      · injection h with h; subst h; exact runLp_sound mixedOrders (live := [1, 4, 7, 8, 9]) (ids := []) (π := [.dec true, .row (c88 x5), .callv (.v (.bool r7)), .dec false]) (hx := by kernel_rfl) (hps := pc (h4) <| pc (ob88 h6) <| pc (k_names_judge_link h8) <| pc (h9) <| pn)
    · injection h with h; subst h; exact runLp_sound mixedOrders (live := [4]) (ids := []) (π := [.dec false]) (hx := by kernel_rfl) (hps := pc (h4) <| pn)
  · rcases r with _ | _ <;> exact Ex.noConfusion

theorem k_names_all_Link_judge_link {a1 : List Api_Link} {a2 : Names_judge} {r : Bool} (h : names_all_Link_judge_link a1 a2 = some r) :
    CallsOK Try.prog UU 83 [.sl 88 a1, .fn (.func 84) [.agg (c143 a2)] []] [] (.v (.bool r)) [] := by
  unfold names_all_Link_judge_link at h
  obtain ⟨r11, h10, h⟩ := bind_out h
  rcases r11 with _ | _
  · injection h with h; subst h; exact runFn_sound mixedOrders Try.func83 rfl (keep := none) (π := [.sum [1, 4, 7, 8, 9] [] .ret [(4, .v (.bool false))] []]) (hrun := by kernel_rfl) (hps := pc (k_names_all_Link_judge_link_L1 _ _ h10) <| pn)
  · injection h with h; subst h; exact runFn_sound mixedOrders Try.func83 rfl (keep := none) (π := [.sum [1, 4, 7, 8, 9] [] (.exit 0) [(4, .v (.bool false))] []]) (hrun := by kernel_rfl) (hps := pc (k_names_all_Link_judge_link_L1 _ _ h10) <| pn)

theorem k_names_Member {a1 : Api_Port} {a2 : Int} {r : Bool} (h : names_Member a1 a2 = some r) :
    CallsOK Try.prog UU 96 [.agg (c63 a1), .v (.int .i64 a2)] [] (.v (.bool r)) [] := by
  unfold names_Member at h
  rcases ite_out h with ⟨h3, h⟩ | ⟨h3, h⟩
  · rcases ite_out h with ⟨h4, h⟩ | ⟨h4, h⟩
    · injection h with h; subst h; exact runFn_sound mixedOrders Try.func96 rfl (keep := none) (π := [.dec true, .dec true]) (hrun := by kernel_rfl) (hps := pc (h3) <| pc (h4) <| pn)
    · obtain ⟨r5, h6, h⟩ := bind_out h
      injection h with h; subst h; exact runFn_sound mixedOrders Try.func96 rfl (keep := none) (π := [.dec true, .dec false, .callv (.v (.bool r5))]) (hrun := by kernel_rfl) (hps := pc (h3) <| pc (h4) <| pc (k_slices_Contains_int h6) <| pn)
  · injection h with h; subst h; exact runFn_sound mixedOrders Try.func96 rfl (keep := none) (π := [.dec false]) (hrun := by kernel_rfl) (hps := pc (h3) <| pn)

theorem k_names_judge_static {a1 : Names_judge} {a2 : Int} {a3 : Api_Static} {r : Bool} (h : names_judge_static a1 a2 a3 = some r) :
    CallsOK Try.prog UU 86 [.agg (c143 a1), .v (.int .i64 a2), .agg (c127 a3)] [] (.v (.bool r)) [] := by
  unfold names_judge_static at h
  obtain ⟨r4, h5, h⟩ := bind_out h
  rcases ite_out h with ⟨h6, h⟩ | ⟨h6, h⟩
  · injection h with h; subst h; exact runFn_sound mixedOrders Try.func86 rfl (keep := none) (π := [.callv (.v (.bool r4)), .dec true]) (hrun := by kernel_rfl) (hps := pc (k_names_place_Domain h5) <| pc (h6) <| pn)
  · obtain ⟨r7, h8, h⟩ := bind_out h
    rcases ite_out h with ⟨h9, h⟩ | ⟨h9, h⟩
    · injection h with h; subst h; exact runFn_sound mixedOrders Try.func86 rfl (keep := none) (π := [.callv (.v (.bool r4)), .dec false, .callv (.v (.bool r7)), .dec true]) (hrun := by kernel_rfl) (hps := pc (k_names_place_Domain h5) <| pc (h6) <| pc (k_names_place_Port h8) <| pc (h9) <| pn)
    · obtain ⟨x10, h11, h⟩ := bind_out h
      obtain ⟨x12, h13, h⟩ := bind_out h
      rcases ite_out h with ⟨h14, h⟩ | ⟨h14, h⟩
      · obtain ⟨r15, h16, h⟩ := bind_out h
        injection h with h; subst h; exact runFn_sound mixedOrders Try.func86 rfl (keep := none) (π := [.callv (.v (.bool r4)), .dec false, .callv (.v (.bool r7)), .dec false, .row (c63 x10), .row (c65 x12), .dec true, .callv (.v (.bool r15))]) (hrun := by kernel_rfl) (hps := pc (k_names_place_Domain h5) <| pc (h6) <| pc (k_names_place_Port h8) <| pc (h9) <| pc (ob63 h11) <| pc (ob65 h13) <| pc (h14) <| pc (k_names_Member h16) <| pn)
      · injection h with h; subst h; exact runFn_sound mixedOrders Try.func86 rfl (keep := none) (π := [.callv (.v (.bool r4)), .dec false, .callv (.v (.bool r7)), .dec false, .row (c63 x10), .row (c65 x12), .dec false]) (hrun := by kernel_rfl) (hps := pc (k_names_place_Domain h5) <| pc (h6) <| pc (k_names_place_Port h8) <| pc (h9) <| pc (ob63 h11) <| pc (ob65 h13) <| pc (h14) <| pn)

theorem k_names_all_Static_judge_static_L1 {a1 : List Api_Static} {a2 : Names_judge} : LoopOK Try.prog UU 0 20 (subC (codeOf Try.f85) [1, 0, 1, 0, 0]) (ρ := Unit ⊕ Unit) (names_all_Static_judge_static_L1 a1 a2)
    (fun v3 : Int => ([(1, .fn (.func 86) [.agg (c143 a2)] []), (4, .v (.bool false)), (7, .sl 127 a1), (8, .v (.int .i64 (a1.length : Int))), (9, .v (.int .i64 v3))] : Fr DD)) (fun v3 : Int => ([] : Heap DD)) (fun r => match r with | Sum.inl _ => .ret | Sum.inr _ => .exit 0) (fun r => match r with | Sum.inl _ => [(4, .v (.bool false))] | Sum.inr _ => [(4, .v (.bool false))]) (fun r => match r with | Sum.inl _ => [] | Sum.inr _ => []) := by
  refine loop_sound3 (fun s q h => ?_) (fun r => ?_)
  · replace h : names_all_Static_judge_static_L1 a1 a2 s = some q := h; revert h; revert s; intro v3 h
    unfold names_all_Static_judge_static_L1 at h
    rcases ite_out h with ⟨h4, h⟩ | ⟨h4, h⟩
    · obtain ⟨x5, h6, h⟩ := bind_out h
      obtain ⟨r7, h8, h⟩ := bind_out h
      rcases ite_out h with ⟨h9, h⟩ | ⟨h9, h⟩
      · injection h with h; subst h; exact runLp_sound mixedOrders (live := [4]) (ids := []) (π := [.dec true, .row (c127 x5), .callv (.v (.bool r7)), .dec true]) (hx := by kernel_rfl) (hps := pc (h4) <| pc (ob127 h6) <| pc (k_names_judge_static h8) <| pc (h9) <| pn)
      · injection h with h; subst h; exact runLp_sound mixedOrders (live := [1, 4, 7, 8, 9]) (ids := []) (π := [.dec true, .row (c127 x5), .callv (.v (.bool r7)), .dec false]) (hx := by kernel_rfl) (hps := pc (h4) <| pc (ob127 h6) <| pc (k_names_judge_static h8) <| pc (h9) <| pn)
    · injection h with h; subst h; exact runLp_sound mixedOrders (live := [4]) (ids := []) (π := [.dec false]) (hx := by kernel_rfl) (hps := pc (h4) <| pn)
  · rcases r with _ | _ <;> exact Ex.noConfusion

theorem k_names_all_Static_judge_static {a1 : List Api_Static} {a2 : Names_judge} {r : Bool} (h : names_all_Static_judge_static a1 a2 = some r) :
    CallsOK Try.prog UU 85 [.sl 127 a1, .fn (.func 86) [.agg (c143 a2)] []] [] (.v (.bool r)) [] := by
  unfold names_all_Static_judge_static at h
  obtain ⟨r11, h10, h⟩ := bind_out h
  rcases r11 with _ | _
  · injection h with h; subst h; exact runFn_sound mixedOrders Try.func85 rfl (keep := none) (π := [.sum [1, 4, 7, 8, 9] [] .ret [(4, .v (.bool false))] []]) (hrun := by kernel_rfl) (hps := pc (k_names_all_Static_judge_static_L1 _ _ h10) <| pn)
  · injection h with h; subst h; exact runFn_sound mixedOrders Try.func85 rfl (keep := none) (π := [.sum [1, 4, 7, 8, 9] [] (.exit 0) [(4, .v (.bool false))] []]) (hrun := by kernel_rfl) (hps := pc (k_names_all_Static_judge_static_L1 _ _ h10) <| pn)

theorem k_names_Right_1 {a1 : Int} {a2 : Api_Flood} {a3 : Api_Net} {r : Bool} (h : names_Right_1 a1 a2 a3 = some r) :
    CallsOK Try.prog UU 88 [.v (.int .i64 a1), .agg (c82 a2), .rp (c31 a3) 0] [] (.v (.bool r)) [] := by
  unfold names_Right_1 at h
  obtain ⟨r4, h5, h⟩ := bind_out h
  rcases ite_out h with ⟨h6, h⟩ | ⟨h6, h⟩
  · injection h with h; subst h; exact runFn_sound mixedOrders Try.func88 rfl (keep := none) (π := [.callv (.v (.bool r4)), .dec true]) (hrun := by kernel_rfl) (hps := pc (k_names_place_Device h5) <| pc (h6) <| pn)
  · injection h with h; subst h; exact runFn_sound mixedOrders Try.func88 rfl (keep := none) (π := [.callv (.v (.bool r4)), .dec false]) (hrun := by kernel_rfl) (hps := pc (k_names_place_Device h5) <| pc (h6) <| pn)

theorem k_names_all_Flood_Right_1_L1 {a1 : List Api_Flood} {a2 : Api_Net} : LoopOK Try.prog UU 0 20 (subC (codeOf Try.f87) [1, 0, 1, 0, 0]) (ρ := Unit ⊕ Unit) (names_all_Flood_Right_1_L1 a1 a2)
    (fun v3 : Int => ([(1, .fn (.func 88) [] [.rp (c31 a2) 0]), (4, .v (.bool false)), (7, .sl 82 a1), (8, .v (.int .i64 (a1.length : Int))), (9, .v (.int .i64 v3))] : Fr DD)) (fun v3 : Int => ([] : Heap DD)) (fun r => match r with | Sum.inl _ => .ret | Sum.inr _ => .exit 0) (fun r => match r with | Sum.inl _ => [(4, .v (.bool false))] | Sum.inr _ => [(4, .v (.bool false))]) (fun r => match r with | Sum.inl _ => [] | Sum.inr _ => []) := by
  refine loop_sound3 (fun s q h => ?_) (fun r => ?_)
  · replace h : names_all_Flood_Right_1_L1 a1 a2 s = some q := h; revert h; revert s; intro v3 h
    unfold names_all_Flood_Right_1_L1 at h
    rcases ite_out h with ⟨h4, h⟩ | ⟨h4, h⟩
    · obtain ⟨x5, h6, h⟩ := bind_out h
      obtain ⟨r7, h8, h⟩ := bind_out h
      rcases ite_out h with ⟨h9, h⟩ | ⟨h9, h⟩
      · injection h with h; subst h; exact runLp_sound mixedOrders (live := [4]) (ids := []) (π := [.dec true, .row (c82 x5), .callv (.v (.bool r7)), .dec true]) (hx := by kernel_rfl) (hps := pc (h4) <| pc (ob82 h6) <| pc (k_names_Right_1 h8) <| pc (h9) <| pn)
      · injection h with h; subst h; exact runLp_sound mixedOrders (live := [1, 4, 7, 8, 9]) (ids := []) (π := [.dec true, .row (c82 x5), .callv (.v (.bool r7)), .dec false]) (hx := by kernel_rfl) (hps := pc (h4) <| pc (ob82 h6) <| pc (k_names_Right_1 h8) <| pc (h9) <| pn)
    · injection h with h; subst h; exact runLp_sound mixedOrders (live := [4]) (ids := []) (π := [.dec false]) (hx := by kernel_rfl) (hps := pc (h4) <| pn)
  · rcases r with _ | _ <;> exact Ex.noConfusion

theorem k_names_all_Flood_Right_1 {a1 : List Api_Flood} {a2 : Api_Net} {r : Bool} (h : names_all_Flood_Right_1 a1 a2 = some r) :
    CallsOK Try.prog UU 87 [.sl 82 a1, .fn (.func 88) [] [.rp (c31 a2) 0]] [] (.v (.bool r)) [] := by
  unfold names_all_Flood_Right_1 at h
  obtain ⟨r11, h10, h⟩ := bind_out h
  rcases r11 with _ | _
  · injection h with h; subst h; exact runFn_sound mixedOrders Try.func87 rfl (keep := none) (π := [.sum [1, 4, 7, 8, 9] [] .ret [(4, .v (.bool false))] []]) (hrun := by kernel_rfl) (hps := pc (k_names_all_Flood_Right_1_L1 _ _ h10) <| pn)
  · injection h with h; subst h; exact runFn_sound mixedOrders Try.func87 rfl (keep := none) (π := [.sum [1, 4, 7, 8, 9] [] (.exit 0) [(4, .v (.bool false))] []]) (hrun := by kernel_rfl) (hps := pc (k_names_all_Flood_Right_1_L1 _ _ h10) <| pn)

theorem k_names_Right_2 {a1 : Int} {a2 : Api_Vrf} {a3 : Api_Net} {r : Bool} (h : names_Right_2 a1 a2 a3 = some r) :
    CallsOK Try.prog UU 91 [.v (.int .i64 a1), .agg (c84 a2), .rp (c31 a3) 0] [] (.v (.bool r)) [] := by
  unfold names_Right_2 at h
  obtain ⟨r4, h5, h⟩ := bind_out h
  rcases ite_out h with ⟨h6, h⟩ | ⟨h6, h⟩
  · obtain ⟨r7, h8, h⟩ := bind_out h
    rcases ite_out h with ⟨h9, h⟩ | ⟨h9, h⟩
    · obtain ⟨r10, h11, h⟩ := bind_out h
      injection h with h; subst h; exact runFn_sound mixedOrders Try.func91 rfl (keep := none) (π := [.callv (.v (.bool r4)), .dec true, .callv (.v (.bool r7)), .dec true, .callv (.v (.bool r10))]) (hrun := by kernel_rfl) (hps := pc (k_names_place_Device h5) <| pc (h6) <| pc (k_names_rising h8) <| pc (h9) <| pc (k_names_rising h11) <| pn)
    · injection h with h; subst h; exact runFn_sound mixedOrders Try.func91 rfl (keep := none) (π := [.callv (.v (.bool r4)), .dec true, .callv (.v (.bool r7)), .dec false]) (hrun := by kernel_rfl) (hps := pc (k_names_place_Device h5) <| pc (h6) <| pc (k_names_rising h8) <| pc (h9) <| pn)
  · injection h with h; subst h; exact runFn_sound mixedOrders Try.func91 rfl (keep := none) (π := [.callv (.v (.bool r4)), .dec false]) (hrun := by kernel_rfl) (hps := pc (k_names_place_Device h5) <| pc (h6) <| pn)

theorem k_names_all_Vrf_Right_2_L1 {a1 : List Api_Vrf} {a2 : Api_Net} : LoopOK Try.prog UU 0 20 (subC (codeOf Try.f90) [1, 0, 1, 0, 0]) (ρ := Unit ⊕ Unit) (names_all_Vrf_Right_2_L1 a1 a2)
    (fun v3 : Int => ([(1, .fn (.func 91) [] [.rp (c31 a2) 0]), (4, .v (.bool false)), (7, .sl 84 a1), (8, .v (.int .i64 (a1.length : Int))), (9, .v (.int .i64 v3))] : Fr DD)) (fun v3 : Int => ([] : Heap DD)) (fun r => match r with | Sum.inl _ => .ret | Sum.inr _ => .exit 0) (fun r => match r with | Sum.inl _ => [(4, .v (.bool false))] | Sum.inr _ => [(4, .v (.bool false))]) (fun r => match r with | Sum.inl _ => [] | Sum.inr _ => []) := by
  refine loop_sound3 (fun s q h => ?_) (fun r => ?_)
  · replace h : names_all_Vrf_Right_2_L1 a1 a2 s = some q := h; revert h; revert s; intro v3 h
    unfold names_all_Vrf_Right_2_L1 at h
    rcases ite_out h with ⟨h4, h⟩ | ⟨h4, h⟩
    · obtain ⟨x5, h6, h⟩ := bind_out h
      obtain ⟨r7, h8, h⟩ := bind_out h
      rcases ite_out h with ⟨h9, h⟩ | ⟨h9, h⟩
      · injection h with h; subst h; exact runLp_sound mixedOrders (live := [4]) (ids := []) (π := [.dec true, .row (c84 x5), .callv (.v (.bool r7)), .dec true]) (hx := by kernel_rfl) (hps := pc (h4) <| pc (ob84 h6) <| pc (k_names_Right_2 h8) <| pc (h9) <| pn)
      · injection h with h; subst h; exact runLp_sound mixedOrders (live := [1, 4, 7, 8, 9]) (ids := []) (π := [.dec true, .row (c84 x5), .callv (.v (.bool r7)), .dec false]) (hx := by kernel_rfl) (hps := pc (h4) <| pc (ob84 h6) <| pc (k_names_Right_2 h8) <| pc (h9) <| pn)
    · injection h with h; subst h; exact runLp_sound mixedOrders (live := [4]) (ids := []) (π := [.dec false]) (hx := by kernel_rfl) (hps := pc (h4) <| pn)
  · rcases r with _ | _ <;> exact Ex.noConfusion

theorem k_names_all_Vrf_Right_2 {a1 : List Api_Vrf} {a2 : Api_Net} {r : Bool} (h : names_all_Vrf_Right_2 a1 a2 = some r) :
    CallsOK Try.prog UU 90 [.sl 84 a1, .fn (.func 91) [] [.rp (c31 a2) 0]] [] (.v (.bool r)) [] := by
  unfold names_all_Vrf_Right_2 at h
  obtain ⟨r11, h10, h⟩ := bind_out h
  rcases r11 with _ | _
  · injection h with h; subst h; exact runFn_sound mixedOrders Try.func90 rfl (keep := none) (π := [.sum [1, 4, 7, 8, 9] [] .ret [(4, .v (.bool false))] []]) (hrun := by kernel_rfl) (hps := pc (k_names_all_Vrf_Right_2_L1 _ _ h10) <| pn)
  · injection h with h; subst h; exact runFn_sound mixedOrders Try.func90 rfl (keep := none) (π := [.sum [1, 4, 7, 8, 9] [] (.exit 0) [(4, .v (.bool false))] []]) (hrun := by kernel_rfl) (hps := pc (k_names_all_Vrf_Right_2_L1 _ _ h10) <| pn)

theorem k_names_place_Vrf {a1 : List Api_Vrf} {a2 : Int} {r : Bool} (h : names_place_Vrf a1 a2 = some r) :
    CallsOK Try.prog UU 141 [.sl 84 a1, .v (.int .i64 a2)] [] (.v (.bool r)) [] := by
  unfold names_place_Vrf at h
  rcases ite_out h with ⟨h3, h⟩ | ⟨h3, h⟩
  · injection h with h; subst h; exact runFn_sound mixedOrders Try.func141 rfl (keep := none) (π := [.dec true]) (hrun := by kernel_rfl) (hps := pc (h3) <| pn)
  · injection h with h; subst h; exact runFn_sound mixedOrders Try.func141 rfl (keep := none) (π := [.dec false]) (hrun := by kernel_rfl) (hps := pc (h3) <| pn)

theorem k_names_judge_irb {a1 : Names_judge} {a2 : Int} {a3 : Api_Irb} {r : Bool} (h : names_judge_irb a1 a2 a3 = some r) :
    CallsOK Try.prog UU 94 [.agg (c143 a1), .v (.int .i64 a2), .agg (c115 a3)] [] (.v (.bool r)) [] := by
  unfold names_judge_irb at h
  obtain ⟨r4, h5, h⟩ := bind_out h
  rcases ite_out h with ⟨h6, h⟩ | ⟨h6, h⟩
  · obtain ⟨r7, h8, h⟩ := bind_out h
    rcases ite_out h with ⟨h9, h⟩ | ⟨h9, h⟩
    · obtain ⟨x10, h11, h⟩ := bind_out h
      obtain ⟨x12, h13, h⟩ := bind_out h
      rcases ite_out h with ⟨h14, h⟩ | ⟨h14, h⟩
      · obtain ⟨x15, h16, h⟩ := bind_out h
        rcases ite_out h with ⟨h17, h⟩ | ⟨h17, h⟩
        · rcases ite_out h with ⟨h18, h⟩ | ⟨h18, h⟩
          · injection h with h; subst h; exact runFn_sound mixedOrders Try.func94 rfl (keep := none) (π := [.callv (.v (.bool r4)), .dec true, .callv (.v (.bool r7)), .dec true, .row (c65 x10), .row (c84 x12), .dec true, .row (c65 x15), .dec true, .dec true]) (hrun := by kernel_rfl) (hps := pc (k_names_place_Domain h5) <| pc (h6) <| pc (k_names_place_Vrf h8) <| pc (h9) <| pc (ob65 h11) <| pc (ob84 h13) <| pc (h14) <| pc (ob65 h16) <| pc (h17) <| pc (h18) <| pn)
          · injection h with h; subst h; exact runFn_sound mixedOrders Try.func94 rfl (keep := none) (π := [.callv (.v (.bool r4)), .dec true, .callv (.v (.bool r7)), .dec true, .row (c65 x10), .row (c84 x12), .dec true, .row (c65 x15), .dec true, .dec false]) (hrun := by kernel_rfl) (hps := pc (k_names_place_Domain h5) <| pc (h6) <| pc (k_names_place_Vrf h8) <| pc (h9) <| pc (ob65 h11) <| pc (ob84 h13) <| pc (h14) <| pc (ob65 h16) <| pc (h17) <| pc (h18) <| pn)
        · injection h with h; subst h; exact runFn_sound mixedOrders Try.func94 rfl (keep := none) (π := [.callv (.v (.bool r4)), .dec true, .callv (.v (.bool r7)), .dec true, .row (c65 x10), .row (c84 x12), .dec true, .row (c65 x15), .dec false]) (hrun := by kernel_rfl) (hps := pc (k_names_place_Domain h5) <| pc (h6) <| pc (k_names_place_Vrf h8) <| pc (h9) <| pc (ob65 h11) <| pc (ob84 h13) <| pc (h14) <| pc (ob65 h16) <| pc (h17) <| pn)
      · injection h with h; subst h; exact runFn_sound mixedOrders Try.func94 rfl (keep := none) (π := [.callv (.v (.bool r4)), .dec true, .callv (.v (.bool r7)), .dec true, .row (c65 x10), .row (c84 x12), .dec false]) (hrun := by kernel_rfl) (hps := pc (k_names_place_Domain h5) <| pc (h6) <| pc (k_names_place_Vrf h8) <| pc (h9) <| pc (ob65 h11) <| pc (ob84 h13) <| pc (h14) <| pn)
    · injection h with h; subst h; exact runFn_sound mixedOrders Try.func94 rfl (keep := none) (π := [.callv (.v (.bool r4)), .dec true, .callv (.v (.bool r7)), .dec false]) (hrun := by kernel_rfl) (hps := pc (k_names_place_Domain h5) <| pc (h6) <| pc (k_names_place_Vrf h8) <| pc (h9) <| pn)
  · injection h with h; subst h; exact runFn_sound mixedOrders Try.func94 rfl (keep := none) (π := [.callv (.v (.bool r4)), .dec false]) (hrun := by kernel_rfl) (hps := pc (k_names_place_Domain h5) <| pc (h6) <| pn)

theorem k_names_all_Irb_judge_irb_L1 {a1 : List Api_Irb} {a2 : Names_judge} : LoopOK Try.prog UU 0 20 (subC (codeOf Try.f93) [1, 0, 1, 0, 0]) (ρ := Unit ⊕ Unit) (names_all_Irb_judge_irb_L1 a1 a2)
    (fun v3 : Int => ([(1, .fn (.func 94) [.agg (c143 a2)] []), (4, .v (.bool false)), (7, .sl 115 a1), (8, .v (.int .i64 (a1.length : Int))), (9, .v (.int .i64 v3))] : Fr DD)) (fun v3 : Int => ([] : Heap DD)) (fun r => match r with | Sum.inl _ => .ret | Sum.inr _ => .exit 0) (fun r => match r with | Sum.inl _ => [(4, .v (.bool false))] | Sum.inr _ => [(4, .v (.bool false))]) (fun r => match r with | Sum.inl _ => [] | Sum.inr _ => []) := by
  refine loop_sound3 (fun s q h => ?_) (fun r => ?_)
  · replace h : names_all_Irb_judge_irb_L1 a1 a2 s = some q := h; revert h; revert s; intro v3 h
    unfold names_all_Irb_judge_irb_L1 at h
    rcases ite_out h with ⟨h4, h⟩ | ⟨h4, h⟩
    · obtain ⟨x5, h6, h⟩ := bind_out h
      obtain ⟨r7, h8, h⟩ := bind_out h
      rcases ite_out h with ⟨h9, h⟩ | ⟨h9, h⟩
      · injection h with h; subst h; exact runLp_sound mixedOrders (live := [4]) (ids := []) (π := [.dec true, .row (c115 x5), .callv (.v (.bool r7)), .dec true]) (hx := by kernel_rfl) (hps := pc (h4) <| pc (ob115 h6) <| pc (k_names_judge_irb h8) <| pc (h9) <| pn)
      · injection h with h; subst h; exact runLp_sound mixedOrders (live := [1, 4, 7, 8, 9]) (ids := []) (π := [.dec true, .row (c115 x5), .callv (.v (.bool r7)), .dec false]) (hx := by kernel_rfl) (hps := pc (h4) <| pc (ob115 h6) <| pc (k_names_judge_irb h8) <| pc (h9) <| pn)
    · injection h with h; subst h; exact runLp_sound mixedOrders (live := [4]) (ids := []) (π := [.dec false]) (hx := by kernel_rfl) (hps := pc (h4) <| pn)
  · rcases r with _ | _ <;> exact Ex.noConfusion

theorem k_names_all_Irb_judge_irb {a1 : List Api_Irb} {a2 : Names_judge} {r : Bool} (h : names_all_Irb_judge_irb a1 a2 = some r) :
    CallsOK Try.prog UU 93 [.sl 115 a1, .fn (.func 94) [.agg (c143 a2)] []] [] (.v (.bool r)) [] := by
  unfold names_all_Irb_judge_irb at h
  obtain ⟨r11, h10, h⟩ := bind_out h
  rcases r11 with _ | _
  · injection h with h; subst h; exact runFn_sound mixedOrders Try.func93 rfl (keep := none) (π := [.sum [1, 4, 7, 8, 9] [] .ret [(4, .v (.bool false))] []]) (hrun := by kernel_rfl) (hps := pc (k_names_all_Irb_judge_irb_L1 _ _ h10) <| pn)
  · injection h with h; subst h; exact runFn_sound mixedOrders Try.func93 rfl (keep := none) (π := [.sum [1, 4, 7, 8, 9] [] (.exit 0) [(4, .v (.bool false))] []]) (hrun := by kernel_rfl) (hps := pc (k_names_all_Irb_judge_irb_L1 _ _ h10) <| pn)

theorem k_names_Right {a1 : Api_Net} {r : Bool} (h : names_Right a1 = some r) :
    CallsOK Try.prog UU 31 [.agg (c31 a1)] [] (.v (.bool r)) [] := by
  unfold names_Right at h
  obtain ⟨r2, h3, h⟩ := bind_out h
  rcases ite_out h with ⟨h4, h⟩ | ⟨h4, h⟩
  · obtain ⟨r5, h6, h⟩ := bind_out h
    rcases ite_out h with ⟨h7, h⟩ | ⟨h7, h⟩
    · obtain ⟨r8, h9, h⟩ := bind_out h
      rcases ite_out h with ⟨h10, h⟩ | ⟨h10, h⟩
      · obtain ⟨r11, h12, h⟩ := bind_out h
        rcases ite_out h with ⟨h13, h⟩ | ⟨h13, h⟩
        · obtain ⟨r14, h15, h⟩ := bind_out h
          rcases ite_out h with ⟨h16, h⟩ | ⟨h16, h⟩
          · obtain ⟨r17, h18, h⟩ := bind_out h
            rcases ite_out h with ⟨h19, h⟩ | ⟨h19, h⟩
            · obtain ⟨r20, h21, h⟩ := bind_out h
              rcases ite_out h with ⟨h22, h⟩ | ⟨h22, h⟩
              · obtain ⟨r23, h24, h⟩ := bind_out h
                rcases ite_out h with ⟨h25, h⟩ | ⟨h25, h⟩
                · obtain ⟨r26, h27, h⟩ := bind_out h
                  injection h with h; subst h; exact runFn_sound mixedOrders Try.func31 rfl (keep := none) (π := [.callv (.v (.bool r2)), .dec true, .callv (.v (.bool r5)), .dec true, .callv (.v (.bool r8)), .dec true, .callv (.v (.bool r11)), .dec true, .callv (.v (.bool r14)), .dec true, .callv (.v (.bool r17)), .dec true, .callv (.v (.bool r20)), .dec true, .callv (.v (.bool r23)), .dec true, .callv (.v (.bool r26))]) (hrun := by kernel_rfl) (hps := pc (k_names_judge_few h3) <| pc (h4) <| pc (k_names_all_Domain_judge_bare h6) <| pc (h7) <| pc (k_names_all_Domain_judge_peers h9) <| pc (h10) <| pc (k_names_all_Port_judge_port h12) <| pc (h13) <| pc (k_names_all_Link_judge_link h15) <| pc (h16) <| pc (k_names_all_Static_judge_static h18) <| pc (h19) <| pc (k_names_all_Flood_Right_1 h21) <| pc (h22) <| pc (k_names_all_Vrf_Right_2 h24) <| pc (h25) <| pc (k_names_all_Irb_judge_irb h27) <| pn)
                · injection h with h; subst h; exact runFn_sound mixedOrders Try.func31 rfl (keep := none) (π := [.callv (.v (.bool r2)), .dec true, .callv (.v (.bool r5)), .dec true, .callv (.v (.bool r8)), .dec true, .callv (.v (.bool r11)), .dec true, .callv (.v (.bool r14)), .dec true, .callv (.v (.bool r17)), .dec true, .callv (.v (.bool r20)), .dec true, .callv (.v (.bool r23)), .dec false]) (hrun := by kernel_rfl) (hps := pc (k_names_judge_few h3) <| pc (h4) <| pc (k_names_all_Domain_judge_bare h6) <| pc (h7) <| pc (k_names_all_Domain_judge_peers h9) <| pc (h10) <| pc (k_names_all_Port_judge_port h12) <| pc (h13) <| pc (k_names_all_Link_judge_link h15) <| pc (h16) <| pc (k_names_all_Static_judge_static h18) <| pc (h19) <| pc (k_names_all_Flood_Right_1 h21) <| pc (h22) <| pc (k_names_all_Vrf_Right_2 h24) <| pc (h25) <| pn)
              · injection h with h; subst h; exact runFn_sound mixedOrders Try.func31 rfl (keep := none) (π := [.callv (.v (.bool r2)), .dec true, .callv (.v (.bool r5)), .dec true, .callv (.v (.bool r8)), .dec true, .callv (.v (.bool r11)), .dec true, .callv (.v (.bool r14)), .dec true, .callv (.v (.bool r17)), .dec true, .callv (.v (.bool r20)), .dec false]) (hrun := by kernel_rfl) (hps := pc (k_names_judge_few h3) <| pc (h4) <| pc (k_names_all_Domain_judge_bare h6) <| pc (h7) <| pc (k_names_all_Domain_judge_peers h9) <| pc (h10) <| pc (k_names_all_Port_judge_port h12) <| pc (h13) <| pc (k_names_all_Link_judge_link h15) <| pc (h16) <| pc (k_names_all_Static_judge_static h18) <| pc (h19) <| pc (k_names_all_Flood_Right_1 h21) <| pc (h22) <| pn)
            · injection h with h; subst h; exact runFn_sound mixedOrders Try.func31 rfl (keep := none) (π := [.callv (.v (.bool r2)), .dec true, .callv (.v (.bool r5)), .dec true, .callv (.v (.bool r8)), .dec true, .callv (.v (.bool r11)), .dec true, .callv (.v (.bool r14)), .dec true, .callv (.v (.bool r17)), .dec false]) (hrun := by kernel_rfl) (hps := pc (k_names_judge_few h3) <| pc (h4) <| pc (k_names_all_Domain_judge_bare h6) <| pc (h7) <| pc (k_names_all_Domain_judge_peers h9) <| pc (h10) <| pc (k_names_all_Port_judge_port h12) <| pc (h13) <| pc (k_names_all_Link_judge_link h15) <| pc (h16) <| pc (k_names_all_Static_judge_static h18) <| pc (h19) <| pn)
          · injection h with h; subst h; exact runFn_sound mixedOrders Try.func31 rfl (keep := none) (π := [.callv (.v (.bool r2)), .dec true, .callv (.v (.bool r5)), .dec true, .callv (.v (.bool r8)), .dec true, .callv (.v (.bool r11)), .dec true, .callv (.v (.bool r14)), .dec false]) (hrun := by kernel_rfl) (hps := pc (k_names_judge_few h3) <| pc (h4) <| pc (k_names_all_Domain_judge_bare h6) <| pc (h7) <| pc (k_names_all_Domain_judge_peers h9) <| pc (h10) <| pc (k_names_all_Port_judge_port h12) <| pc (h13) <| pc (k_names_all_Link_judge_link h15) <| pc (h16) <| pn)
        · injection h with h; subst h; exact runFn_sound mixedOrders Try.func31 rfl (keep := none) (π := [.callv (.v (.bool r2)), .dec true, .callv (.v (.bool r5)), .dec true, .callv (.v (.bool r8)), .dec true, .callv (.v (.bool r11)), .dec false]) (hrun := by kernel_rfl) (hps := pc (k_names_judge_few h3) <| pc (h4) <| pc (k_names_all_Domain_judge_bare h6) <| pc (h7) <| pc (k_names_all_Domain_judge_peers h9) <| pc (h10) <| pc (k_names_all_Port_judge_port h12) <| pc (h13) <| pn)
      · injection h with h; subst h; exact runFn_sound mixedOrders Try.func31 rfl (keep := none) (π := [.callv (.v (.bool r2)), .dec true, .callv (.v (.bool r5)), .dec true, .callv (.v (.bool r8)), .dec false]) (hrun := by kernel_rfl) (hps := pc (k_names_judge_few h3) <| pc (h4) <| pc (k_names_all_Domain_judge_bare h6) <| pc (h7) <| pc (k_names_all_Domain_judge_peers h9) <| pc (h10) <| pn)
    · injection h with h; subst h; exact runFn_sound mixedOrders Try.func31 rfl (keep := none) (π := [.callv (.v (.bool r2)), .dec true, .callv (.v (.bool r5)), .dec false]) (hrun := by kernel_rfl) (hps := pc (k_names_judge_few h3) <| pc (h4) <| pc (k_names_all_Domain_judge_bare h6) <| pc (h7) <| pn)
  · injection h with h; subst h; exact runFn_sound mixedOrders Try.func31 rfl (keep := none) (π := [.callv (.v (.bool r2)), .dec false]) (hrun := by kernel_rfl) (hps := pc (k_names_judge_few h3) <| pc (h4) <| pn)

theorem k_links_Other {a1 : Api_Net} {a2 : Int} {r : Int} (h : links_Other a1 a2 = some r) :
    CallsOK Try.prog UU 32 [.agg (c31 a1), .v (.int .i64 a2)] [] (.v (.int .i64 r)) [] := by
  unfold links_Other at h
  rcases ite_out h with ⟨h3, h⟩ | ⟨h3, h⟩
  · injection h with h; subst h; exact runFn_sound mixedOrders Try.func32 rfl (keep := none) (π := [.dec true]) (hrun := by kernel_rfl) (hps := pc (h3) <| pn)
  · rcases ite_out h with ⟨h4, h⟩ | ⟨h4, h⟩
    · injection h with h; subst h; exact runFn_sound mixedOrders Try.func32 rfl (keep := none) (π := [.dec false, .dec true]) (hrun := by kernel_rfl) (hps := pc (h3) <| pc (h4) <| pn)
    · obtain ⟨x5, h6, h⟩ := bind_out h
      rcases ite_out h with ⟨h7, h⟩ | ⟨h7, h⟩
      · injection h with h; subst h; exact runFn_sound mixedOrders Try.func32 rfl (keep := none) (π := [.dec false, .dec false, .row (c63 x5), .dec true]) (hrun := by kernel_rfl) (hps := pc (h3) <| pc (h4) <| pc (ob63 h6) <| pc (h7) <| pn)
      · obtain ⟨r8, h9, h⟩ := bind_out h
        rcases ite_out h with ⟨h10, h⟩ | ⟨h10, h⟩
        · injection h with h; subst h; exact runFn_sound mixedOrders Try.func32 rfl (keep := none) (π := [.dec false, .dec false, .row (c63 x5), .dec false, .callv (.v (.bool r8)), .dec true]) (hrun := by kernel_rfl) (hps := pc (h3) <| pc (h4) <| pc (ob63 h6) <| pc (h7) <| pc (k_names_Right h9) <| pc (h10) <| pn)
        · obtain ⟨x11, h12, h⟩ := bind_out h
          obtain ⟨x13, h14, h⟩ := bind_out h
          rcases ite_out h with ⟨h15, h⟩ | ⟨h15, h⟩
          · injection h with h; subst h; exact runFn_sound mixedOrders Try.func32 rfl (keep := none) (π := [.dec false, .dec false, .row (c63 x5), .dec false, .callv (.v (.bool r8)), .dec false, .row (c63 x11), .row (c88 x13), .dec true]) (hrun := by kernel_rfl) (hps := pc (h3) <| pc (h4) <| pc (ob63 h6) <| pc (h7) <| pc (k_names_Right h9) <| pc (h10) <| pc (ob63 h12) <| pc (ob88 h14) <| pc (h15) <| pn)
          · injection h with h; subst h; exact runFn_sound mixedOrders Try.func32 rfl (keep := none) (π := [.dec false, .dec false, .row (c63 x5), .dec false, .callv (.v (.bool r8)), .dec false, .row (c63 x11), .row (c88 x13), .dec false]) (hrun := by kernel_rfl) (hps := pc (h3) <| pc (h4) <| pc (ob63 h6) <| pc (h7) <| pc (k_names_Right h9) <| pc (h10) <| pc (ob63 h12) <| pc (ob88 h14) <| pc (h15) <| pn)

theorem k_links_Cross {a1 : Api_Net} {a2 : Int} {a3 : Int} {r : Int × Int × Bool} (h : links_Cross a1 a2 a3 = some r) :
    CallsOK Try.prog UU 55 [.agg (c31 a1), .v (.int .i64 a2), .v (.int .i64 a3)] [] (.tup [.v (.int .i64 r.1), .v (.int .i64 r.2.1), .v (.bool r.2.2)]) [] := by
  unfold links_Cross at h
  obtain ⟨r4, h5, h⟩ := bind_out h
  rcases ite_out h with ⟨h6, h⟩ | ⟨h6, h⟩
  · injection h with h; subst h; exact runFn_sound mixedOrders Try.func55 rfl (keep := none) (π := [.callv (.v (.int .i64 r4)), .dec true]) (hrun := by kernel_rfl) (hps := pc (k_links_Other h5) <| pc (h6) <| pn)
  · obtain ⟨x7, h8, h⟩ := bind_out h
    obtain ⟨r9, h10, h⟩ := bind_out h
    rcases ite_out h with ⟨h11, h⟩ | ⟨h11, h⟩
    · injection h with h; subst h; exact runFn_sound mixedOrders Try.func55 rfl (keep := none) (π := [.callv (.v (.int .i64 r4)), .dec false, .row (c63 x7), .callv (.v (.bool r9)), .dec true]) (hrun := by kernel_rfl) (hps := pc (k_links_Other h5) <| pc (h6) <| pc (ob63 h8) <| pc (k_names_Member h10) <| pc (h11) <| pn)
    · obtain ⟨x12, h13, h⟩ := bind_out h
      obtain ⟨x14, h15, h⟩ := bind_out h
      rcases ite_out h with ⟨h16, h⟩ | ⟨h16, h⟩
      · rcases ite_out h with ⟨h17, h⟩ | ⟨h17, h⟩
        · injection h with h; subst h; exact runFn_sound mixedOrders Try.func55 rfl (keep := none) (π := [.callv (.v (.int .i64 r4)), .dec false, .row (c63 x7), .callv (.v (.bool r9)), .dec false, .row (c63 x12), .row (c63 x14), .dec true, .dec true]) (hrun := by kernel_rfl) (hps := pc (k_links_Other h5) <| pc (h6) <| pc (ob63 h8) <| pc (k_names_Member h10) <| pc (h11) <| pc (ob63 h13) <| pc (ob63 h15) <| pc (h16) <| pc (h17) <| pn)
        · injection h with h; subst h; exact runFn_sound mixedOrders Try.func55 rfl (keep := none) (π := [.callv (.v (.int .i64 r4)), .dec false, .row (c63 x7), .callv (.v (.bool r9)), .dec false, .row (c63 x12), .row (c63 x14), .dec true, .dec false]) (hrun := by kernel_rfl) (hps := pc (k_links_Other h5) <| pc (h6) <| pc (ob63 h8) <| pc (k_names_Member h10) <| pc (h11) <| pc (ob63 h13) <| pc (ob63 h15) <| pc (h16) <| pc (h17) <| pn)
      · obtain ⟨r18, h19, h⟩ := bind_out h
        rcases ite_out h with ⟨h20, h⟩ | ⟨h20, h⟩
        · rcases ite_out h with ⟨h21, h⟩ | ⟨h21, h⟩
          · injection h with h; subst h; exact runFn_sound mixedOrders Try.func55 rfl (keep := none) (π := [.callv (.v (.int .i64 r4)), .dec false, .row (c63 x7), .callv (.v (.bool r9)), .dec false, .row (c63 x12), .row (c63 x14), .dec false, .callv (.v (.bool r18)), .dec true, .dec true]) (hrun := by kernel_rfl) (hps := pc (k_links_Other h5) <| pc (h6) <| pc (ob63 h8) <| pc (k_names_Member h10) <| pc (h11) <| pc (ob63 h13) <| pc (ob63 h15) <| pc (h16) <| pc (k_slices_Contains_int h19) <| pc (h20) <| pc (h21) <| pn)
          · injection h with h; subst h; exact runFn_sound mixedOrders Try.func55 rfl (keep := none) (π := [.callv (.v (.int .i64 r4)), .dec false, .row (c63 x7), .callv (.v (.bool r9)), .dec false, .row (c63 x12), .row (c63 x14), .dec false, .callv (.v (.bool r18)), .dec true, .dec false]) (hrun := by kernel_rfl) (hps := pc (k_links_Other h5) <| pc (h6) <| pc (ob63 h8) <| pc (k_names_Member h10) <| pc (h11) <| pc (ob63 h13) <| pc (ob63 h15) <| pc (h16) <| pc (k_slices_Contains_int h19) <| pc (h20) <| pc (h21) <| pn)
        · rcases ite_out h with ⟨h22, h⟩ | ⟨h22, h⟩
          · injection h with h; subst h; exact runFn_sound mixedOrders Try.func55 rfl (keep := none) (π := [.callv (.v (.int .i64 r4)), .dec false, .row (c63 x7), .callv (.v (.bool r9)), .dec false, .row (c63 x12), .row (c63 x14), .dec false, .callv (.v (.bool r18)), .dec false, .dec true]) (hrun := by kernel_rfl) (hps := pc (k_links_Other h5) <| pc (h6) <| pc (ob63 h8) <| pc (k_names_Member h10) <| pc (h11) <| pc (ob63 h13) <| pc (ob63 h15) <| pc (h16) <| pc (k_slices_Contains_int h19) <| pc (h20) <| pc (h22) <| pn)
          · injection h with h; subst h; exact runFn_sound mixedOrders Try.func55 rfl (keep := none) (π := [.callv (.v (.int .i64 r4)), .dec false, .row (c63 x7), .callv (.v (.bool r9)), .dec false, .row (c63 x12), .row (c63 x14), .dec false, .callv (.v (.bool r18)), .dec false, .dec false]) (hrun := by kernel_rfl) (hps := pc (k_links_Other h5) <| pc (h6) <| pc (ob63 h8) <| pc (k_names_Member h10) <| pc (h11) <| pc (ob63 h13) <| pc (ob63 h15) <| pc (h16) <| pc (k_slices_Contains_int h19) <| pc (h20) <| pc (h22) <| pn)

theorem k_names_Domain_1 {a1 : Api_Domain} {a2 : Int} {a3 : Int} {r : Bool} (h : names_Domain_1 a1 a2 a3 = some r) :
    CallsOK Try.prog UU 143 [.agg (c65 a1), .rp (c3 a2) 0, .rp (c3 a3) 0] [] (.v (.bool r)) [] := by
  unfold names_Domain_1 at h
  rcases ite_out h with ⟨h4, h⟩ | ⟨h4, h⟩
  · injection h with h; subst h; exact runFn_sound mixedOrders Try.func143 rfl (keep := none) (π := [.dec true]) (hrun := by kernel_rfl) (hps := pc (h4) <| pn)
  · injection h with h; subst h; exact runFn_sound mixedOrders Try.func143 rfl (keep := none) (π := [.dec false]) (hrun := by kernel_rfl) (hps := pc (h4) <| pn)

theorem k_slices_IndexFunc_Domain_Domain_1_L1 {a1 : List Api_Domain} {a2 : Int} {a3 : Int} : LoopOK Try.prog UU 0 19 (subC (codeOf Try.f159) [1, 0, 1, 0, 0]) (ρ := Int ⊕ Unit) (slices_IndexFunc_Domain_Domain_1_L1 a1 a2 a3)
    (fun v4 : Int => ([(0, .sl 65 a1), (1, .fn (.func 143) [] [.rp (c3 a2) 0, .rp (c3 a3) 0]), (4, .z), (7, .v (.int .i64 (a1.length : Int))), (8, .v (.int .i64 v4))] : Fr DD)) (fun v4 : Int => ([] : Heap DD)) (fun r => match r with | Sum.inl v12 => .ret | Sum.inr _ => .exit 0) (fun r => match r with | Sum.inl v12 => [(4, .v (.int .i64 v12))] | Sum.inr _ => [(4, .z)]) (fun r => match r with | Sum.inl v12 => [] | Sum.inr _ => []) := by
  refine loop_sound3 (fun s q h => ?_) (fun r => ?_)
  · replace h : slices_IndexFunc_Domain_Domain_1_L1 a1 a2 a3 s = some q := h; revert h; revert s; intro v4 h
    unfold slices_IndexFunc_Domain_Domain_1_L1 at h
    rcases ite_out h with ⟨h5, h⟩ | ⟨h5, h⟩
    · obtain ⟨x6, h7, h⟩ := bind_out h
      obtain ⟨r8, h9, h⟩ := bind_out h
      rcases ite_out h with ⟨h10, h⟩ | ⟨h10, h⟩
      · injection h with h; subst h; exact runLp_sound mixedOrders (live := [4]) (ids := []) (π := [.dec true, .row (c65 x6), .callv (.v (.bool r8)), .dec true]) (hx := by kernel_rfl) (hps := pc (h5) <| pc (ob65 h7) <| pc (k_names_Domain_1 h9) <| pc (h10) <| pn)
      · injection h with h; subst h; exact runLp_sound mixedOrders (live := [0, 1, 4, 7, 8]) (ids := []) (π := [.dec true, .row (c65 x6), .callv (.v (.bool r8)), .dec false]) (hx := by kernel_rfl) (hps := pc (h5) <| pc (ob65 h7) <| pc (k_names_Domain_1 h9) <| pc (h10) <| pn)
    · injection h with h; subst h; exact runLp_sound mixedOrders (live := [4]) (ids := []) (π := [.dec false]) (hx := by kernel_rfl) (hps := pc (h5) <| pn)
  · rcases r with _ | _ <;> exact Ex.noConfusion

theorem k_slices_IndexFunc_Domain_Domain_1 {a1 : List Api_Domain} {a2 : Int} {a3 : Int} {r : Int} (h : slices_IndexFunc_Domain_Domain_1 a1 a2 a3 = some r) :
    CallsOK Try.prog UU 159 [.sl 65 a1, .fn (.func 143) [] [.rp (c3 a2) 0, .rp (c3 a3) 0]] [] (.v (.int .i64 r)) [] := by
  unfold slices_IndexFunc_Domain_Domain_1 at h
  obtain ⟨r14, h13, h⟩ := bind_out h
  rcases r14 with v12 | _
  · injection h with h; subst h; exact runFn_sound mixedOrders Try.func159 rfl (keep := none) (π := [.sum [0, 1, 4, 7, 8] [] .ret [(4, .v (.int .i64 v12))] []]) (hrun := by kernel_rfl) (hps := pc (k_slices_IndexFunc_Domain_Domain_1_L1 _ _ h13) <| pn)
  · injection h with h; subst h; exact runFn_sound mixedOrders Try.func159 rfl (keep := none) (π := [.sum [0, 1, 4, 7, 8] [] (.exit 0) [(4, .z)] []]) (hrun := by kernel_rfl) (hps := pc (k_slices_IndexFunc_Domain_Domain_1_L1 _ _ h13) <| pn)

theorem k_names_find_Domain_Domain_1 {a1 : Api_Net} {a2 : List Api_Domain} {a3 : Int} {a4 : Int} {r : Int} (h : names_find_Domain_Domain_1 a1 a2 a3 a4 = some r) :
    CallsOK Try.prog UU 142 [.agg (c31 a1), .sl 65 a2, .fn (.func 143) [] [.rp (c3 a3) 0, .rp (c3 a4) 0]] [] (.v (.int .i64 r)) [] := by
  unfold names_find_Domain_Domain_1 at h
  obtain ⟨r5, h6, h⟩ := bind_out h
  rcases ite_out h with ⟨h7, h⟩ | ⟨h7, h⟩
  · injection h with h; subst h; exact runFn_sound mixedOrders Try.func142 rfl (keep := none) (π := [.callv (.v (.bool r5)), .dec true]) (hrun := by kernel_rfl) (hps := pc (k_names_Right h6) <| pc (h7) <| pn)
  · obtain ⟨r8, h9, h⟩ := bind_out h
    injection h with h; subst h; exact runFn_sound mixedOrders Try.func142 rfl (keep := none) (π := [.callv (.v (.bool r5)), .dec false, .callv (.v (.int .i64 r8))]) (hrun := by kernel_rfl) (hps := pc (k_names_Right h6) <| pc (h7) <| pc (k_slices_IndexFunc_Domain_Domain_1 h9) <| pn)

theorem k_names_Domain {a1 : Api_Net} {a2 : Int} {a3 : Int} {r : Int} (h : names_Domain a1 a2 a3 = some r) :
    CallsOK Try.prog UU 97 [.agg (c31 a1), .v (.int .i64 a2), .v (.int .i64 a3)] [] (.v (.int .i64 r)) [] := by
  unfold names_Domain at h
  obtain ⟨r4, h5, h⟩ := bind_out h
  injection h with h; subst h; exact runFn_sound mixedOrders Try.func97 rfl (keep := none) (π := [.callv (.v (.int .i64 r4))]) (hrun := by kernel_rfl) (hps := pc (k_names_find_Domain_Domain_1 h5) <| pn)

theorem k_links_Domain {a1 : Api_Net} {a2 : Int} {a3 : Int} {r : Int × Bool} (h : links_Domain a1 a2 a3 = some r) :
    CallsOK Try.prog UU 36 [.agg (c31 a1), .v (.int .i64 a2), .v (.int .i64 a3)] [] (.tup [.v (.int .i64 r.1), .v (.bool r.2)]) [] := by
  unfold links_Domain at h
  obtain ⟨r4, h5, h⟩ := bind_out h
  rcases ite_out h with ⟨h6, h⟩ | ⟨h6, h⟩
  · injection h with h; subst h; exact runFn_sound mixedOrders Try.func36 rfl (keep := none) (π := [.callv (.tup [.v (.int .i64 r4.1), .v (.int .i64 r4.2.1), .v (.bool r4.2.2)]), .dec true]) (hrun := by kernel_rfl) (hps := pc (k_links_Cross h5) <| pc (h6) <| pn)
  · obtain ⟨x7, h8, h⟩ := bind_out h
    obtain ⟨r9, h10, h⟩ := bind_out h
    injection h with h; subst h; exact runFn_sound mixedOrders Try.func36 rfl (keep := none) (π := [.callv (.tup [.v (.int .i64 r4.1), .v (.int .i64 r4.2.1), .v (.bool r4.2.2)]), .dec false, .row (c63 x7), .callv (.v (.int .i64 r9))]) (hrun := by kernel_rfl) (hps := pc (k_links_Cross h5) <| pc (h6) <| pc (ob63 h8) <| pc (k_names_Domain h10) <| pn)

end Go.Eng
