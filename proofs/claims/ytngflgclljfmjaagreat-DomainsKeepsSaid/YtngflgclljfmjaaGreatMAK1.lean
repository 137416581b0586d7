/- Part of the proof of DomainsKeeps: printed mirrors of the functions, or their contracts. No conditions. -/
import Derived.Test.YtngflgclljfmjaaGreatMAK
set_option linter.unusedVariables false
set_option maxRecDepth 100000
namespace Go.Eng
open Go Go.Proofs
theorem k_stmt_within {a1 : Int} {a2 : Int} {a3 : Int} {r : Bool} (h : stmt_within a1 a2 a3 = some r) :
    CallsOK Tryz.prog UU 207 [.j a1, .j a2, .j a3] [] (.v (.bool r)) [] := by
  unfold stmt_within at h
  rcases ite_out h with ⟨h4, h⟩ | ⟨h4, h⟩
  · injection h with h; subst h; exact rf Tryz.func207 rfl none [.dec true] (by kernel_rfl) (pc (h4) <| pn)
  · injection h with h; subst h; exact rf Tryz.func207 rfl none [.dec false] (by kernel_rfl) (pc (h4) <| pn)

theorem k_mac_IsHost {a1 : Int} {r : Int × Bool} (h : mac_IsHost a1 = some r) :
    CallsOK Tryz.prog UU 253 [.v (.int .u64 a1)] [] (.tup [.v (.int .u32 r.1), .v (.bool r.2)]) [] := by
  unfold mac_IsHost at h
  rcases ite_out h with ⟨h2, h⟩ | ⟨h2, h⟩
  · injection h with h; subst h; exact rf Tryz.func253 rfl none [.dec true] (by kernel_rfl) (pc ((show (0 : Int) ≤ 32 from by decide)) <| pc (h2) <| pn)
  · injection h with h; subst h; exact rf Tryz.func253 rfl none [.dec false] (by kernel_rfl) (pc ((show (0 : Int) ≤ 32 from by decide)) <| pc (h2) <| pn)

theorem k_mac_Group {a1 : Int} {r : Bool} (h : mac_Group a1 = some r) :
    CallsOK Tryz.prog UU 40 [.v (.int .u64 a1)] [] (.v (.bool r)) [] := by
  unfold mac_Group at h
  injection h with h; subst h; exact rf Tryz.func40 rfl none [] (by kernel_rfl) (pn)

theorem k_stmt_station {a1 : Int} {r : Bool} (h : stmt_station a1 = some r) :
    CallsOK Tryz.prog UU 208 [.v (.int .u64 a1)] [] (.v (.bool r)) [] := by
  unfold stmt_station at h
  obtain ⟨r2, h3, h⟩ := bind_out h
  rcases ite_out h with ⟨h4, h⟩ | ⟨h4, h⟩
  · rcases ite_out h with ⟨h5, h⟩ | ⟨h5, h⟩
    · obtain ⟨r6, h7, h⟩ := bind_out h
      injection h with h; subst h; exact rf Tryz.func208 rfl none [.callv (.tup [.v (.int .u32 r2.1), .v (.bool r2.2)]), .dec true, .dec true, .callv (.v (.bool r6))] (by kernel_rfl) (pc (k_mac_IsHost h3) <| pc (h4) <| pc (h5) <| pc (k_mac_Group h7) <| pn)
    · injection h with h; subst h; exact rf Tryz.func208 rfl none [.callv (.tup [.v (.int .u32 r2.1), .v (.bool r2.2)]), .dec true, .dec false] (by kernel_rfl) (pc (k_mac_IsHost h3) <| pc (h4) <| pc (h5) <| pn)
  · injection h with h; subst h; exact rf Tryz.func208 rfl none [.callv (.tup [.v (.int .u32 r2.1), .v (.bool r2.2)]), .dec false] (by kernel_rfl) (pc (k_mac_IsHost h3) <| pc (h4) <| pn)

theorem k_num_Name_L1 {a1 : ByteArray} : LoopOK Tryz.prog UU 0 50 (subC (codeOf Tryz.f137) [1, 0, 1, 0, 0]) (ρ := Unit ⊕ Unit) (num_Name_L1 a1)
    (fun v2 : Int => ([(0, .v (.string a1)), (2, .v (.bool false)), (7, .j (a1.size : Int)), (8, .j v2)] : Fr DD)) (fun v2 : Int => ([] : Heap DD)) (fun r => match r with | Sum.inl _ => .ret | Sum.inr _ => .exit 0) (fun r => match r with | Sum.inl _ => [(2, .v (.bool false))] | Sum.inr _ => [(0, .v (.string a1)), (2, .v (.bool false))]) (fun r => match r with | Sum.inl _ => [] | Sum.inr _ => []) := by
  refine loop_sound3 (fun s q h => ?_) (fun r => ?_)
  · replace h : num_Name_L1 a1 s = some q := h; revert h; revert s; intro v2 h
    unfold num_Name_L1 at h
    rcases ite_out h with ⟨h3, h⟩ | ⟨h3, h⟩
    · rcases ite_out h with ⟨h4, h⟩ | ⟨h4, h⟩
      · rcases ite_out h with ⟨h5, h⟩ | ⟨h5, h⟩
        · rcases ite_out h with ⟨h6, h⟩ | ⟨h6, h⟩
          · rcases ite_out h with ⟨h7, h⟩ | ⟨h7, h⟩
            · rcases ite_out h with ⟨h8, h⟩ | ⟨h8, h⟩
              · injection h with h; subst h; exact rl [2] [] [.dec true, .dec true, .dec true, .dec true, .dec true] (by kernel_rfl) (pc (h3) <| pc (of_decide_eq_true h4) <| pc (h5) <| pc (of_decide_eq_true h4) <| pc (of_decide_eq_true h4) <| pc (h6) <| pc (of_decide_eq_true h4) <| pc (h7) <| pc (h8) <| pn)
              · rcases ite_out h with ⟨h9, h⟩ | ⟨h9, h⟩
                · injection h with h; subst h; exact rl [2] [] [.dec true, .dec true, .dec true, .dec true, .dec false, .dec true] (by kernel_rfl) (pc (h3) <| pc (of_decide_eq_true h4) <| pc (h5) <| pc (of_decide_eq_true h4) <| pc (of_decide_eq_true h4) <| pc (h6) <| pc (of_decide_eq_true h4) <| pc (h7) <| pc (h8) <| pc (h9) <| pn)
                · injection h with h; subst h; exact rl [0, 2, 7, 8] [] [.dec true, .dec true, .dec true, .dec true, .dec false, .dec false] (by kernel_rfl) (pc (h3) <| pc (of_decide_eq_true h4) <| pc (h5) <| pc (of_decide_eq_true h4) <| pc (of_decide_eq_true h4) <| pc (h6) <| pc (of_decide_eq_true h4) <| pc (h7) <| pc (h8) <| pc (h9) <| pn)
            · injection h with h; subst h; exact rl [0, 2, 7, 8] [] [.dec true, .dec true, .dec true, .dec false] (by kernel_rfl) (pc (h3) <| pc (of_decide_eq_true h4) <| pc (h5) <| pc (of_decide_eq_true h4) <| pc (of_decide_eq_true h4) <| pc (h6) <| pc (of_decide_eq_true h4) <| pc (h7) <| pn)
          · rcases ite_out h with ⟨h10, h⟩ | ⟨h10, h⟩
            · injection h with h; subst h; exact rl [2] [] [.dec true, .dec true, .dec false, .dec true, .dec true] (by kernel_rfl) (pc (h3) <| pc (of_decide_eq_true h4) <| pc (h5) <| pc (of_decide_eq_true h4) <| pc (of_decide_eq_true h4) <| pc (h6) <| pc (h10) <| pc ((rfl : (!false) = true)) <| pn)
            · injection h with h; subst h; exact rl [0, 2, 7, 8] [] [.dec true, .dec true, .dec false, .dec false] (by kernel_rfl) (pc (h3) <| pc (of_decide_eq_true h4) <| pc (h5) <| pc (of_decide_eq_true h4) <| pc (of_decide_eq_true h4) <| pc (h6) <| pc (h10) <| pn)
        · rcases ite_out h with ⟨h11, h⟩ | ⟨h11, h⟩
          · rcases ite_out h with ⟨h12, h⟩ | ⟨h12, h⟩
            · injection h with h; subst h; exact rl [2] [] [.dec true, .dec false, .dec true, .dec true, .dec true] (by kernel_rfl) (pc (h3) <| pc (of_decide_eq_true h4) <| pc (h5) <| pc (of_decide_eq_true h4) <| pc (h11) <| pc (of_decide_eq_true h4) <| pc ((rfl : (!false) = true)) <| pc (h12) <| pn)
            · rcases ite_out h with ⟨h13, h⟩ | ⟨h13, h⟩
              · injection h with h; subst h; exact rl [2] [] [.dec true, .dec false, .dec true, .dec true, .dec false, .dec true] (by kernel_rfl) (pc (h3) <| pc (of_decide_eq_true h4) <| pc (h5) <| pc (of_decide_eq_true h4) <| pc (h11) <| pc (of_decide_eq_true h4) <| pc ((rfl : (!false) = true)) <| pc (h12) <| pc (h13) <| pn)
              · injection h with h; subst h; exact rl [0, 2, 7, 8] [] [.dec true, .dec false, .dec true, .dec true, .dec false, .dec false] (by kernel_rfl) (pc (h3) <| pc (of_decide_eq_true h4) <| pc (h5) <| pc (of_decide_eq_true h4) <| pc (h11) <| pc (of_decide_eq_true h4) <| pc ((rfl : (!false) = true)) <| pc (h12) <| pc (h13) <| pn)
          · injection h with h; subst h; exact rl [2] [] [.dec true, .dec false, .dec false, .dec true, .dec true] (by kernel_rfl) (pc (h3) <| pc (of_decide_eq_true h4) <| pc (h5) <| pc (of_decide_eq_true h4) <| pc (h11) <| pc ((rfl : (!false) = true)) <| pc ((rfl : (!false) = true)) <| pn)
      · cases h
    · injection h with h; subst h; exact rl [0, 2] [] [.dec false] (by kernel_rfl) (pc (h3) <| pn)
  · rcases r with _ | _ <;> exact Ex.noConfusion

theorem k_num_Name {a1 : ByteArray} {r : Bool} (h : num_Name a1 = some r) :
    CallsOK Tryz.prog UU 137 [.v (.string a1)] [] (.v (.bool r)) [] := by
  unfold num_Name at h
  obtain ⟨r15, h14, h⟩ := bind_out h
  rcases r15 with _ | _
  · injection h with h; subst h; exact rf Tryz.func137 rfl none [.sum [0, 2, 7, 8] [] .ret [(2, .v (.bool false))] []] (by kernel_rfl) (pc (k_num_Name_L1 _ _ h14) <| pn)
  · rcases ite_out h with ⟨h16, h⟩ | ⟨h16, h⟩
    · injection h with h; subst h; exact rf Tryz.func137 rfl none [.sum [0, 2, 7, 8] [] (.exit 0) [(0, .v (.string a1)), (2, .v (.bool false))] [], .dec true] (by kernel_rfl) (pc (k_num_Name_L1 _ _ h14) <| pc (h16) <| pn)
    · injection h with h; subst h; exact rf Tryz.func137 rfl none [.sum [0, 2, 7, 8] [] (.exit 0) [(0, .v (.string a1)), (2, .v (.bool false))] [], .dec false] (by kernel_rfl) (pc (k_num_Name_L1 _ _ h14) <| pc (h16) <| pn)

theorem k_num_Rising_L1 {a1 : List Int} {a2 : Int} {a3 : Int} : LoopOK Tryz.prog UU 0 46 (subC (codeOf Tryz.f171) [1, 0, 1, 0, 0]) (ρ := Unit ⊕ Unit) (num_Rising_L1 a1 a2 a3)
    (fun v4 : Int => ([(0, .sl 3 a1), (1, .j a2), (2, .j a3), (6, .v (.bool false)), (9, .sl 3 a1), (10, .j (a1.length : Int)), (11, .j v4)] : Fr DD)) (fun v4 : Int => ([] : Heap DD)) (fun r => match r with | Sum.inl _ => .ret | Sum.inr _ => .exit 0) (fun r => match r with | Sum.inl _ => [(6, .v (.bool false))] | Sum.inr _ => [(0, .sl 3 a1), (6, .v (.bool false))]) (fun r => match r with | Sum.inl _ => [] | Sum.inr _ => []) := by
  refine loop_sound3 (fun s q h => ?_) (fun r => ?_)
  · replace h : num_Rising_L1 a1 a2 a3 s = some q := h; revert h; revert s; intro v4 h
    unfold num_Rising_L1 at h
    rcases ite_out h with ⟨h5, h⟩ | ⟨h5, h⟩
    · obtain ⟨x6, h7, h⟩ := bind_out h
      rcases ite_out h with ⟨h8, h⟩ | ⟨h8, h⟩
      · injection h with h; subst h; exact rl [6] [] [.dec true, .row (c3 x6), .dec true] (by kernel_rfl) (pc (h5) <| pc (ob3 h7) <| pc (h8) <| pn)
      · rcases ite_out h with ⟨h9, h⟩ | ⟨h9, h⟩
        · injection h with h; subst h; exact rl [6] [] [.dec true, .row (c3 x6), .dec false, .dec true] (by kernel_rfl) (pc (h5) <| pc (ob3 h7) <| pc (h8) <| pc (h9) <| pn)
        · rcases ite_out h with ⟨h10, h⟩ | ⟨h10, h⟩
          · obtain ⟨x11, h12, h⟩ := bind_out h
            rcases ite_out h with ⟨h13, h⟩ | ⟨h13, h⟩
            · injection h with h; subst h; exact rl [6] [] [.dec true, .row (c3 x6), .dec false, .dec false, .dec true, .row (c3 x11), .dec true] (by kernel_rfl) (pc (h5) <| pc (ob3 h7) <| pc (h8) <| pc (h9) <| pc (h10) <| pc (ob3 h12) <| pc (h13) <| pn)
            · injection h with h; subst h; exact rl [0, 1, 2, 6, 9, 10, 11] [] [.dec true, .row (c3 x6), .dec false, .dec false, .dec true, .row (c3 x11), .dec false] (by kernel_rfl) (pc (h5) <| pc (ob3 h7) <| pc (h8) <| pc (h9) <| pc (h10) <| pc (ob3 h12) <| pc (h13) <| pn)
          · injection h with h; subst h; exact rl [0, 1, 2, 6, 9, 10, 11] [] [.dec true, .row (c3 x6), .dec false, .dec false, .dec false] (by kernel_rfl) (pc (h5) <| pc (ob3 h7) <| pc (h8) <| pc (h9) <| pc (h10) <| pn)
    · injection h with h; subst h; exact rl [0, 6] [] [.dec false] (by kernel_rfl) (pc (h5) <| pn)
  · rcases r with _ | _ <;> exact Ex.noConfusion

theorem k_num_Rising {a1 : List Int} {a2 : Int} {a3 : Int} {r : Bool} (h : num_Rising a1 a2 a3 = some r) :
    CallsOK Tryz.prog UU 171 [.sl 3 a1, .j a2, .j a3] [] (.v (.bool r)) [] := by
  unfold num_Rising at h
  obtain ⟨r15, h14, h⟩ := bind_out h
  rcases r15 with _ | _
  · injection h with h; subst h; exact rf Tryz.func171 rfl none [.sum [0, 1, 2, 6, 9, 10, 11] [] .ret [(6, .v (.bool false))] []] (by kernel_rfl) (pc (k_num_Rising_L1 _ _ h14) <| pn)
  · rcases ite_out h with ⟨h16, h⟩ | ⟨h16, h⟩
    · injection h with h; subst h; exact rf Tryz.func171 rfl none [.sum [0, 1, 2, 6, 9, 10, 11] [] (.exit 0) [(0, .sl 3 a1), (6, .v (.bool false))] [], .dec true] (by kernel_rfl) (pc (k_num_Rising_L1 _ _ h14) <| pc (h16) <| pn)
    · injection h with h; subst h; exact rf Tryz.func171 rfl none [.sum [0, 1, 2, 6, 9, 10, 11] [] (.exit 0) [(0, .sl 3 a1), (6, .v (.bool false))] [], .dec false] (by kernel_rfl) (pc (k_num_Rising_L1 _ _ h14) <| pc (h16) <| pn)

theorem k_stmt_list {a1 : List Int} {a2 : Int} {r : Bool} (h : stmt_list a1 a2 = some r) :
    CallsOK Tryz.prog UU 209 [.sl 3 a1, .j a2] [] (.v (.bool r)) [] := by
  unfold stmt_list at h
  rcases ite_out h with ⟨h3, h⟩ | ⟨h3, h⟩
  · injection h with h; subst h; exact rf Tryz.func209 rfl none [.dec true] (by kernel_rfl) (pc (h3) <| pn)
  · obtain ⟨r4, h5, h⟩ := bind_out h
    injection h with h; subst h; exact rf Tryz.func209 rfl none [.dec false, .callv (.v (.bool r4))] (by kernel_rfl) (pc (h3) <| pc (k_num_Rising h5) <| pn)

theorem k_slices_Index_int_L1 {a1 : List Int} {a2 : Int} : LoopOK Tryz.prog UU 0 19 (subC (codeOf Tryz.f168) [1, 0, 1, 0, 0]) (ρ := Int ⊕ Unit) (slices_Index_int_L1 a1 a2)
    (fun v3 : Int => ([(0, .sl 3 a1), (1, .j a2), (4, .z), (7, .j (a1.length : Int)), (8, .j v3)] : Fr DD)) (fun v3 : Int => ([] : Heap DD)) (fun r => match r with | Sum.inl v9 => .ret | Sum.inr _ => .exit 0) (fun r => match r with | Sum.inl v9 => [(4, .j v9)] | Sum.inr _ => [(4, .z)]) (fun r => match r with | Sum.inl v9 => [] | Sum.inr _ => []) := by
  refine loop_sound3 (fun s q h => ?_) (fun r => ?_)
  · replace h : slices_Index_int_L1 a1 a2 s = some q := h; revert h; revert s; intro v3 h
    unfold slices_Index_int_L1 at h
    rcases ite_out h with ⟨h4, h⟩ | ⟨h4, h⟩
    · obtain ⟨x5, h6, h⟩ := bind_out h
      rcases ite_out h with ⟨h7, h⟩ | ⟨h7, h⟩
      · injection h with h; subst h; exact rl [4] [] [.dec true, .row (c3 x5), .dec true] (by kernel_rfl) (pc (h4) <| pc (ob3 h6) <| pc (h7) <| pn)
      · injection h with h; subst h; exact rl [0, 1, 4, 7, 8] [] [.dec true, .row (c3 x5), .dec false] (by kernel_rfl) (pc (h4) <| pc (ob3 h6) <| pc (h7) <| pn)
    · injection h with h; subst h; exact rl [4] [] [.dec false] (by kernel_rfl) (pc (h4) <| pn)
  · rcases r with _ | _ <;> exact Ex.noConfusion

theorem k_slices_Index_int {a1 : List Int} {a2 : Int} {r : Int} (h : slices_Index_int a1 a2 = some r) :
    CallsOK Tryz.prog UU 168 [.sl 3 a1, .j a2] [] (.j r) [] := by
  unfold slices_Index_int at h
  obtain ⟨r11, h10, h⟩ := bind_out h
  rcases r11 with v9 | _
  · injection h with h; subst h; exact rf Tryz.func168 rfl none [.sum [0, 1, 4, 7, 8] [] .ret [(4, .j v9)] []] (by kernel_rfl) (pc (k_slices_Index_int_L1 _ _ h10) <| pn)
  · injection h with h; subst h; exact rf Tryz.func168 rfl none [.sum [0, 1, 4, 7, 8] [] (.exit 0) [(4, .z)] []] (by kernel_rfl) (pc (k_slices_Index_int_L1 _ _ h10) <| pn)

theorem k_slices_Contains_int {a1 : List Int} {a2 : Int} {r : Bool} (h : slices_Contains_int a1 a2 = some r) :
    CallsOK Tryz.prog UU 105 [.sl 3 a1, .j a2] [] (.v (.bool r)) [] := by
  unfold slices_Contains_int at h
  obtain ⟨r3, h4, h⟩ := bind_out h
  injection h with h; subst h; exact rf Tryz.func105 rfl none [.callv (.j r3)] (by kernel_rfl) (pc (k_slices_Index_int h4) <| pn)

theorem k_stmt_members {a1 : Api_Line} {r : Bool} (h : stmt_members a1 = some r) :
    CallsOK Tryz.prog UU 210 [.agg (c37 a1)] [] (.v (.bool r)) [] := by
  unfold stmt_members at h
  rcases ite_out h with ⟨h2, h⟩ | ⟨h2, h⟩
  · obtain ⟨r3, h4, h⟩ := bind_out h
    injection h with h; subst h; exact rf Tryz.func210 rfl none [.dec true, .callv (.v (.bool r3))] (by kernel_rfl) (pc (h2) <| pc (k_slices_Contains_int h4) <| pn)
  · rcases ite_out h with ⟨h5, h⟩ | ⟨h5, h⟩
    · obtain ⟨r6, h7, h⟩ := bind_out h
      injection h with h; subst h; exact rf Tryz.func210 rfl none [.dec false, .dec true, .callv (.v (.bool r6))] (by kernel_rfl) (pc (h2) <| pc (h5) <| pc (k_slices_Contains_int h7) <| pn)
    · injection h with h; subst h; exact rf Tryz.func210 rfl none [.dec false, .dec false] (by kernel_rfl) (pc (h2) <| pc (h5) <| pn)

theorem k_stmt_addrs_L1 {a1 : List Int} : LoopOK Tryz.prog UU 0 36 (subC (codeOf Tryz.f211) [1, 0, 1, 0, 0]) (ρ := Unit ⊕ Unit) (stmt_addrs_L1 a1)
    (fun v2 : Int => ([(0, .sl 33 a1), (2, .v (.bool false)), (5, .sl 33 a1), (6, .j (a1.length : Int)), (7, .j v2)] : Fr DD)) (fun v2 : Int => ([] : Heap DD)) (fun r => match r with | Sum.inl _ => .ret | Sum.inr _ => .exit 0) (fun r => match r with | Sum.inl _ => [(2, .v (.bool false))] | Sum.inr _ => [(0, .sl 33 a1), (2, .v (.bool false))]) (fun r => match r with | Sum.inl _ => [] | Sum.inr _ => []) := by
  refine loop_sound3 (fun s q h => ?_) (fun r => ?_)
  · replace h : stmt_addrs_L1 a1 s = some q := h; revert h; revert s; intro v2 h
    unfold stmt_addrs_L1 at h
    rcases ite_out h with ⟨h3, h⟩ | ⟨h3, h⟩
    · obtain ⟨x4, h5, h⟩ := bind_out h
      rcases ite_out h with ⟨h6, h⟩ | ⟨h6, h⟩
      · injection h with h; subst h; exact rl [2] [] [.dec true, .row (c33 x4), .dec true] (by kernel_rfl) (pc (h3) <| pc (ob33 h5) <| pc (h6) <| pn)
      · rcases ite_out h with ⟨h7, h⟩ | ⟨h7, h⟩
        · obtain ⟨x8, h9, h⟩ := bind_out h
          rcases ite_out h with ⟨h10, h⟩ | ⟨h10, h⟩
          · injection h with h; subst h; exact rl [2] [] [.dec true, .row (c33 x4), .dec false, .dec true, .row (c33 x8), .dec true] (by kernel_rfl) (pc (h3) <| pc (ob33 h5) <| pc (h6) <| pc (h7) <| pc (ob33 h9) <| pc (h10) <| pn)
          · injection h with h; subst h; exact rl [0, 2, 5, 6, 7] [] [.dec true, .row (c33 x4), .dec false, .dec true, .row (c33 x8), .dec false] (by kernel_rfl) (pc (h3) <| pc (ob33 h5) <| pc (h6) <| pc (h7) <| pc (ob33 h9) <| pc (h10) <| pn)
        · injection h with h; subst h; exact rl [0, 2, 5, 6, 7] [] [.dec true, .row (c33 x4), .dec false, .dec false] (by kernel_rfl) (pc (h3) <| pc (ob33 h5) <| pc (h6) <| pc (h7) <| pn)
    · injection h with h; subst h; exact rl [0, 2] [] [.dec false] (by kernel_rfl) (pc (h3) <| pn)
  · rcases r with _ | _ <;> exact Ex.noConfusion

theorem k_stmt_addrs {a1 : List Int} {r : Bool} (h : stmt_addrs a1 = some r) :
    CallsOK Tryz.prog UU 211 [.sl 33 a1] [] (.v (.bool r)) [] := by
  unfold stmt_addrs at h
  obtain ⟨r12, h11, h⟩ := bind_out h
  rcases r12 with _ | _
  · injection h with h; subst h; exact rf Tryz.func211 rfl none [.sum [0, 2, 5, 6, 7] [] .ret [(2, .v (.bool false))] []] (by kernel_rfl) (pc (k_stmt_addrs_L1 _ _ h11) <| pn)
  · rcases ite_out h with ⟨h13, h⟩ | ⟨h13, h⟩
    · injection h with h; subst h; exact rf Tryz.func211 rfl none [.sum [0, 2, 5, 6, 7] [] (.exit 0) [(0, .sl 33 a1), (2, .v (.bool false))] [], .dec true] (by kernel_rfl) (pc (k_stmt_addrs_L1 _ _ h11) <| pc (h13) <| pn)
    · injection h with h; subst h; exact rf Tryz.func211 rfl none [.sum [0, 2, 5, 6, 7] [] (.exit 0) [(0, .sl 33 a1), (2, .v (.bool false))] [], .dec false] (by kernel_rfl) (pc (k_stmt_addrs_L1 _ _ h11) <| pc (h13) <| pn)

theorem k_addr_Right {a1 : Api_Prefix} {r : Bool} (h : addr_Right a1 = some r) :
    CallsOK Tryz.prog UU 268 [.agg (c116 a1)] [] (.v (.bool r)) [] := by
  unfold addr_Right at h
  rcases ite_out h with ⟨h2, h⟩ | ⟨h2, h⟩
  · injection h with h; subst h; exact rf Tryz.func268 rfl none [.dec true] (by kernel_rfl) (pc (h2) <| pn)
  · injection h with h; subst h; exact rf Tryz.func268 rfl none [.dec false] (by kernel_rfl) (pc (h2) <| pn)

theorem k_addr_rest {a1 : Api_Prefix} {r : Int} (h : addr_rest a1 = some r) :
    CallsOK Tryz.prog UU 269 [.agg (c116 a1)] [] (.v (.int .u32 r)) [] := by
  unfold addr_rest at h
  rcases ite_out h with ⟨h2, h⟩ | ⟨h2, h⟩
  · injection h with h; subst h; exact rf Tryz.func269 rfl none [] (by kernel_rfl) (pc (of_decide_eq_true h2) <| pn)
  · cases h

theorem k_addr_First {a1 : Api_Prefix} {r : Int} (h : addr_First a1 = some r) :
    CallsOK Tryz.prog UU 254 [.agg (c116 a1)] [] (.v (.int .u32 r)) [] := by
  unfold addr_First at h
  obtain ⟨r2, h3, h⟩ := bind_out h
  rcases ite_out h with ⟨h4, h⟩ | ⟨h4, h⟩
  · injection h with h; subst h; exact rf Tryz.func254 rfl none [.callv (.v (.bool r2)), .dec true] (by kernel_rfl) (pc (k_addr_Right h3) <| pc (h4) <| pn)
  · obtain ⟨r5, h6, h⟩ := bind_out h
    injection h with h; subst h; exact rf Tryz.func254 rfl none [.callv (.v (.bool r2)), .dec false, .callv (.v (.int .u32 r5))] (by kernel_rfl) (pc (k_addr_Right h3) <| pc (h4) <| pc (k_addr_rest h6) <| pn)

theorem k_addr_Last {a1 : Api_Prefix} {r : Int} (h : addr_Last a1 = some r) :
    CallsOK Tryz.prog UU 255 [.agg (c116 a1)] [] (.v (.int .u32 r)) [] := by
  unfold addr_Last at h
  obtain ⟨r2, h3, h⟩ := bind_out h
  rcases ite_out h with ⟨h4, h⟩ | ⟨h4, h⟩
  · injection h with h; subst h; exact rf Tryz.func255 rfl none [.callv (.v (.bool r2)), .dec true] (by kernel_rfl) (pc (k_addr_Right h3) <| pc (h4) <| pn)
  · obtain ⟨r5, h6, h⟩ := bind_out h
    injection h with h; subst h; exact rf Tryz.func255 rfl none [.callv (.v (.bool r2)), .dec false, .callv (.v (.int .u32 r5))] (by kernel_rfl) (pc (k_addr_Right h3) <| pc (h4) <| pc (k_addr_rest h6) <| pn)

theorem k_stmt_subnet {a1 : Api_Prefix} {r : Bool} (h : stmt_subnet a1 = some r) :
    CallsOK Tryz.prog UU 212 [.agg (c116 a1)] [] (.v (.bool r)) [] := by
  unfold stmt_subnet at h
  rcases ite_out h with ⟨h2, h⟩ | ⟨h2, h⟩
  · rcases ite_out h with ⟨h3, h⟩ | ⟨h3, h⟩
    · obtain ⟨r4, h5, h⟩ := bind_out h
      rcases ite_out h with ⟨h6, h⟩ | ⟨h6, h⟩
      · obtain ⟨r7, h8, h⟩ := bind_out h
        injection h with h; subst h; exact rf Tryz.func212 rfl none [.dec true, .dec true, .callv (.v (.int .u32 r4)), .dec true, .callv (.v (.int .u32 r7))] (by kernel_rfl) (pc (h2) <| pc (h3) <| pc (k_addr_First h5) <| pc (h6) <| pc (k_addr_Last h8) <| pn)
      · injection h with h; subst h; exact rf Tryz.func212 rfl none [.dec true, .dec true, .callv (.v (.int .u32 r4)), .dec false] (by kernel_rfl) (pc (h2) <| pc (h3) <| pc (k_addr_First h5) <| pc (h6) <| pn)
    · injection h with h; subst h; exact rf Tryz.func212 rfl none [.dec true, .dec false] (by kernel_rfl) (pc (h2) <| pc (h3) <| pn)
  · injection h with h; subst h; exact rf Tryz.func212 rfl none [.dec false] (by kernel_rfl) (pc (h2) <| pn)

end Go.Eng
