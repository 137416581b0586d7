/- Part of the proof of LinksAdds: printed mirrors of the functions, or their contracts. No conditions. -/
import Derived.Test.YtgnkkbimeghieaaGreatMAK3
set_option linter.unusedVariables false
set_option maxRecDepth 100000
namespace Go.Eng
open Go Go.Proofs
theorem k_slices_Equal_int_L1 {a1 : List Int} {a2 : List Int} : LoopOK Tryz.prog UU 0 26 (subC (codeOf Tryz.f73) [1, 1, 0, 1, 0, 0]) (ρ := Unit ⊕ Unit) (slices_Equal_int_L1 a1 a2)
    (fun v4 : Int => ([(0, .sl 3 a1), (1, .sl 3 a2), (4, .v (.bool false)), (12, .j (a1.length : Int)), (13, .j v4)] : Fr DD)) (fun v4 : Int => ([] : Heap DD)) (fun r => match r with | Sum.inl _ => .ret | Sum.inr _ => .exit 0) (fun r => match r with | Sum.inl _ => [(4, .v (.bool false))] | Sum.inr _ => [(4, .v (.bool false))]) (fun r => match r with | Sum.inl _ => [] | Sum.inr _ => []) := by
  refine loop_sound3 (fun s q h => ?_) (fun r => ?_)
  · replace h : slices_Equal_int_L1 a1 a2 s = some q := h; revert h; revert s; intro v4 h
    unfold slices_Equal_int_L1 at h
    rcases ite_out h with ⟨h5, h⟩ | ⟨h5, h⟩
    · obtain ⟨x6, h7, h⟩ := bind_out h
      obtain ⟨x8, h9, h⟩ := bind_out h
      rcases ite_out h with ⟨h10, h⟩ | ⟨h10, h⟩
      · injection h with h; subst h; exact rl [4] [] [.dec true, .row (c3 x6), .row (c3 x8), .dec true] (by kernel_rfl) (pc (h5) <| pc (ob3 h7) <| pc (ob3 h9) <| pc (h10) <| pn)
      · injection h with h; subst h; exact rl [0, 1, 4, 12, 13] [] [.dec true, .row (c3 x6), .row (c3 x8), .dec false] (by kernel_rfl) (pc (h5) <| pc (ob3 h7) <| pc (ob3 h9) <| pc (h10) <| pn)
    · injection h with h; subst h; exact rl [4] [] [.dec false] (by kernel_rfl) (pc (h5) <| pn)
  · rcases r with _ | _ <;> exact Ex.noConfusion

theorem k_slices_Equal_int {a1 : List Int} {a2 : List Int} {r : Bool} (h : slices_Equal_int a1 a2 = some r) :
    CallsOK Tryz.prog UU 73 [.sl 3 a1, .sl 3 a2] [] (.v (.bool r)) [] := by
  unfold slices_Equal_int at h
  rcases ite_out h with ⟨h3, h⟩ | ⟨h3, h⟩
  · injection h with h; subst h; exact rf Tryz.func73 rfl none [.dec true] (by kernel_rfl) (pc (h3) <| pn)
  · obtain ⟨r12, h11, h⟩ := bind_out h
    rcases r12 with _ | _
    · injection h with h; subst h; exact rf Tryz.func73 rfl none [.dec false, .sum [0, 1, 4, 12, 13] [] .ret [(4, .v (.bool false))] []] (by kernel_rfl) (pc (h3) <| pc (k_slices_Equal_int_L1 _ _ h11) <| pn)
    · injection h with h; subst h; exact rf Tryz.func73 rfl none [.dec false, .sum [0, 1, 4, 12, 13] [] (.exit 0) [(4, .v (.bool false))] []] (by kernel_rfl) (pc (h3) <| pc (k_slices_Equal_int_L1 _ _ h11) <| pn)

theorem k_slices_Equal_uint32_L1 {a1 : List Int} {a2 : List Int} : LoopOK Tryz.prog UU 0 26 (subC (codeOf Tryz.f74) [1, 1, 0, 1, 0, 0]) (ρ := Unit ⊕ Unit) (slices_Equal_uint32_L1 a1 a2)
    (fun v4 : Int => ([(0, .sl 33 a1), (1, .sl 33 a2), (4, .v (.bool false)), (12, .j (a1.length : Int)), (13, .j v4)] : Fr DD)) (fun v4 : Int => ([] : Heap DD)) (fun r => match r with | Sum.inl _ => .ret | Sum.inr _ => .exit 0) (fun r => match r with | Sum.inl _ => [(4, .v (.bool false))] | Sum.inr _ => [(4, .v (.bool false))]) (fun r => match r with | Sum.inl _ => [] | Sum.inr _ => []) := by
  refine loop_sound3 (fun s q h => ?_) (fun r => ?_)
  · replace h : slices_Equal_uint32_L1 a1 a2 s = some q := h; revert h; revert s; intro v4 h
    unfold slices_Equal_uint32_L1 at h
    rcases ite_out h with ⟨h5, h⟩ | ⟨h5, h⟩
    · obtain ⟨x6, h7, h⟩ := bind_out h
      obtain ⟨x8, h9, h⟩ := bind_out h
      rcases ite_out h with ⟨h10, h⟩ | ⟨h10, h⟩
      · injection h with h; subst h; exact rl [4] [] [.dec true, .row (c33 x6), .row (c33 x8), .dec true] (by kernel_rfl) (pc (h5) <| pc (ob33 h7) <| pc (ob33 h9) <| pc (h10) <| pn)
      · injection h with h; subst h; exact rl [0, 1, 4, 12, 13] [] [.dec true, .row (c33 x6), .row (c33 x8), .dec false] (by kernel_rfl) (pc (h5) <| pc (ob33 h7) <| pc (ob33 h9) <| pc (h10) <| pn)
    · injection h with h; subst h; exact rl [4] [] [.dec false] (by kernel_rfl) (pc (h5) <| pn)
  · rcases r with _ | _ <;> exact Ex.noConfusion

theorem k_slices_Equal_uint32 {a1 : List Int} {a2 : List Int} {r : Bool} (h : slices_Equal_uint32 a1 a2 = some r) :
    CallsOK Tryz.prog UU 74 [.sl 33 a1, .sl 33 a2] [] (.v (.bool r)) [] := by
  unfold slices_Equal_uint32 at h
  rcases ite_out h with ⟨h3, h⟩ | ⟨h3, h⟩
  · injection h with h; subst h; exact rf Tryz.func74 rfl none [.dec true] (by kernel_rfl) (pc (h3) <| pn)
  · obtain ⟨r12, h11, h⟩ := bind_out h
    rcases r12 with _ | _
    · injection h with h; subst h; exact rf Tryz.func74 rfl none [.dec false, .sum [0, 1, 4, 12, 13] [] .ret [(4, .v (.bool false))] []] (by kernel_rfl) (pc (h3) <| pc (k_slices_Equal_uint32_L1 _ _ h11) <| pn)
    · injection h with h; subst h; exact rf Tryz.func74 rfl none [.dec false, .sum [0, 1, 4, 12, 13] [] (.exit 0) [(4, .v (.bool false))] []] (by kernel_rfl) (pc (h3) <| pc (k_slices_Equal_uint32_L1 _ _ h11) <| pn)

theorem k_stmt_Same {a1 : Api_Line} {a2 : Api_Line} {r : Bool} (h : stmt_Same a1 a2 = some r) :
    CallsOK Tryz.prog UU 29 [.agg (c37 a1), .agg (c37 a2)] [] (.v (.bool r)) [] := by
  unfold stmt_Same at h
  rcases ite_out h with ⟨h3, h⟩ | ⟨h3, h⟩
  · rcases ite_out h with ⟨h4, h⟩ | ⟨h4, h⟩
    · rcases ite_out h with ⟨h5, h⟩ | ⟨h5, h⟩
      · rcases ite_out h with ⟨h6, h⟩ | ⟨h6, h⟩
        · rcases ite_out h with ⟨h7, h⟩ | ⟨h7, h⟩
          · rcases ite_out h with ⟨h8, h⟩ | ⟨h8, h⟩
            · rcases ite_out h with ⟨h9, h⟩ | ⟨h9, h⟩
              · rcases ite_out h with ⟨h10, h⟩ | ⟨h10, h⟩
                · rcases ite_out h with ⟨h11, h⟩ | ⟨h11, h⟩
                  · rcases ite_out h with ⟨h12, h⟩ | ⟨h12, h⟩
                    · rcases ite_out h with ⟨h13, h⟩ | ⟨h13, h⟩
                      · rcases ite_out h with ⟨h14, h⟩ | ⟨h14, h⟩
                        · rcases ite_out h with ⟨h15, h⟩ | ⟨h15, h⟩
                          · obtain ⟨r16, h17, h⟩ := bind_out h
                            rcases ite_out h with ⟨h18, h⟩ | ⟨h18, h⟩
                            · obtain ⟨r19, h20, h⟩ := bind_out h
                              rcases ite_out h with ⟨h21, h⟩ | ⟨h21, h⟩
                              · obtain ⟨r22, h23, h⟩ := bind_out h
                                rcases ite_out h with ⟨h24, h⟩ | ⟨h24, h⟩
                                · obtain ⟨r25, h26, h⟩ := bind_out h
                                  injection h with h; subst h; exact rf Tryz.func29 rfl none [.dec true, .dec true, .dec true, .dec true, .dec true, .dec true, .dec true, .dec true, .dec true, .dec true, .dec true, .dec true, .dec true, .callv (.v (.bool r16)), .dec true, .callv (.v (.bool r19)), .dec true, .callv (.v (.bool r22)), .dec true, .callv (.v (.bool r25))] (by kernel_rfl) (pc (h3) <| pc (h4) <| pc (h5) <| pc (h6) <| pc (h7) <| pc (h8) <| pc (h9) <| pc (h10) <| pc (h11) <| pc (h12) <| pc (h13) <| pc (h14) <| pc (h15) <| pc (k_slices_Equal_int h17) <| pc (h18) <| pc (k_slices_Equal_int h20) <| pc (h21) <| pc (k_slices_Equal_int h23) <| pc (h24) <| pc (k_slices_Equal_uint32 h26) <| pn)
                                · injection h with h; subst h; exact rf Tryz.func29 rfl none [.dec true, .dec true, .dec true, .dec true, .dec true, .dec true, .dec true, .dec true, .dec true, .dec true, .dec true, .dec true, .dec true, .callv (.v (.bool r16)), .dec true, .callv (.v (.bool r19)), .dec true, .callv (.v (.bool r22)), .dec false] (by kernel_rfl) (pc (h3) <| pc (h4) <| pc (h5) <| pc (h6) <| pc (h7) <| pc (h8) <| pc (h9) <| pc (h10) <| pc (h11) <| pc (h12) <| pc (h13) <| pc (h14) <| pc (h15) <| pc (k_slices_Equal_int h17) <| pc (h18) <| pc (k_slices_Equal_int h20) <| pc (h21) <| pc (k_slices_Equal_int h23) <| pc (h24) <| pn)
                              · injection h with h; subst h; exact rf Tryz.func29 rfl none [.dec true, .dec true, .dec true, .dec true, .dec true, .dec true, .dec true, .dec true, .dec true, .dec true, .dec true, .dec true, .dec true, .callv (.v (.bool r16)), .dec true, .callv (.v (.bool r19)), .dec false] (by kernel_rfl) (pc (h3) <| pc (h4) <| pc (h5) <| pc (h6) <| pc (h7) <| pc (h8) <| pc (h9) <| pc (h10) <| pc (h11) <| pc (h12) <| pc (h13) <| pc (h14) <| pc (h15) <| pc (k_slices_Equal_int h17) <| pc (h18) <| pc (k_slices_Equal_int h20) <| pc (h21) <| pn)
                            · injection h with h; subst h; exact rf Tryz.func29 rfl none [.dec true, .dec true, .dec true, .dec true, .dec true, .dec true, .dec true, .dec true, .dec true, .dec true, .dec true, .dec true, .dec true, .callv (.v (.bool r16)), .dec false] (by kernel_rfl) (pc (h3) <| pc (h4) <| pc (h5) <| pc (h6) <| pc (h7) <| pc (h8) <| pc (h9) <| pc (h10) <| pc (h11) <| pc (h12) <| pc (h13) <| pc (h14) <| pc (h15) <| pc (k_slices_Equal_int h17) <| pc (h18) <| pn)
                          · injection h with h; subst h; exact rf Tryz.func29 rfl none [.dec true, .dec true, .dec true, .dec true, .dec true, .dec true, .dec true, .dec true, .dec true, .dec true, .dec true, .dec true, .dec false] (by kernel_rfl) (pc (h3) <| pc (h4) <| pc (h5) <| pc (h6) <| pc (h7) <| pc (h8) <| pc (h9) <| pc (h10) <| pc (h11) <| pc (h12) <| pc (h13) <| pc (h14) <| pc (h15) <| pn)
                        · injection h with h; subst h; exact rf Tryz.func29 rfl none [.dec true, .dec true, .dec true, .dec true, .dec true, .dec true, .dec true, .dec true, .dec true, .dec true, .dec true, .dec false] (by kernel_rfl) (pc (h3) <| pc (h4) <| pc (h5) <| pc (h6) <| pc (h7) <| pc (h8) <| pc (h9) <| pc (h10) <| pc (h11) <| pc (h12) <| pc (h13) <| pc (h14) <| pn)
                      · injection h with h; subst h; exact rf Tryz.func29 rfl none [.dec true, .dec true, .dec true, .dec true, .dec true, .dec true, .dec true, .dec true, .dec true, .dec true, .dec false] (by kernel_rfl) (pc (h3) <| pc (h4) <| pc (h5) <| pc (h6) <| pc (h7) <| pc (h8) <| pc (h9) <| pc (h10) <| pc (h11) <| pc (h12) <| pc (h13) <| pn)
                    · injection h with h; subst h; exact rf Tryz.func29 rfl none [.dec true, .dec true, .dec true, .dec true, .dec true, .dec true, .dec true, .dec true, .dec true, .dec false] (by kernel_rfl) (pc (h3) <| pc (h4) <| pc (h5) <| pc (h6) <| pc (h7) <| pc (h8) <| pc (h9) <| pc (h10) <| pc (h11) <| pc (h12) <| pn)
                  · injection h with h; subst h; exact rf Tryz.func29 rfl none [.dec true, .dec true, .dec true, .dec true, .dec true, .dec true, .dec true, .dec true, .dec false] (by kernel_rfl) (pc (h3) <| pc (h4) <| pc (h5) <| pc (h6) <| pc (h7) <| pc (h8) <| pc (h9) <| pc (h10) <| pc (h11) <| pn)
                · injection h with h; subst h; exact rf Tryz.func29 rfl none [.dec true, .dec true, .dec true, .dec true, .dec true, .dec true, .dec true, .dec false] (by kernel_rfl) (pc (h3) <| pc (h4) <| pc (h5) <| pc (h6) <| pc (h7) <| pc (h8) <| pc (h9) <| pc (h10) <| pn)
              · injection h with h; subst h; exact rf Tryz.func29 rfl none [.dec true, .dec true, .dec true, .dec true, .dec true, .dec true, .dec false] (by kernel_rfl) (pc (h3) <| pc (h4) <| pc (h5) <| pc (h6) <| pc (h7) <| pc (h8) <| pc (h9) <| pn)
            · injection h with h; subst h; exact rf Tryz.func29 rfl none [.dec true, .dec true, .dec true, .dec true, .dec true, .dec false] (by kernel_rfl) (pc (h3) <| pc (h4) <| pc (h5) <| pc (h6) <| pc (h7) <| pc (h8) <| pn)
          · injection h with h; subst h; exact rf Tryz.func29 rfl none [.dec true, .dec true, .dec true, .dec true, .dec false] (by kernel_rfl) (pc (h3) <| pc (h4) <| pc (h5) <| pc (h6) <| pc (h7) <| pn)
        · injection h with h; subst h; exact rf Tryz.func29 rfl none [.dec true, .dec true, .dec true, .dec false] (by kernel_rfl) (pc (h3) <| pc (h4) <| pc (h5) <| pc (h6) <| pn)
      · injection h with h; subst h; exact rf Tryz.func29 rfl none [.dec true, .dec true, .dec false] (by kernel_rfl) (pc (h3) <| pc (h4) <| pc (h5) <| pn)
    · injection h with h; subst h; exact rf Tryz.func29 rfl none [.dec true, .dec false] (by kernel_rfl) (pc (h3) <| pc (h4) <| pn)
  · injection h with h; subst h; exact rf Tryz.func29 rfl none [.dec false] (by kernel_rfl) (pc (h3) <| pn)

theorem k_stmt_Right {a1 : Api_Line} {r : Bool} (h : stmt_Right a1 = some r) :
    CallsOK Tryz.prog UU 14 [.agg (c37 a1)] [] (.v (.bool r)) [] := by
  unfold stmt_Right at h
  obtain ⟨r2, h3, h⟩ := bind_out h
  obtain ⟨r4, r5⟩ := r2
  rcases ite_out h with ⟨h6, h⟩ | ⟨h6, h⟩
  · obtain ⟨r7, h8, h⟩ := bind_out h
    rcases ite_out h with ⟨h9, h⟩ | ⟨h9, h⟩
    · obtain ⟨r10, h11, h⟩ := bind_out h
      injection h with h; subst h; exact rf Tryz.func14 rfl none [.callm [] (.tup [.agg (c37 r4), .v (.bool r5)]) [], .dec true, .callv (.v (.bool r7)), .dec true, .callv (.v (.bool r10))] (by kernel_rfl) (pc (k_stmt_used h3) <| pc (h6) <| pc (k_num_Name h8) <| pc (h9) <| pc (k_stmt_Same h11) <| pn)
    · injection h with h; subst h; exact rf Tryz.func14 rfl none [.callm [] (.tup [.agg (c37 r4), .v (.bool r5)]) [], .dec true, .callv (.v (.bool r7)), .dec false] (by kernel_rfl) (pc (k_stmt_used h3) <| pc (h6) <| pc (k_num_Name h8) <| pc (h9) <| pn)
  · injection h with h; subst h; exact rf Tryz.func14 rfl none [.callm [] (.tup [.agg (c37 r4), .v (.bool r5)]) [], .dec false] (by kernel_rfl) (pc (k_stmt_used h3) <| pc (h6) <| pn)

theorem k_names_Device_1 {a1 : Api_Device} {a2 : ByteArray} {r : Bool} (h : names_Device_1 a1 a2 = some r) :
    CallsOK Tryz.prog UU 86 [.agg (c50 a1), .rp (c9 a2) 0] [] (.v (.bool r)) [] := by
  unfold names_Device_1 at h
  injection h with h; subst h; exact rf Tryz.func86 rfl none [] (by kernel_rfl) (pn)

theorem k_slices_IndexFunc_Device_Device_1_L1 {a1 : List Api_Device} {a2 : ByteArray} : LoopOK Tryz.prog UU 0 19 (subC (codeOf Tryz.f103) [1, 0, 1, 0, 0]) (ρ := Int ⊕ Unit) (slices_IndexFunc_Device_Device_1_L1 a1 a2)
    (fun v3 : Int => ([(0, .sl 50 a1), (1, .fn (.func 86) [] [.rp (c9 a2) 0]), (4, .z), (7, .j (a1.length : Int)), (8, .j v3)] : Fr DD)) (fun v3 : Int => ([] : Heap DD)) (fun r => match r with | Sum.inl v11 => .ret | Sum.inr _ => .exit 0) (fun r => match r with | Sum.inl v11 => [(4, .j v11)] | Sum.inr _ => [(4, .z)]) (fun r => match r with | Sum.inl v11 => [] | Sum.inr _ => []) := by
  refine loop_sound3 (fun s q h => ?_) (fun r => ?_)
  · replace h : slices_IndexFunc_Device_Device_1_L1 a1 a2 s = some q := h; revert h; revert s; intro v3 h
    unfold slices_IndexFunc_Device_Device_1_L1 at h
    rcases ite_out h with ⟨h4, h⟩ | ⟨h4, h⟩
    · obtain ⟨x5, h6, h⟩ := bind_out h
      obtain ⟨r7, h8, h⟩ := bind_out h
      rcases ite_out h with ⟨h9, h⟩ | ⟨h9, h⟩
      · injection h with h; subst h; exact rl [4] [] [.dec true, .row (c50 x5), .callv (.v (.bool r7)), .dec true] (by kernel_rfl) (pc (h4) <| pc (ob50 h6) <| pc (k_names_Device_1 h8) <| pc (h9) <| pn)
      · injection h with h; subst h; exact rl [0, 1, 4, 7, 8] [] [.dec true, .row (c50 x5), .callv (.v (.bool r7)), .dec false] (by kernel_rfl) (pc (h4) <| pc (ob50 h6) <| pc (k_names_Device_1 h8) <| pc (h9) <| pn)
    · injection h with h; subst h; exact rl [4] [] [.dec false] (by kernel_rfl) (pc (h4) <| pn)
  · rcases r with _ | _ <;> exact Ex.noConfusion

theorem k_slices_IndexFunc_Device_Device_1 {a1 : List Api_Device} {a2 : ByteArray} {r : Int} (h : slices_IndexFunc_Device_Device_1 a1 a2 = some r) :
    CallsOK Tryz.prog UU 103 [.sl 50 a1, .fn (.func 86) [] [.rp (c9 a2) 0]] [] (.j r) [] := by
  unfold slices_IndexFunc_Device_Device_1 at h
  obtain ⟨r13, h12, h⟩ := bind_out h
  rcases r13 with v11 | _
  · injection h with h; subst h; exact rf Tryz.func103 rfl none [.sum [0, 1, 4, 7, 8] [] .ret [(4, .j v11)] []] (by kernel_rfl) (pc (k_slices_IndexFunc_Device_Device_1_L1 _ _ h12) <| pn)
  · injection h with h; subst h; exact rf Tryz.func103 rfl none [.sum [0, 1, 4, 7, 8] [] (.exit 0) [(4, .z)] []] (by kernel_rfl) (pc (k_slices_IndexFunc_Device_Device_1_L1 _ _ h12) <| pn)

theorem k_names_find_Device_Device_1 {a1 : Api_Net} {a2 : List Api_Device} {a3 : ByteArray} {r : Int} (h : names_find_Device_Device_1 a1 a2 a3 = some r) :
    CallsOK Tryz.prog UU 85 [.agg (c31 a1), .sl 50 a2, .fn (.func 86) [] [.rp (c9 a3) 0]] [] (.j r) [] := by
  unfold names_find_Device_Device_1 at h
  obtain ⟨r4, h5, h⟩ := bind_out h
  rcases ite_out h with ⟨h6, h⟩ | ⟨h6, h⟩
  · injection h with h; subst h; exact rf Tryz.func85 rfl none [.callv (.v (.bool r4)), .dec true] (by kernel_rfl) (pc (k_names_Right h5) <| pc (h6) <| pn)
  · obtain ⟨r7, h8, h⟩ := bind_out h
    injection h with h; subst h; exact rf Tryz.func85 rfl none [.callv (.v (.bool r4)), .dec false, .callv (.j r7)] (by kernel_rfl) (pc (k_names_Right h5) <| pc (h6) <| pc (k_slices_IndexFunc_Device_Device_1 h8) <| pn)

theorem k_names_Device {a1 : Api_Net} {a2 : ByteArray} {r : Int} (h : names_Device a1 a2 = some r) :
    CallsOK Tryz.prog UU 48 [.agg (c31 a1), .v (.string a2)] [] (.j r) [] := by
  unfold names_Device at h
  obtain ⟨r3, h4, h⟩ := bind_out h
  injection h with h; subst h; exact rf Tryz.func48 rfl none [.callv (.j r3)] (by kernel_rfl) (pc (k_names_find_Device_Device_1 h4) <| pn)

theorem k_names_Port_1 {a1 : Api_Port} {a2 : Int} {a3 : ByteArray} {r : Bool} (h : names_Port_1 a1 a2 a3 = some r) :
    CallsOK Tryz.prog UU 88 [.agg (c52 a1), .rp (c3 a2) 0, .rp (c9 a3) 0] [] (.v (.bool r)) [] := by
  unfold names_Port_1 at h
  rcases ite_out h with ⟨h4, h⟩ | ⟨h4, h⟩
  · injection h with h; subst h; exact rf Tryz.func88 rfl none [.dec true] (by kernel_rfl) (pc (h4) <| pn)
  · injection h with h; subst h; exact rf Tryz.func88 rfl none [.dec false] (by kernel_rfl) (pc (h4) <| pn)

theorem k_slices_IndexFunc_Port_Port_1_L1 {a1 : List Api_Port} {a2 : Int} {a3 : ByteArray} : LoopOK Tryz.prog UU 0 19 (subC (codeOf Tryz.f104) [1, 0, 1, 0, 0]) (ρ := Int ⊕ Unit) (slices_IndexFunc_Port_Port_1_L1 a1 a2 a3)
    (fun v4 : Int => ([(0, .sl 52 a1), (1, .fn (.func 88) [] [.rp (c3 a2) 0, .rp (c9 a3) 0]), (4, .z), (7, .j (a1.length : Int)), (8, .j v4)] : Fr DD)) (fun v4 : Int => ([] : Heap DD)) (fun r => match r with | Sum.inl v12 => .ret | Sum.inr _ => .exit 0) (fun r => match r with | Sum.inl v12 => [(4, .j v12)] | Sum.inr _ => [(4, .z)]) (fun r => match r with | Sum.inl v12 => [] | Sum.inr _ => []) := by
  refine loop_sound3 (fun s q h => ?_) (fun r => ?_)
  · replace h : slices_IndexFunc_Port_Port_1_L1 a1 a2 a3 s = some q := h; revert h; revert s; intro v4 h
    unfold slices_IndexFunc_Port_Port_1_L1 at h
    rcases ite_out h with ⟨h5, h⟩ | ⟨h5, h⟩
    · obtain ⟨x6, h7, h⟩ := bind_out h
      obtain ⟨r8, h9, h⟩ := bind_out h
      rcases ite_out h with ⟨h10, h⟩ | ⟨h10, h⟩
      · injection h with h; subst h; exact rl [4] [] [.dec true, .row (c52 x6), .callv (.v (.bool r8)), .dec true] (by kernel_rfl) (pc (h5) <| pc (ob52 h7) <| pc (k_names_Port_1 h9) <| pc (h10) <| pn)
      · injection h with h; subst h; exact rl [0, 1, 4, 7, 8] [] [.dec true, .row (c52 x6), .callv (.v (.bool r8)), .dec false] (by kernel_rfl) (pc (h5) <| pc (ob52 h7) <| pc (k_names_Port_1 h9) <| pc (h10) <| pn)
    · injection h with h; subst h; exact rl [4] [] [.dec false] (by kernel_rfl) (pc (h5) <| pn)
  · rcases r with _ | _ <;> exact Ex.noConfusion

theorem k_slices_IndexFunc_Port_Port_1 {a1 : List Api_Port} {a2 : Int} {a3 : ByteArray} {r : Int} (h : slices_IndexFunc_Port_Port_1 a1 a2 a3 = some r) :
    CallsOK Tryz.prog UU 104 [.sl 52 a1, .fn (.func 88) [] [.rp (c3 a2) 0, .rp (c9 a3) 0]] [] (.j r) [] := by
  unfold slices_IndexFunc_Port_Port_1 at h
  obtain ⟨r14, h13, h⟩ := bind_out h
  rcases r14 with v12 | _
  · injection h with h; subst h; exact rf Tryz.func104 rfl none [.sum [0, 1, 4, 7, 8] [] .ret [(4, .j v12)] []] (by kernel_rfl) (pc (k_slices_IndexFunc_Port_Port_1_L1 _ _ h13) <| pn)
  · injection h with h; subst h; exact rf Tryz.func104 rfl none [.sum [0, 1, 4, 7, 8] [] (.exit 0) [(4, .z)] []] (by kernel_rfl) (pc (k_slices_IndexFunc_Port_Port_1_L1 _ _ h13) <| pn)

theorem k_names_find_Port_Port_1 {a1 : Api_Net} {a2 : List Api_Port} {a3 : Int} {a4 : ByteArray} {r : Int} (h : names_find_Port_Port_1 a1 a2 a3 a4 = some r) :
    CallsOK Tryz.prog UU 87 [.agg (c31 a1), .sl 52 a2, .fn (.func 88) [] [.rp (c3 a3) 0, .rp (c9 a4) 0]] [] (.j r) [] := by
  unfold names_find_Port_Port_1 at h
  obtain ⟨r5, h6, h⟩ := bind_out h
  rcases ite_out h with ⟨h7, h⟩ | ⟨h7, h⟩
  · injection h with h; subst h; exact rf Tryz.func87 rfl none [.callv (.v (.bool r5)), .dec true] (by kernel_rfl) (pc (k_names_Right h6) <| pc (h7) <| pn)
  · obtain ⟨r8, h9, h⟩ := bind_out h
    injection h with h; subst h; exact rf Tryz.func87 rfl none [.callv (.v (.bool r5)), .dec false, .callv (.j r8)] (by kernel_rfl) (pc (k_names_Right h6) <| pc (h7) <| pc (k_slices_IndexFunc_Port_Port_1 h9) <| pn)

theorem k_names_Port {a1 : Api_Net} {a2 : Int} {a3 : ByteArray} {r : Int} (h : names_Port a1 a2 a3 = some r) :
    CallsOK Tryz.prog UU 49 [.agg (c31 a1), .j a2, .v (.string a3)] [] (.j r) [] := by
  unfold names_Port at h
  obtain ⟨r4, h5, h⟩ := bind_out h
  injection h with h; subst h; exact rf Tryz.func49 rfl none [.callv (.j r4)] (by kernel_rfl) (pc (k_names_find_Port_Port_1 h5) <| pn)

theorem k_links_end {a1 : Api_Net} {a2 : ByteArray} {a3 : ByteArray} {r : Int} (h : links_end a1 a2 a3 = some r) :
    CallsOK Tryz.prog UU 16 [.agg (c31 a1), .v (.string a2), .v (.string a3)] [] (.j r) [] := by
  unfold links_end at h
  obtain ⟨r4, h5, h⟩ := bind_out h
  rcases ite_out h with ⟨h6, h⟩ | ⟨h6, h⟩
  · injection h with h; subst h; exact rf Tryz.func16 rfl none [.callv (.j r4), .dec true] (by kernel_rfl) (pc (k_names_Device h5) <| pc (h6) <| pn)
  · obtain ⟨r7, h8, h⟩ := bind_out h
    injection h with h; subst h; exact rf Tryz.func16 rfl none [.callv (.j r4), .dec false, .callv (.j r7)] (by kernel_rfl) (pc (k_names_Device h5) <| pc (h6) <| pc (k_names_Port h8) <| pn)

theorem k_slices_Clone_Device {a1 : List Api_Device} {r : List Api_Device} (h : slices_Clone_Device a1 = some r) :
    CallsOK Tryz.prog UU 50 [.sl 50 a1] [] (.os 0 r.length) [.arr 50 r r.length false] := by
  unfold slices_Clone_Device at h
  rcases ite_out h with ⟨h1, h⟩ | ⟨h1, h⟩
  · injection h with h; subst h
    refine sn_split ?_ (fun e => ?_)
    · exact rf Tryz.func50 rfl (some [1]) [.obj [] (.n 50), .obj [] (.arr 50 a1 a1.length false)] (by kernel_rfl) (pc (bs_ob 50 []) <| pc (app_ob 50 (n := 0) (l := []) (xs := a1) h1) <| pn)
    · subst e; exact rf Tryz.func50 rfl (some [1]) [] (by kernel_rfl) (pn)
  · cases h

theorem k_slices_Clone_Port {a1 : List Api_Port} {r : List Api_Port} (h : slices_Clone_Port a1 = some r) :
    CallsOK Tryz.prog UU 51 [.sl 52 a1] [] (.os 0 r.length) [.arr 52 r r.length false] := by
  unfold slices_Clone_Port at h
  rcases ite_out h with ⟨h1, h⟩ | ⟨h1, h⟩
  · injection h with h; subst h
    refine sn_split ?_ (fun e => ?_)
    · exact rf Tryz.func51 rfl (some [1]) [.obj [] (.n 52), .obj [] (.arr 52 a1 a1.length false)] (by kernel_rfl) (pc (bs_ob 52 []) <| pc (app_ob 52 (n := 0) (l := []) (xs := a1) h1) <| pn)
    · subst e; exact rf Tryz.func51 rfl (some [1]) [] (by kernel_rfl) (pn)
  · cases h

theorem k_slices_Clone_Link {a1 : List Api_Link} {r : List Api_Link} (h : slices_Clone_Link a1 = some r) :
    CallsOK Tryz.prog UU 52 [.sl 54 a1] [] (.os 0 r.length) [.arr 54 r r.length false] := by
  unfold slices_Clone_Link at h
  rcases ite_out h with ⟨h1, h⟩ | ⟨h1, h⟩
  · injection h with h; subst h
    refine sn_split ?_ (fun e => ?_)
    · exact rf Tryz.func52 rfl (some [1]) [.obj [] (.n 54), .obj [] (.arr 54 a1 a1.length false)] (by kernel_rfl) (pc (bs_ob 54 []) <| pc (app_ob 54 (n := 0) (l := []) (xs := a1) h1) <| pn)
    · subst e; exact rf Tryz.func52 rfl (some [1]) [] (by kernel_rfl) (pn)
  · cases h

theorem k_slices_Clone_Domain {a1 : List Api_Domain} {r : List Api_Domain} (h : slices_Clone_Domain a1 = some r) :
    CallsOK Tryz.prog UU 53 [.sl 56 a1] [] (.os 0 r.length) [.arr 56 r r.length false] := by
  unfold slices_Clone_Domain at h
  rcases ite_out h with ⟨h1, h⟩ | ⟨h1, h⟩
  · injection h with h; subst h
    refine sn_split ?_ (fun e => ?_)
    · exact rf Tryz.func53 rfl (some [1]) [.obj [] (.n 56), .obj [] (.arr 56 a1 a1.length false)] (by kernel_rfl) (pc (bs_ob 56 []) <| pc (app_ob 56 (n := 0) (l := []) (xs := a1) h1) <| pn)
    · subst e; exact rf Tryz.func53 rfl (some [1]) [] (by kernel_rfl) (pn)
  · cases h

theorem k_slices_Clone_Static {a1 : List Api_Static} {r : List Api_Static} (h : slices_Clone_Static a1 = some r) :
    CallsOK Tryz.prog UU 54 [.sl 90 a1] [] (.os 0 r.length) [.arr 90 r r.length false] := by
  unfold slices_Clone_Static at h
  rcases ite_out h with ⟨h1, h⟩ | ⟨h1, h⟩
  · injection h with h; subst h
    refine sn_split ?_ (fun e => ?_)
    · exact rf Tryz.func54 rfl (some [1]) [.obj [] (.n 90), .obj [] (.arr 90 a1 a1.length false)] (by kernel_rfl) (pc (bs_ob 90 []) <| pc (app_ob 90 (n := 0) (l := []) (xs := a1) h1) <| pn)
    · subst e; exact rf Tryz.func54 rfl (some [1]) [] (by kernel_rfl) (pn)
  · cases h

theorem k_slices_Clone_Flood {a1 : List Api_Flood} {r : List Api_Flood} (h : slices_Clone_Flood a1 = some r) :
    CallsOK Tryz.prog UU 55 [.sl 69 a1] [] (.os 0 r.length) [.arr 69 r r.length false] := by
  unfold slices_Clone_Flood at h
  rcases ite_out h with ⟨h1, h⟩ | ⟨h1, h⟩
  · injection h with h; subst h
    refine sn_split ?_ (fun e => ?_)
    · exact rf Tryz.func55 rfl (some [1]) [.obj [] (.n 69), .obj [] (.arr 69 a1 a1.length false)] (by kernel_rfl) (pc (bs_ob 69 []) <| pc (app_ob 69 (n := 0) (l := []) (xs := a1) h1) <| pn)
    · subst e; exact rf Tryz.func55 rfl (some [1]) [] (by kernel_rfl) (pn)
  · cases h

theorem k_slices_Clone_Vrf {a1 : List Api_Vrf} {r : List Api_Vrf} (h : slices_Clone_Vrf a1 = some r) :
    CallsOK Tryz.prog UU 56 [.sl 72 a1] [] (.os 0 r.length) [.arr 72 r r.length false] := by
  unfold slices_Clone_Vrf at h
  rcases ite_out h with ⟨h1, h⟩ | ⟨h1, h⟩
  · injection h with h; subst h
    refine sn_split ?_ (fun e => ?_)
    · exact rf Tryz.func56 rfl (some [1]) [.obj [] (.n 72), .obj [] (.arr 72 a1 a1.length false)] (by kernel_rfl) (pc (bs_ob 72 []) <| pc (app_ob 72 (n := 0) (l := []) (xs := a1) h1) <| pn)
    · subst e; exact rf Tryz.func56 rfl (some [1]) [] (by kernel_rfl) (pn)
  · cases h

theorem k_slices_Clone_Irb {a1 : List Api_Irb} {r : List Api_Irb} (h : slices_Clone_Irb a1 = some r) :
    CallsOK Tryz.prog UU 57 [.sl 101 a1] [] (.os 0 r.length) [.arr 101 r r.length false] := by
  unfold slices_Clone_Irb at h
  rcases ite_out h with ⟨h1, h⟩ | ⟨h1, h⟩
  · injection h with h; subst h
    refine sn_split ?_ (fun e => ?_)
    · exact rf Tryz.func57 rfl (some [1]) [.obj [] (.n 101), .obj [] (.arr 101 a1 a1.length false)] (by kernel_rfl) (pc (bs_ob 101 []) <| pc (app_ob 101 (n := 0) (l := []) (xs := a1) h1) <| pn)
    · subst e; exact rf Tryz.func57 rfl (some [1]) [] (by kernel_rfl) (pn)
  · cases h

theorem k_slices_Clone_int {a1 : List Int} {r : List Int} (h : slices_Clone_int a1 = some r) :
    CallsOK Tryz.prog UU 58 [.sl 3 a1] [] (.os 0 r.length) [.arr 3 r r.length false] := by
  unfold slices_Clone_int at h
  rcases ite_out h with ⟨h1, h⟩ | ⟨h1, h⟩
  · injection h with h; subst h
    refine sn_split ?_ (fun e => ?_)
    · exact rf Tryz.func58 rfl (some [1]) [.obj [] (.n 3), .obj [] (.arr 3 a1 a1.length false)] (by kernel_rfl) (pc (bs_ob 3 []) <| pc (app_ob 3 (n := 0) (l := []) (xs := a1) h1) <| pn)
    · subst e; exact rf Tryz.func58 rfl (some [1]) [] (by kernel_rfl) (pn)
  · cases h

theorem k_slices_Clone_uint32 {a1 : List Int} {r : List Int} (h : slices_Clone_uint32 a1 = some r) :
    CallsOK Tryz.prog UU 59 [.sl 33 a1] [] (.os 0 r.length) [.arr 33 r r.length false] := by
  unfold slices_Clone_uint32 at h
  rcases ite_out h with ⟨h1, h⟩ | ⟨h1, h⟩
  · injection h with h; subst h
    refine sn_split ?_ (fun e => ?_)
    · exact rf Tryz.func59 rfl (some [1]) [.obj [] (.n 33), .obj [] (.arr 33 a1 a1.length false)] (by kernel_rfl) (pc (bs_ob 33 []) <| pc (app_ob 33 (n := 0) (l := []) (xs := a1) h1) <| pn)
    · subst e; exact rf Tryz.func59 rfl (some [1]) [] (by kernel_rfl) (pn)
  · cases h

def b0_k_names_Copy_L1 : AObj DD := .box 31 [.os 1 0, .os 2 0, .os 3 0, .os 4 0, .os 5 0, .os 6 0, .os 7 0, .os 8 0] false
theorem k_names_Copy_L1 {l4 : List Api_Device} {l7 : List Api_Port} {l10 : List Api_Link} {l13 : List Api_Domain} {l16 : List Api_Static} {l19 : List Api_Flood} {l22 : List Api_Vrf} {l25 : List Api_Irb} : LoopOK Tryz.prog UU 0 119 (subC (codeOf Tryz.f17) [1, 1, 0, 1, 0, 0]) (fun s : (List Api_Port) × Int => match s with | (l26, v27) => names_Copy_L1 l4 l7 l10 l13 l16 l19 l22 l25 l26 v27)
    (fun s : (List Api_Port) × Int => (match s with | (l26, v27) => [(2, .op 0 1 0 0), (3, .op 9 1 0 0), (36, .j (l7.length : Int)), (37, .j v27)] : Fr DD)) (fun s : (List Api_Port) × Int => (match s with | (l26, v27) => [b0_k_names_Copy_L1, .n 50, .n 52, .n 54, .n 56, .n 90, .n 69, .n 72, .n 101, .box 31 [.os 10 l4.length, .os 11 l7.length, .os 12 l10.length, .os 13 l13.length, .os 14 l16.length, .os 15 l19.length, .os 16 l22.length, .os 17 l25.length] false, .arr 50 l4 l4.length false, .arr 52 l26 l7.length false, .arr 54 l10 l10.length false, .arr 56 l13 l13.length false, .arr 90 l16 l16.length false, .arr 69 l19 l19.length false, .arr 72 l22 l22.length false, .arr 101 l25 l25.length false] : Heap DD)) (fun r => match r with | l39 => .exit 0) (fun r => match r with | l39 => [(2, .op 0 1 0 0), (3, .op 9 1 0 0)]) (fun r => match r with | l39 => [b0_k_names_Copy_L1, .n 50, .n 52, .n 54, .n 56, .n 90, .n 69, .n 72, .n 101, .box 31 [.os 10 l4.length, .os 11 l7.length, .os 12 l10.length, .os 13 l13.length, .os 14 l16.length, .os 15 l19.length, .os 16 l22.length, .os 17 l25.length] false, .arr 50 l4 l4.length false, .arr 52 l39 l7.length false, .arr 54 l10 l10.length false, .arr 56 l13 l13.length false, .arr 90 l16 l16.length false, .arr 69 l19 l19.length false, .arr 72 l22 l22.length false, .arr 101 l25 l25.length false]) := by
  refine loop_sound3 (fun s q h => ?_) (fun r => ?_)
  · obtain ⟨l26, v27⟩ := s; replace h : names_Copy_L1 l4 l7 l10 l13 l16 l19 l22 l25 l26 v27 = some q := h
    unfold names_Copy_L1 at h
    rcases ite_out h with ⟨h28, h⟩ | ⟨h28, h⟩
    · rcases ite_out h with ⟨h29, h⟩ | ⟨h29, h⟩
      · obtain ⟨x30, h31, h⟩ := bind_out h
        obtain ⟨l34, h33, h⟩ := bind_out h
        obtain ⟨x35, h36, h⟩ := bind_out h
        injection h with h; subst h; exact rl [2, 3, 36, 37] [0, 1, 2, 3, 4, 5, 6, 7, 8, 9, 10, 11, 12, 13, 14, 15, 16, 17] [.dec true, .sum [9] [] .nor [] [b0_k_names_Copy_L1, .n 50, .n 52, .n 54, .n 56, .n 90, .n 69, .n 72, .n 101, .box 31 [.os 10 l4.length, .os 11 l7.length, .os 12 l10.length, .os 13 l13.length, .os 14 l16.length, .os 15 l19.length, .os 16 l22.length, .os 17 l25.length] false, .arr 50 l4 l4.length false, .arr 52 l26 l7.length false, .arr 54 l10 l10.length false, .arr 56 l13 l13.length false, .arr 90 l16 l16.length false, .arr 69 l19 l19.length false, .arr 72 l22 l22.length false, .arr 101 l25 l25.length false, .arr 3 l34 l34.length false], .row (c52 x30), .callo (.os 0 l34.length) [.arr 3 l34 l34.length false], .row (c52 x35), .obj [18] (.arr 52 (List.set l26 v27.toNat (⟨x35.row, x35.dev, x35.native, x35.cost, x35.link, x35.name, l34⟩ : Api_Port)) l7.length false)] (by kernel_rfl) (pc (h28) <| pc ((rfl : (.op 9 1 0 1 : AV DD) = .op 9 1 0 1)) <| pc ((rfl : (.os 11 l7.length : AV DD) = .os 11 l7.length)) <| pc ((rfl : (.j v27 : AV DD) = .j v27)) <| pc (an l7.length (lin_ob h29)) <| pc ((rn l7.length)) <| pc (an l7.length (obn52 h31)) <| pc ((rfl : ([b0_k_names_Copy_L1, .n 50, .n 52, .n 54, .n 56, .n 90, .n 69, .n 72, .n 101, .box 31 [.os 10 l4.length, .os 11 l7.length, .os 12 l10.length, .os 13 l13.length, .os 14 l16.length, .os 15 l19.length, .os 16 l22.length, .os 17 l25.length] false, .arr 50 l4 l4.length false, .arr 52 l26 l7.length false, .arr 54 l10 l10.length false, .arr 56 l13 l13.length false, .arr 90 l16 l16.length false, .arr 69 l19 l19.length false, .arr 72 l22 l22.length false, .arr 101 l25 l25.length false, .arr 3 l34 l34.length false] : Heap DD) = [b0_k_names_Copy_L1, .n 50, .n 52, .n 54, .n 56, .n 90, .n 69, .n 72, .n 101, .box 31 [.os 10 l4.length, .os 11 l7.length, .os 12 l10.length, .os 13 l13.length, .os 14 l16.length, .os 15 l19.length, .os 16 l22.length, .os 17 l25.length] false, .arr 50 l4 l4.length false, .arr 52 l26 l7.length false, .arr 54 l10 l10.length false, .arr 56 l13 l13.length false, .arr 90 l16 l16.length false, .arr 69 l19 l19.length false, .arr 72 l22 l22.length false, .arr 101 l25 l25.length false, .arr 3 l34 l34.length false])) <| pc (k_slices_Clone_int h33) <| pc (im3 l34) <| pc (an l7.length (lin_ob h29)) <| pc ((rn l7.length)) <| pc (st_ob (e := 52) (n := l7.length) (l := l26) (i := v27.toNat) (⟨x35.row, x35.dev, x35.native, x35.cost, x35.link, x35.name, l34⟩ : Api_Port) [.v (.int .i64 x35.row), .v (.int .i64 x35.dev), .v (.int .i64 x35.native), .v (.int .i64 x35.cost), .v (.int .i64 x35.link), .v (.string x35.name), .sl 3 l34] (obn52 h36) rfl) <| pc ((rn l34.length)) <| pn)
      · cases h
    · injection h with h; subst h; exact rl [2, 3] [0, 1, 2, 3, 4, 5, 6, 7, 8, 9, 10, 11, 12, 13, 14, 15, 16, 17] [.dec false] (by kernel_rfl) (pc (h28) <| pn)
  · exact Ex.noConfusion

def b0_k_names_Copy_L2 : AObj DD := .box 31 [.os 1 0, .os 2 0, .os 3 0, .os 4 0, .os 5 0, .os 6 0, .os 7 0, .os 8 0] false
theorem k_names_Copy_L2 {l4 : List Api_Device} {l7 : List Api_Port} {l10 : List Api_Link} {l13 : List Api_Domain} {l16 : List Api_Static} {l19 : List Api_Flood} {l22 : List Api_Vrf} {l25 : List Api_Irb} {l39 : List Api_Port} : LoopOK Tryz.prog UU 0 119 (subC (codeOf Tryz.f17) [1, 1, 1, 0, 1, 0, 0]) (fun s : (List Api_Domain) × Int => match s with | (l42, v43) => names_Copy_L2 l4 l7 l10 l13 l16 l19 l22 l25 l39 l42 v43)
    (fun s : (List Api_Domain) × Int => (match s with | (l42, v43) => [(2, .op 0 1 0 0), (3, .op 9 1 0 0), (55, .j (l13.length : Int)), (56, .j v43)] : Fr DD)) (fun s : (List Api_Domain) × Int => (match s with | (l42, v43) => [b0_k_names_Copy_L2, .n 50, .n 52, .n 54, .n 56, .n 90, .n 69, .n 72, .n 101, .box 31 [.os 10 l4.length, .os 11 l7.length, .os 12 l10.length, .os 13 l13.length, .os 14 l16.length, .os 15 l19.length, .os 16 l22.length, .os 17 l25.length] false, .arr 50 l4 l4.length false, .arr 52 l39 l7.length false, .arr 54 l10 l10.length false, .arr 56 l42 l13.length false, .arr 90 l16 l16.length false, .arr 69 l19 l19.length false, .arr 72 l22 l22.length false, .arr 101 l25 l25.length false] : Heap DD)) (fun r => match r with | l55 => .exit 2) (fun r => match r with | l55 => [(2, .op 0 1 0 0), (3, .op 9 1 0 0)]) (fun r => match r with | l55 => [b0_k_names_Copy_L2, .n 50, .n 52, .n 54, .n 56, .n 90, .n 69, .n 72, .n 101, .box 31 [.os 10 l4.length, .os 11 l7.length, .os 12 l10.length, .os 13 l13.length, .os 14 l16.length, .os 15 l19.length, .os 16 l22.length, .os 17 l25.length] false, .arr 50 l4 l4.length false, .arr 52 l39 l7.length false, .arr 54 l10 l10.length false, .arr 56 l55 l13.length false, .arr 90 l16 l16.length false, .arr 69 l19 l19.length false, .arr 72 l22 l22.length false, .arr 101 l25 l25.length false]) := by
  refine loop_sound3 (fun s q h => ?_) (fun r => ?_)
  · obtain ⟨l42, v43⟩ := s; replace h : names_Copy_L2 l4 l7 l10 l13 l16 l19 l22 l25 l39 l42 v43 = some q := h
    unfold names_Copy_L2 at h
    rcases ite_out h with ⟨h44, h⟩ | ⟨h44, h⟩
    · rcases ite_out h with ⟨h45, h⟩ | ⟨h45, h⟩
      · obtain ⟨x46, h47, h⟩ := bind_out h
        obtain ⟨l50, h49, h⟩ := bind_out h
        obtain ⟨x51, h52, h⟩ := bind_out h
        injection h with h; subst h; exact rl [2, 3, 55, 56] [0, 1, 2, 3, 4, 5, 6, 7, 8, 9, 10, 11, 12, 13, 14, 15, 16, 17] [.dec true, .sum [9] [] .nor [] [b0_k_names_Copy_L2, .n 50, .n 52, .n 54, .n 56, .n 90, .n 69, .n 72, .n 101, .box 31 [.os 10 l4.length, .os 11 l7.length, .os 12 l10.length, .os 13 l13.length, .os 14 l16.length, .os 15 l19.length, .os 16 l22.length, .os 17 l25.length] false, .arr 50 l4 l4.length false, .arr 52 l39 l7.length false, .arr 54 l10 l10.length false, .arr 56 l42 l13.length false, .arr 90 l16 l16.length false, .arr 69 l19 l19.length false, .arr 72 l22 l22.length false, .arr 101 l25 l25.length false, .arr 3 l50 l50.length false], .row (c56 x46), .callo (.os 0 l50.length) [.arr 3 l50 l50.length false], .row (c56 x51), .obj [18] (.arr 56 (List.set l42 v43.toNat (⟨x51.dev, x51.vlan, x51.vni, x51.irb, x51.row, l50⟩ : Api_Domain)) l13.length false)] (by kernel_rfl) (pc (h44) <| pc ((rfl : (.op 9 1 0 3 : AV DD) = .op 9 1 0 3)) <| pc ((rfl : (.os 13 l13.length : AV DD) = .os 13 l13.length)) <| pc ((rfl : (.j v43 : AV DD) = .j v43)) <| pc (an l13.length (lin_ob h45)) <| pc ((rn l13.length)) <| pc (an l13.length (obn56 h47)) <| pc ((rfl : ([b0_k_names_Copy_L2, .n 50, .n 52, .n 54, .n 56, .n 90, .n 69, .n 72, .n 101, .box 31 [.os 10 l4.length, .os 11 l7.length, .os 12 l10.length, .os 13 l13.length, .os 14 l16.length, .os 15 l19.length, .os 16 l22.length, .os 17 l25.length] false, .arr 50 l4 l4.length false, .arr 52 l39 l7.length false, .arr 54 l10 l10.length false, .arr 56 l42 l13.length false, .arr 90 l16 l16.length false, .arr 69 l19 l19.length false, .arr 72 l22 l22.length false, .arr 101 l25 l25.length false, .arr 3 l50 l50.length false] : Heap DD) = [b0_k_names_Copy_L2, .n 50, .n 52, .n 54, .n 56, .n 90, .n 69, .n 72, .n 101, .box 31 [.os 10 l4.length, .os 11 l7.length, .os 12 l10.length, .os 13 l13.length, .os 14 l16.length, .os 15 l19.length, .os 16 l22.length, .os 17 l25.length] false, .arr 50 l4 l4.length false, .arr 52 l39 l7.length false, .arr 54 l10 l10.length false, .arr 56 l42 l13.length false, .arr 90 l16 l16.length false, .arr 69 l19 l19.length false, .arr 72 l22 l22.length false, .arr 101 l25 l25.length false, .arr 3 l50 l50.length false])) <| pc (k_slices_Clone_int h49) <| pc (im3 l50) <| pc (an l13.length (lin_ob h45)) <| pc ((rn l13.length)) <| pc (st_ob (e := 56) (n := l13.length) (l := l42) (i := v43.toNat) (⟨x51.dev, x51.vlan, x51.vni, x51.irb, x51.row, l50⟩ : Api_Domain) [.v (.int .i64 x51.dev), .v (.int .i64 x51.vlan), .v (.int .i64 x51.vni), .v (.int .i64 x51.irb), .v (.int .i64 x51.row), .sl 3 l50] (obn56 h52) rfl) <| pc ((rn l50.length)) <| pn)
      · cases h
    · injection h with h; subst h; exact rl [2, 3] [0, 1, 2, 3, 4, 5, 6, 7, 8, 9, 10, 11, 12, 13, 14, 15, 16, 17] [.dec false] (by kernel_rfl) (pc (h44) <| pn)
  · exact Ex.noConfusion

def b0_k_names_Copy_L3 : AObj DD := .box 31 [.os 1 0, .os 2 0, .os 3 0, .os 4 0, .os 5 0, .os 6 0, .os 7 0, .os 8 0] false
theorem k_names_Copy_L3 {l4 : List Api_Device} {l7 : List Api_Port} {l10 : List Api_Link} {l13 : List Api_Domain} {l16 : List Api_Static} {l19 : List Api_Flood} {l22 : List Api_Vrf} {l25 : List Api_Irb} {l39 : List Api_Port} {l55 : List Api_Domain} : LoopOK Tryz.prog UU 0 119 (subC (codeOf Tryz.f17) [1, 1, 1, 1, 0, 1, 0, 0]) (fun s : (List Api_Flood) × Int => match s with | (l58, v59) => names_Copy_L3 l4 l7 l10 l13 l16 l19 l22 l25 l39 l55 l58 v59)
    (fun s : (List Api_Flood) × Int => (match s with | (l58, v59) => [(2, .op 0 1 0 0), (3, .op 9 1 0 0), (74, .j (l19.length : Int)), (75, .j v59)] : Fr DD)) (fun s : (List Api_Flood) × Int => (match s with | (l58, v59) => [b0_k_names_Copy_L3, .n 50, .n 52, .n 54, .n 56, .n 90, .n 69, .n 72, .n 101, .box 31 [.os 10 l4.length, .os 11 l7.length, .os 12 l10.length, .os 13 l13.length, .os 14 l16.length, .os 15 l19.length, .os 16 l22.length, .os 17 l25.length] false, .arr 50 l4 l4.length false, .arr 52 l39 l7.length false, .arr 54 l10 l10.length false, .arr 56 l55 l13.length false, .arr 90 l16 l16.length false, .arr 69 l58 l19.length false, .arr 72 l22 l22.length false, .arr 101 l25 l25.length false] : Heap DD)) (fun r => match r with | l71 => .exit 4) (fun r => match r with | l71 => [(2, .op 0 1 0 0), (3, .op 9 1 0 0)]) (fun r => match r with | l71 => [b0_k_names_Copy_L3, .n 50, .n 52, .n 54, .n 56, .n 90, .n 69, .n 72, .n 101, .box 31 [.os 10 l4.length, .os 11 l7.length, .os 12 l10.length, .os 13 l13.length, .os 14 l16.length, .os 15 l19.length, .os 16 l22.length, .os 17 l25.length] false, .arr 50 l4 l4.length false, .arr 52 l39 l7.length false, .arr 54 l10 l10.length false, .arr 56 l55 l13.length false, .arr 90 l16 l16.length false, .arr 69 l71 l19.length false, .arr 72 l22 l22.length false, .arr 101 l25 l25.length false]) := by
  refine loop_sound3 (fun s q h => ?_) (fun r => ?_)
  · obtain ⟨l58, v59⟩ := s; replace h : names_Copy_L3 l4 l7 l10 l13 l16 l19 l22 l25 l39 l55 l58 v59 = some q := h
    unfold names_Copy_L3 at h
    rcases ite_out h with ⟨h60, h⟩ | ⟨h60, h⟩
    · rcases ite_out h with ⟨h61, h⟩ | ⟨h61, h⟩
      · obtain ⟨x62, h63, h⟩ := bind_out h
        obtain ⟨l66, h65, h⟩ := bind_out h
        obtain ⟨x67, h68, h⟩ := bind_out h
        injection h with h; subst h; exact rl [2, 3, 74, 75] [0, 1, 2, 3, 4, 5, 6, 7, 8, 9, 10, 11, 12, 13, 14, 15, 16, 17] [.dec true, .sum [9] [] .nor [] [b0_k_names_Copy_L3, .n 50, .n 52, .n 54, .n 56, .n 90, .n 69, .n 72, .n 101, .box 31 [.os 10 l4.length, .os 11 l7.length, .os 12 l10.length, .os 13 l13.length, .os 14 l16.length, .os 15 l19.length, .os 16 l22.length, .os 17 l25.length] false, .arr 50 l4 l4.length false, .arr 52 l39 l7.length false, .arr 54 l10 l10.length false, .arr 56 l55 l13.length false, .arr 90 l16 l16.length false, .arr 69 l58 l19.length false, .arr 72 l22 l22.length false, .arr 101 l25 l25.length false, .arr 33 l66 l66.length false], .row (c69 x62), .callo (.os 0 l66.length) [.arr 33 l66 l66.length false], .row (c69 x67), .obj [18] (.arr 69 (List.set l58 v59.toNat (⟨x67.row, x67.dev, x67.vni, l66⟩ : Api_Flood)) l19.length false)] (by kernel_rfl) (pc (h60) <| pc ((rfl : (.op 9 1 0 5 : AV DD) = .op 9 1 0 5)) <| pc ((rfl : (.os 15 l19.length : AV DD) = .os 15 l19.length)) <| pc ((rfl : (.j v59 : AV DD) = .j v59)) <| pc (an l19.length (lin_ob h61)) <| pc ((rn l19.length)) <| pc (an l19.length (obn69 h63)) <| pc ((rfl : ([b0_k_names_Copy_L3, .n 50, .n 52, .n 54, .n 56, .n 90, .n 69, .n 72, .n 101, .box 31 [.os 10 l4.length, .os 11 l7.length, .os 12 l10.length, .os 13 l13.length, .os 14 l16.length, .os 15 l19.length, .os 16 l22.length, .os 17 l25.length] false, .arr 50 l4 l4.length false, .arr 52 l39 l7.length false, .arr 54 l10 l10.length false, .arr 56 l55 l13.length false, .arr 90 l16 l16.length false, .arr 69 l58 l19.length false, .arr 72 l22 l22.length false, .arr 101 l25 l25.length false, .arr 33 l66 l66.length false] : Heap DD) = [b0_k_names_Copy_L3, .n 50, .n 52, .n 54, .n 56, .n 90, .n 69, .n 72, .n 101, .box 31 [.os 10 l4.length, .os 11 l7.length, .os 12 l10.length, .os 13 l13.length, .os 14 l16.length, .os 15 l19.length, .os 16 l22.length, .os 17 l25.length] false, .arr 50 l4 l4.length false, .arr 52 l39 l7.length false, .arr 54 l10 l10.length false, .arr 56 l55 l13.length false, .arr 90 l16 l16.length false, .arr 69 l58 l19.length false, .arr 72 l22 l22.length false, .arr 101 l25 l25.length false, .arr 33 l66 l66.length false])) <| pc (k_slices_Clone_uint32 h65) <| pc (im33 l66) <| pc (an l19.length (lin_ob h61)) <| pc ((rn l19.length)) <| pc (st_ob (e := 69) (n := l19.length) (l := l58) (i := v59.toNat) (⟨x67.row, x67.dev, x67.vni, l66⟩ : Api_Flood) [.v (.int .i64 x67.row), .v (.int .i64 x67.dev), .v (.int .i64 x67.vni), .sl 33 l66] (obn69 h68) rfl) <| pc ((rn l66.length)) <| pn)
      · cases h
    · injection h with h; subst h; exact rl [2, 3] [0, 1, 2, 3, 4, 5, 6, 7, 8, 9, 10, 11, 12, 13, 14, 15, 16, 17] [.dec false] (by kernel_rfl) (pc (h60) <| pn)
  · exact Ex.noConfusion

def b0_k_names_Copy_L4 : AObj DD := .box 31 [.os 1 0, .os 2 0, .os 3 0, .os 4 0, .os 5 0, .os 6 0, .os 7 0, .os 8 0] false
theorem k_names_Copy_L4 {l4 : List Api_Device} {l7 : List Api_Port} {l10 : List Api_Link} {l13 : List Api_Domain} {l16 : List Api_Static} {l19 : List Api_Flood} {l22 : List Api_Vrf} {l25 : List Api_Irb} {l39 : List Api_Port} {l55 : List Api_Domain} {l71 : List Api_Flood} : LoopOK Tryz.prog UU 0 119 (subC (codeOf Tryz.f17) [1, 1, 1, 1, 1, 0, 1, 0, 0]) (fun s : (List Api_Vrf) × Int => match s with | (l74, v75) => names_Copy_L4 l4 l7 l10 l13 l16 l19 l22 l25 l39 l55 l71 l74 v75)
    (fun s : (List Api_Vrf) × Int => (match s with | (l74, v75) => [(2, .op 0 1 0 0), (3, .op 9 1 0 0), (93, .j (l22.length : Int)), (94, .j v75)] : Fr DD)) (fun s : (List Api_Vrf) × Int => (match s with | (l74, v75) => [b0_k_names_Copy_L4, .n 50, .n 52, .n 54, .n 56, .n 90, .n 69, .n 72, .n 101, .box 31 [.os 10 l4.length, .os 11 l7.length, .os 12 l10.length, .os 13 l13.length, .os 14 l16.length, .os 15 l19.length, .os 16 l22.length, .os 17 l25.length] false, .arr 50 l4 l4.length false, .arr 52 l39 l7.length false, .arr 54 l10 l10.length false, .arr 56 l55 l13.length false, .arr 90 l16 l16.length false, .arr 69 l71 l19.length false, .arr 72 l74 l22.length false, .arr 101 l25 l25.length false] : Heap DD)) (fun r => match r with | l94 => .exit 6) (fun r => match r with | l94 => [(2, .op 0 1 0 0), (3, .op 9 1 0 0)]) (fun r => match r with | l94 => [b0_k_names_Copy_L4, .n 50, .n 52, .n 54, .n 56, .n 90, .n 69, .n 72, .n 101, .box 31 [.os 10 l4.length, .os 11 l7.length, .os 12 l10.length, .os 13 l13.length, .os 14 l16.length, .os 15 l19.length, .os 16 l22.length, .os 17 l25.length] false, .arr 50 l4 l4.length false, .arr 52 l39 l7.length false, .arr 54 l10 l10.length false, .arr 56 l55 l13.length false, .arr 90 l16 l16.length false, .arr 69 l71 l19.length false, .arr 72 l94 l22.length false, .arr 101 l25 l25.length false]) := by
  refine loop_sound3 (fun s q h => ?_) (fun r => ?_)
  · obtain ⟨l74, v75⟩ := s; replace h : names_Copy_L4 l4 l7 l10 l13 l16 l19 l22 l25 l39 l55 l71 l74 v75 = some q := h
    unfold names_Copy_L4 at h
    rcases ite_out h with ⟨h76, h⟩ | ⟨h76, h⟩
    · rcases ite_out h with ⟨h77, h⟩ | ⟨h77, h⟩
      · obtain ⟨x78, h79, h⟩ := bind_out h
        obtain ⟨l82, h81, h⟩ := bind_out h
        obtain ⟨x83, h84, h⟩ := bind_out h
        obtain ⟨l87, h86, h⟩ := bind_out h
        obtain ⟨x88, h89, h⟩ := bind_out h
        obtain ⟨x90, h91, h⟩ := bind_out h
        injection h with h; subst h; exact rl [2, 3, 93, 94] [0, 1, 2, 3, 4, 5, 6, 7, 8, 9, 10, 11, 12, 13, 14, 15, 16, 17] [.dec true, .sum [6] [] .nor [] [b0_k_names_Copy_L4, .n 50, .n 52, .n 54, .n 56, .n 90, .n 69, .n 72, .n 101, .box 31 [.os 10 l4.length, .os 11 l7.length, .os 12 l10.length, .os 13 l13.length, .os 14 l16.length, .os 15 l19.length, .os 16 l22.length, .os 17 l25.length] false, .arr 50 l4 l4.length false, .arr 52 l39 l7.length false, .arr 54 l10 l10.length false, .arr 56 l55 l13.length false, .arr 90 l16 l16.length false, .arr 69 l71 l19.length false, .arr 72 l74 l22.length false, .arr 101 l25 l25.length false, .arr 3 l82 l82.length false], .sum [11] [] .nor [] [b0_k_names_Copy_L4, .n 50, .n 52, .n 54, .n 56, .n 90, .n 69, .n 72, .n 101, .box 31 [.os 10 l4.length, .os 11 l7.length, .os 12 l10.length, .os 13 l13.length, .os 14 l16.length, .os 15 l19.length, .os 16 l22.length, .os 17 l25.length] false, .arr 50 l4 l4.length false, .arr 52 l39 l7.length false, .arr 54 l10 l10.length false, .arr 56 l55 l13.length false, .arr 90 l16 l16.length false, .arr 69 l71 l19.length false, .arr 72 l74 l22.length false, .arr 101 l25 l25.length false, .arr 3 l82 l82.length false, .arr 3 l87 l87.length false], .sum [14] [] .nor [] [b0_k_names_Copy_L4, .n 50, .n 52, .n 54, .n 56, .n 90, .n 69, .n 72, .n 101, .box 31 [.os 10 l4.length, .os 11 l7.length, .os 12 l10.length, .os 13 l13.length, .os 14 l16.length, .os 15 l19.length, .os 16 l22.length, .os 17 l25.length] false, .arr 50 l4 l4.length false, .arr 52 l39 l7.length false, .arr 54 l10 l10.length false, .arr 56 l55 l13.length false, .arr 90 l16 l16.length false, .arr 69 l71 l19.length false, .arr 72 (List.set l74 v75.toNat (⟨x88.row, x88.dev, x88.name, l82, x88.exports⟩ : Api_Vrf)) l22.length false, .arr 101 l25 l25.length false, .arr 3 l82 l82.length true, .arr 3 l87 l87.length false], .row (c72 x78), .callo (.os 0 l82.length) [.arr 3 l82 l82.length false], .row (c72 x83), .callo (.os 0 l87.length) [.arr 3 l87 l87.length false], .row (c72 x88), .obj [18] (.arr 72 (List.set l74 v75.toNat (⟨x88.row, x88.dev, x88.name, l82, x88.exports⟩ : Api_Vrf)) l22.length false), .row (c72 x90), .obj [19] (.arr 72 (List.set (List.set l74 v75.toNat (⟨x88.row, x88.dev, x88.name, l82, x88.exports⟩ : Api_Vrf)) v75.toNat (⟨x90.row, x90.dev, x90.name, x90.imports, l87⟩ : Api_Vrf)) l22.length false)] (by kernel_rfl) (pc (h76) <| pc (an l22.length (lin_ob h77)) <| pc ((rfl : (.op 16 l22.length v75.toNat 0 : AV DD) = .op 16 l22.length v75.toNat 0)) <| pc ((rfl : (.op 16 l22.length v75.toNat 0 : AV DD) = .op 16 l22.length v75.toNat 0)) <| pc ((rfl : (.op 16 l22.length v75.toNat 0 : AV DD) = .op 16 l22.length v75.toNat 0)) <| pc ((rfl : (.op 16 l22.length v75.toNat 0 : AV DD) = .op 16 l22.length v75.toNat 0)) <| pc ((rfl : (.op 16 l22.length v75.toNat 0 : AV DD) = .op 16 l22.length v75.toNat 0)) <| pc ((rn l22.length)) <| pc ((rn l22.length)) <| pc (an l22.length (obn72 h79)) <| pc ((rfl : ([b0_k_names_Copy_L4, .n 50, .n 52, .n 54, .n 56, .n 90, .n 69, .n 72, .n 101, .box 31 [.os 10 l4.length, .os 11 l7.length, .os 12 l10.length, .os 13 l13.length, .os 14 l16.length, .os 15 l19.length, .os 16 l22.length, .os 17 l25.length] false, .arr 50 l4 l4.length false, .arr 52 l39 l7.length false, .arr 54 l10 l10.length false, .arr 56 l55 l13.length false, .arr 90 l16 l16.length false, .arr 69 l71 l19.length false, .arr 72 l74 l22.length false, .arr 101 l25 l25.length false, .arr 3 l82 l82.length false] : Heap DD) = [b0_k_names_Copy_L4, .n 50, .n 52, .n 54, .n 56, .n 90, .n 69, .n 72, .n 101, .box 31 [.os 10 l4.length, .os 11 l7.length, .os 12 l10.length, .os 13 l13.length, .os 14 l16.length, .os 15 l19.length, .os 16 l22.length, .os 17 l25.length] false, .arr 50 l4 l4.length false, .arr 52 l39 l7.length false, .arr 54 l10 l10.length false, .arr 56 l55 l13.length false, .arr 90 l16 l16.length false, .arr 69 l71 l19.length false, .arr 72 l74 l22.length false, .arr 101 l25 l25.length false, .arr 3 l82 l82.length false])) <| pc (k_slices_Clone_int h81) <| pc (im3 l82) <| pc ((rfl : (.op 16 l22.length v75.toNat 0 : AV DD) = .op 16 l22.length v75.toNat 0)) <| pc ((rn l22.length)) <| pc ((rn l22.length)) <| pc ((rfl : (.op 16 l22.length v75.toNat 0 : AV DD) = .op 16 l22.length v75.toNat 0)) <| pc ((rn l22.length)) <| pc ((rn l22.length)) <| pc ((rfl : (.op 16 l22.length v75.toNat 4 : AV DD) = .op 16 l22.length v75.toNat 4)) <| pc (an l22.length (obn72 h84)) <| pc (an l22.length (obn72 h84)) <| pc ((rfl : (.sl 3 x83.exports : AV DD) = .sl 3 x83.exports)) <| pc ((rfl : ([b0_k_names_Copy_L4, .n 50, .n 52, .n 54, .n 56, .n 90, .n 69, .n 72, .n 101, .box 31 [.os 10 l4.length, .os 11 l7.length, .os 12 l10.length, .os 13 l13.length, .os 14 l16.length, .os 15 l19.length, .os 16 l22.length, .os 17 l25.length] false, .arr 50 l4 l4.length false, .arr 52 l39 l7.length false, .arr 54 l10 l10.length false, .arr 56 l55 l13.length false, .arr 90 l16 l16.length false, .arr 69 l71 l19.length false, .arr 72 l74 l22.length false, .arr 101 l25 l25.length false, .arr 3 l82 l82.length false, .arr 3 l87 l87.length false] : Heap DD) = [b0_k_names_Copy_L4, .n 50, .n 52, .n 54, .n 56, .n 90, .n 69, .n 72, .n 101, .box 31 [.os 10 l4.length, .os 11 l7.length, .os 12 l10.length, .os 13 l13.length, .os 14 l16.length, .os 15 l19.length, .os 16 l22.length, .os 17 l25.length] false, .arr 50 l4 l4.length false, .arr 52 l39 l7.length false, .arr 54 l10 l10.length false, .arr 56 l55 l13.length false, .arr 90 l16 l16.length false, .arr 69 l71 l19.length false, .arr 72 l74 l22.length false, .arr 101 l25 l25.length false, .arr 3 l82 l82.length false, .arr 3 l87 l87.length false])) <| pc (k_slices_Clone_int h86) <| pc (im3 l87) <| pc ((rn l22.length)) <| pc ((rn l22.length)) <| pc ((rfl : ([b0_k_names_Copy_L4, .n 50, .n 52, .n 54, .n 56, .n 90, .n 69, .n 72, .n 101, .box 31 [.os 10 l4.length, .os 11 l7.length, .os 12 l10.length, .os 13 l13.length, .os 14 l16.length, .os 15 l19.length, .os 16 l22.length, .os 17 l25.length] false, .arr 50 l4 l4.length false, .arr 52 l39 l7.length false, .arr 54 l10 l10.length false, .arr 56 l55 l13.length false, .arr 90 l16 l16.length false, .arr 69 l71 l19.length false, .arr 72 (List.set l74 v75.toNat (⟨x88.row, x88.dev, x88.name, l82, x88.exports⟩ : Api_Vrf)) l22.length false, .arr 101 l25 l25.length false, .arr 3 l82 l82.length true, .arr 3 l87 l87.length false] : Heap DD) = [b0_k_names_Copy_L4, .n 50, .n 52, .n 54, .n 56, .n 90, .n 69, .n 72, .n 101, .box 31 [.os 10 l4.length, .os 11 l7.length, .os 12 l10.length, .os 13 l13.length, .os 14 l16.length, .os 15 l19.length, .os 16 l22.length, .os 17 l25.length] false, .arr 50 l4 l4.length false, .arr 52 l39 l7.length false, .arr 54 l10 l10.length false, .arr 56 l55 l13.length false, .arr 90 l16 l16.length false, .arr 69 l71 l19.length false, .arr 72 (List.set l74 v75.toNat (⟨x88.row, x88.dev, x88.name, l82, x88.exports⟩ : Api_Vrf)) l22.length false, .arr 101 l25 l25.length false, .arr 3 l82 l82.length true, .arr 3 l87 l87.length false])) <| pc (st_ob (e := 72) (n := l22.length) (l := l74) (i := v75.toNat) (⟨x88.row, x88.dev, x88.name, l82, x88.exports⟩ : Api_Vrf) [.v (.int .i64 x88.row), .v (.int .i64 x88.dev), .v (.string x88.name), .sl 3 l82, .sl 3 x88.exports] (obn72 h89) rfl) <| pc ((rn l82.length)) <| pc ((rn l22.length)) <| pc ((rn l22.length)) <| pc (st_ob (e := 72) (n := l22.length) (l := List.set l74 v75.toNat (⟨x88.row, x88.dev, x88.name, l82, x88.exports⟩ : Api_Vrf)) (i := v75.toNat) (⟨x90.row, x90.dev, x90.name, x90.imports, l87⟩ : Api_Vrf) [.v (.int .i64 x90.row), .v (.int .i64 x90.dev), .v (.string x90.name), .sl 3 x90.imports, .sl 3 l87] (obn72 h91) rfl) <| pc ((rn l87.length)) <| pn)
      · cases h
    · injection h with h; subst h; exact rl [2, 3] [0, 1, 2, 3, 4, 5, 6, 7, 8, 9, 10, 11, 12, 13, 14, 15, 16, 17] [.dec false] (by kernel_rfl) (pc (h76) <| pn)
  · exact Ex.noConfusion

def b0_k_names_Copy : AObj DD := .box 31 [.os 1 0, .os 2 0, .os 3 0, .os 4 0, .os 5 0, .os 6 0, .os 7 0, .os 8 0] false
theorem k_names_Copy {a1 : Api_Net} {r : ((List Api_Device) × (List Api_Port) × (List Api_Link) × (List Api_Domain) × (List Api_Static) × (List Api_Flood) × (List Api_Vrf) × (List Api_Irb) × Nat × Nat × Nat × Nat)} (h : names_Copy a1 = some r) :
    CallsOK Tryz.prog UU 17 [.agg (c31 a1)] [] ((fun r => match r with | (l97, l98, l99, l100, l101, l102, l103, l104, n105, n106, n107, n108) => .agg [.os 0 l97.length, .os 1 n105, .os 2 l99.length, .os 3 n106, .os 4 l101.length, .os 5 n107, .os 6 n108, .os 7 l104.length]) r) ((fun r => match r with | (l97, l98, l99, l100, l101, l102, l103, l104, n105, n106, n107, n108) => [.arr 50 l97 l97.length false, .arr 52 l98 n105 false, .arr 54 l99 l99.length false, .arr 56 l100 n106 false, .arr 90 l101 l101.length false, .arr 69 l102 n107 false, .arr 72 l103 n108 false, .arr 101 l104 l104.length false]) r) := by
  unfold names_Copy at h
  obtain ⟨l4, h3, h⟩ := bind_out h
  obtain ⟨l7, h6, h⟩ := bind_out h
  obtain ⟨l10, h9, h⟩ := bind_out h
  obtain ⟨l13, h12, h⟩ := bind_out h
  obtain ⟨l16, h15, h⟩ := bind_out h
  obtain ⟨l19, h18, h⟩ := bind_out h
  obtain ⟨l22, h21, h⟩ := bind_out h
  obtain ⟨l25, h24, h⟩ := bind_out h
  obtain ⟨l39, h40, h⟩ := bind_out h
  obtain ⟨l55, h56, h⟩ := bind_out h
  obtain ⟨l71, h72, h⟩ := bind_out h
  obtain ⟨l94, h95, h⟩ := bind_out h
  injection h with h; subst h; exact rf Tryz.func17 rfl (some [10, 11, 12, 13, 14, 15, 16, 17]) [.sum [2] [] .nor [] [.box 31 (c31 a1) false, .n 50, .n 52, .n 54, .n 56, .n 90, .n 69, .n 72, .n 101, b0_k_names_Copy, .arr 50 l4 l4.length false], .sum [5] [] .nor [] [.box 31 (c31 a1) false, .n 50, .n 52, .n 54, .n 56, .n 90, .n 69, .n 72, .n 101, b0_k_names_Copy, .arr 50 l4 l4.length false, .arr 52 l7 l7.length false], .sum [8] [] .nor [] [.box 31 (c31 a1) false, .n 50, .n 52, .n 54, .n 56, .n 90, .n 69, .n 72, .n 101, b0_k_names_Copy, .arr 50 l4 l4.length false, .arr 52 l7 l7.length false, .arr 54 l10 l10.length false], .sum [11] [] .nor [] [.box 31 (c31 a1) false, .n 50, .n 52, .n 54, .n 56, .n 90, .n 69, .n 72, .n 101, b0_k_names_Copy, .arr 50 l4 l4.length false, .arr 52 l7 l7.length false, .arr 54 l10 l10.length false, .arr 56 l13 l13.length false], .sum [14] [] .nor [] [.box 31 (c31 a1) false, .n 50, .n 52, .n 54, .n 56, .n 90, .n 69, .n 72, .n 101, b0_k_names_Copy, .arr 50 l4 l4.length false, .arr 52 l7 l7.length false, .arr 54 l10 l10.length false, .arr 56 l13 l13.length false, .arr 90 l16 l16.length false], .sum [17] [] .nor [] [.box 31 (c31 a1) false, .n 50, .n 52, .n 54, .n 56, .n 90, .n 69, .n 72, .n 101, b0_k_names_Copy, .arr 50 l4 l4.length false, .arr 52 l7 l7.length false, .arr 54 l10 l10.length false, .arr 56 l13 l13.length false, .arr 90 l16 l16.length false, .arr 69 l19 l19.length false], .sum [20] [] .nor [] [.box 31 (c31 a1) false, .n 50, .n 52, .n 54, .n 56, .n 90, .n 69, .n 72, .n 101, b0_k_names_Copy, .arr 50 l4 l4.length false, .arr 52 l7 l7.length false, .arr 54 l10 l10.length false, .arr 56 l13 l13.length false, .arr 90 l16 l16.length false, .arr 69 l19 l19.length false, .arr 72 l22 l22.length false], .sum [23] [] .nor [] [.box 31 (c31 a1) false, .n 50, .n 52, .n 54, .n 56, .n 90, .n 69, .n 72, .n 101, b0_k_names_Copy, .arr 50 l4 l4.length false, .arr 52 l7 l7.length false, .arr 54 l10 l10.length false, .arr 56 l13 l13.length false, .arr 90 l16 l16.length false, .arr 69 l19 l19.length false, .arr 72 l22 l22.length false, .arr 101 l25 l25.length false], .callo (.os 0 l4.length) [.arr 50 l4 l4.length false], .callm [] (.os 0 l7.length) [.arr 52 l7 l7.length false], .callo (.os 0 l10.length) [.arr 54 l10 l10.length false], .callm [] (.os 0 l13.length) [.arr 56 l13 l13.length false], .callo (.os 0 l16.length) [.arr 90 l16 l16.length false], .callm [] (.os 0 l19.length) [.arr 69 l19 l19.length false], .callm [] (.os 0 l22.length) [.arr 72 l22 l22.length false], .callo (.os 0 l25.length) [.arr 101 l25 l25.length false], .sum [2, 3, 36, 37] [9, 1, 2, 3, 4, 5, 6, 7, 8, 26, 10, 11, 12, 13, 14, 15, 16, 17] (.exit 0) [(2, .op 0 1 0 0), (3, .op 9 1 0 0)] [b0_k_names_Copy, .n 50, .n 52, .n 54, .n 56, .n 90, .n 69, .n 72, .n 101, .box 31 [.os 10 l4.length, .os 11 l7.length, .os 12 l10.length, .os 13 l13.length, .os 14 l16.length, .os 15 l19.length, .os 16 l22.length, .os 17 l25.length] false, .arr 50 l4 l4.length false, .arr 52 l39 l7.length false, .arr 54 l10 l10.length false, .arr 56 l13 l13.length false, .arr 90 l16 l16.length false, .arr 69 l19 l19.length false, .arr 72 l22 l22.length false, .arr 101 l25 l25.length false], .sum [2, 3, 55, 56] [0, 1, 2, 3, 4, 5, 6, 7, 8, 9, 10, 11, 12, 13, 14, 15, 16, 17] (.exit 2) [(2, .op 0 1 0 0), (3, .op 9 1 0 0)] [b0_k_names_Copy, .n 50, .n 52, .n 54, .n 56, .n 90, .n 69, .n 72, .n 101, .box 31 [.os 10 l4.length, .os 11 l7.length, .os 12 l10.length, .os 13 l13.length, .os 14 l16.length, .os 15 l19.length, .os 16 l22.length, .os 17 l25.length] false, .arr 50 l4 l4.length false, .arr 52 l39 l7.length false, .arr 54 l10 l10.length false, .arr 56 l55 l13.length false, .arr 90 l16 l16.length false, .arr 69 l19 l19.length false, .arr 72 l22 l22.length false, .arr 101 l25 l25.length false], .sum [2, 3, 74, 75] [0, 1, 2, 3, 4, 5, 6, 7, 8, 9, 10, 11, 12, 13, 14, 15, 16, 17] (.exit 4) [(2, .op 0 1 0 0), (3, .op 9 1 0 0)] [b0_k_names_Copy, .n 50, .n 52, .n 54, .n 56, .n 90, .n 69, .n 72, .n 101, .box 31 [.os 10 l4.length, .os 11 l7.length, .os 12 l10.length, .os 13 l13.length, .os 14 l16.length, .os 15 l19.length, .os 16 l22.length, .os 17 l25.length] false, .arr 50 l4 l4.length false, .arr 52 l39 l7.length false, .arr 54 l10 l10.length false, .arr 56 l55 l13.length false, .arr 90 l16 l16.length false, .arr 69 l71 l19.length false, .arr 72 l22 l22.length false, .arr 101 l25 l25.length false], .sum [2, 3, 93, 94] [0, 1, 2, 3, 4, 5, 6, 7, 8, 9, 10, 11, 12, 13, 14, 15, 16, 17] (.exit 6) [(2, .op 0 1 0 0), (3, .op 9 1 0 0)] [b0_k_names_Copy, .n 50, .n 52, .n 54, .n 56, .n 90, .n 69, .n 72, .n 101, .box 31 [.os 10 l4.length, .os 11 l7.length, .os 12 l10.length, .os 13 l13.length, .os 14 l16.length, .os 15 l19.length, .os 16 l22.length, .os 17 l25.length] false, .arr 50 l4 l4.length false, .arr 52 l39 l7.length false, .arr 54 l10 l10.length false, .arr 56 l55 l13.length false, .arr 90 l16 l16.length false, .arr 69 l71 l19.length false, .arr 72 l94 l22.length false, .arr 101 l25 l25.length false]] (by kernel_rfl) (pc ((rfl : ([.box 31 (c31 a1) false, .n 50, .n 52, .n 54, .n 56, .n 90, .n 69, .n 72, .n 101, b0_k_names_Copy, .arr 50 l4 l4.length false] : Heap DD) = [.box 31 (c31 a1) false, .n 50, .n 52, .n 54, .n 56, .n 90, .n 69, .n 72, .n 101, b0_k_names_Copy, .arr 50 l4 l4.length false])) <| pc (k_slices_Clone_Device h3) <| pc (im50 l4) <| pc ((rfl : (.op 0 1 0 1 : AV DD) = .op 0 1 0 1)) <| pc ((rfl : (.sl 52 a1.ports : AV DD) = .sl 52 a1.ports)) <| pc ((rfl : ([.box 31 (c31 a1) false, .n 50, .n 52, .n 54, .n 56, .n 90, .n 69, .n 72, .n 101, b0_k_names_Copy, .arr 50 l4 l4.length false, .arr 52 l7 l7.length false] : Heap DD) = [.box 31 (c31 a1) false, .n 50, .n 52, .n 54, .n 56, .n 90, .n 69, .n 72, .n 101, b0_k_names_Copy, .arr 50 l4 l4.length false, .arr 52 l7 l7.length false])) <| pc (k_slices_Clone_Port h6) <| pc ((rfl : (.op 0 1 0 2 : AV DD) = .op 0 1 0 2)) <| pc ((rfl : (.op 0 1 0 2 : AV DD) = .op 0 1 0 2)) <| pc ((rfl : (.sl 54 a1.links : AV DD) = .sl 54 a1.links)) <| pc ((rfl : (.sl 54 a1.links : AV DD) = .sl 54 a1.links)) <| pc ((rfl : ([.box 31 (c31 a1) false, .n 50, .n 52, .n 54, .n 56, .n 90, .n 69, .n 72, .n 101, b0_k_names_Copy, .arr 50 l4 l4.length false, .arr 52 l7 l7.length false, .arr 54 l10 l10.length false] : Heap DD) = [.box 31 (c31 a1) false, .n 50, .n 52, .n 54, .n 56, .n 90, .n 69, .n 72, .n 101, b0_k_names_Copy, .arr 50 l4 l4.length false, .arr 52 l7 l7.length false, .arr 54 l10 l10.length false])) <| pc (k_slices_Clone_Link h9) <| pc (im54 l10) <| pc ((rfl : (.op 0 1 0 3 : AV DD) = .op 0 1 0 3)) <| pc ((rfl : (.op 0 1 0 3 : AV DD) = .op 0 1 0 3)) <| pc ((rfl : (.op 0 1 0 3 : AV DD) = .op 0 1 0 3)) <| pc ((rfl : (.sl 56 a1.domains : AV DD) = .sl 56 a1.domains)) <| pc ((rfl : (.sl 56 a1.domains : AV DD) = .sl 56 a1.domains)) <| pc ((rfl : (.sl 56 a1.domains : AV DD) = .sl 56 a1.domains)) <| pc ((rfl : ([.box 31 (c31 a1) false, .n 50, .n 52, .n 54, .n 56, .n 90, .n 69, .n 72, .n 101, b0_k_names_Copy, .arr 50 l4 l4.length false, .arr 52 l7 l7.length false, .arr 54 l10 l10.length false, .arr 56 l13 l13.length false] : Heap DD) = [.box 31 (c31 a1) false, .n 50, .n 52, .n 54, .n 56, .n 90, .n 69, .n 72, .n 101, b0_k_names_Copy, .arr 50 l4 l4.length false, .arr 52 l7 l7.length false, .arr 54 l10 l10.length false, .arr 56 l13 l13.length false])) <| pc (k_slices_Clone_Domain h12) <| pc ((rfl : (.op 0 1 0 4 : AV DD) = .op 0 1 0 4)) <| pc ((rfl : (.op 0 1 0 4 : AV DD) = .op 0 1 0 4)) <| pc ((rfl : (.op 0 1 0 4 : AV DD) = .op 0 1 0 4)) <| pc ((rfl : (.op 0 1 0 4 : AV DD) = .op 0 1 0 4)) <| pc ((rfl : (.sl 90 a1.statics : AV DD) = .sl 90 a1.statics)) <| pc ((rfl : (.sl 90 a1.statics : AV DD) = .sl 90 a1.statics)) <| pc ((rfl : (.sl 90 a1.statics : AV DD) = .sl 90 a1.statics)) <| pc ((rfl : (.sl 90 a1.statics : AV DD) = .sl 90 a1.statics)) <| pc ((rfl : ([.box 31 (c31 a1) false, .n 50, .n 52, .n 54, .n 56, .n 90, .n 69, .n 72, .n 101, b0_k_names_Copy, .arr 50 l4 l4.length false, .arr 52 l7 l7.length false, .arr 54 l10 l10.length false, .arr 56 l13 l13.length false, .arr 90 l16 l16.length false] : Heap DD) = [.box 31 (c31 a1) false, .n 50, .n 52, .n 54, .n 56, .n 90, .n 69, .n 72, .n 101, b0_k_names_Copy, .arr 50 l4 l4.length false, .arr 52 l7 l7.length false, .arr 54 l10 l10.length false, .arr 56 l13 l13.length false, .arr 90 l16 l16.length false])) <| pc (k_slices_Clone_Static h15) <| pc (im90 l16) <| pc ((rfl : (.op 0 1 0 5 : AV DD) = .op 0 1 0 5)) <| pc ((rfl : (.op 0 1 0 5 : AV DD) = .op 0 1 0 5)) <| pc ((rfl : (.op 0 1 0 5 : AV DD) = .op 0 1 0 5)) <| pc ((rfl : (.op 0 1 0 5 : AV DD) = .op 0 1 0 5)) <| pc ((rfl : (.op 0 1 0 5 : AV DD) = .op 0 1 0 5)) <| pc ((rfl : (.sl 69 a1.floods : AV DD) = .sl 69 a1.floods)) <| pc ((rfl : (.sl 69 a1.floods : AV DD) = .sl 69 a1.floods)) <| pc ((rfl : (.sl 69 a1.floods : AV DD) = .sl 69 a1.floods)) <| pc ((rfl : (.sl 69 a1.floods : AV DD) = .sl 69 a1.floods)) <| pc ((rfl : (.sl 69 a1.floods : AV DD) = .sl 69 a1.floods)) <| pc ((rfl : ([.box 31 (c31 a1) false, .n 50, .n 52, .n 54, .n 56, .n 90, .n 69, .n 72, .n 101, b0_k_names_Copy, .arr 50 l4 l4.length false, .arr 52 l7 l7.length false, .arr 54 l10 l10.length false, .arr 56 l13 l13.length false, .arr 90 l16 l16.length false, .arr 69 l19 l19.length false] : Heap DD) = [.box 31 (c31 a1) false, .n 50, .n 52, .n 54, .n 56, .n 90, .n 69, .n 72, .n 101, b0_k_names_Copy, .arr 50 l4 l4.length false, .arr 52 l7 l7.length false, .arr 54 l10 l10.length false, .arr 56 l13 l13.length false, .arr 90 l16 l16.length false, .arr 69 l19 l19.length false])) <| pc (k_slices_Clone_Flood h18) <| pc ((rfl : (.op 0 1 0 6 : AV DD) = .op 0 1 0 6)) <| pc ((rfl : (.op 0 1 0 6 : AV DD) = .op 0 1 0 6)) <| pc ((rfl : (.op 0 1 0 6 : AV DD) = .op 0 1 0 6)) <| pc ((rfl : (.op 0 1 0 6 : AV DD) = .op 0 1 0 6)) <| pc ((rfl : (.op 0 1 0 6 : AV DD) = .op 0 1 0 6)) <| pc ((rfl : (.op 0 1 0 6 : AV DD) = .op 0 1 0 6)) <| pc ((rfl : (.sl 72 a1.vrfs : AV DD) = .sl 72 a1.vrfs)) <| pc ((rfl : (.sl 72 a1.vrfs : AV DD) = .sl 72 a1.vrfs)) <| pc ((rfl : (.sl 72 a1.vrfs : AV DD) = .sl 72 a1.vrfs)) <| pc ((rfl : (.sl 72 a1.vrfs : AV DD) = .sl 72 a1.vrfs)) <| pc ((rfl : (.sl 72 a1.vrfs : AV DD) = .sl 72 a1.vrfs)) <| pc ((rfl : (.sl 72 a1.vrfs : AV DD) = .sl 72 a1.vrfs)) <| pc ((rfl : ([.box 31 (c31 a1) false, .n 50, .n 52, .n 54, .n 56, .n 90, .n 69, .n 72, .n 101, b0_k_names_Copy, .arr 50 l4 l4.length false, .arr 52 l7 l7.length false, .arr 54 l10 l10.length false, .arr 56 l13 l13.length false, .arr 90 l16 l16.length false, .arr 69 l19 l19.length false, .arr 72 l22 l22.length false] : Heap DD) = [.box 31 (c31 a1) false, .n 50, .n 52, .n 54, .n 56, .n 90, .n 69, .n 72, .n 101, b0_k_names_Copy, .arr 50 l4 l4.length false, .arr 52 l7 l7.length false, .arr 54 l10 l10.length false, .arr 56 l13 l13.length false, .arr 90 l16 l16.length false, .arr 69 l19 l19.length false, .arr 72 l22 l22.length false])) <| pc (k_slices_Clone_Vrf h21) <| pc ((rfl : (.op 0 1 0 7 : AV DD) = .op 0 1 0 7)) <| pc ((rfl : (.op 0 1 0 7 : AV DD) = .op 0 1 0 7)) <| pc ((rfl : (.op 0 1 0 7 : AV DD) = .op 0 1 0 7)) <| pc ((rfl : (.op 0 1 0 7 : AV DD) = .op 0 1 0 7)) <| pc ((rfl : (.op 0 1 0 7 : AV DD) = .op 0 1 0 7)) <| pc ((rfl : (.op 0 1 0 7 : AV DD) = .op 0 1 0 7)) <| pc ((rfl : (.op 0 1 0 7 : AV DD) = .op 0 1 0 7)) <| pc ((rfl : (.sl 101 a1.irbs : AV DD) = .sl 101 a1.irbs)) <| pc ((rfl : (.sl 101 a1.irbs : AV DD) = .sl 101 a1.irbs)) <| pc ((rfl : (.sl 101 a1.irbs : AV DD) = .sl 101 a1.irbs)) <| pc ((rfl : (.sl 101 a1.irbs : AV DD) = .sl 101 a1.irbs)) <| pc ((rfl : (.sl 101 a1.irbs : AV DD) = .sl 101 a1.irbs)) <| pc ((rfl : (.sl 101 a1.irbs : AV DD) = .sl 101 a1.irbs)) <| pc ((rfl : (.sl 101 a1.irbs : AV DD) = .sl 101 a1.irbs)) <| pc ((rfl : ([.box 31 (c31 a1) false, .n 50, .n 52, .n 54, .n 56, .n 90, .n 69, .n 72, .n 101, b0_k_names_Copy, .arr 50 l4 l4.length false, .arr 52 l7 l7.length false, .arr 54 l10 l10.length false, .arr 56 l13 l13.length false, .arr 90 l16 l16.length false, .arr 69 l19 l19.length false, .arr 72 l22 l22.length false, .arr 101 l25 l25.length false] : Heap DD) = [.box 31 (c31 a1) false, .n 50, .n 52, .n 54, .n 56, .n 90, .n 69, .n 72, .n 101, b0_k_names_Copy, .arr 50 l4 l4.length false, .arr 52 l7 l7.length false, .arr 54 l10 l10.length false, .arr 56 l13 l13.length false, .arr 90 l16 l16.length false, .arr 69 l19 l19.length false, .arr 72 l22 l22.length false, .arr 101 l25 l25.length false])) <| pc (k_slices_Clone_Irb h24) <| pc (im101 l25) <| pc ((rn l7.length)) <| pc (k_names_Copy_L1 _ _ h40) <| pc ((rn l13.length)) <| pc (k_names_Copy_L2 _ _ h56) <| pc ((rn l19.length)) <| pc (k_names_Copy_L3 _ _ h72) <| pc ((rn l22.length)) <| pc (k_names_Copy_L4 _ _ h95) <| pn)

theorem k_links_Add_L1 {a1 : Api_Net} {a2 : Api_Line} {r10 : Int} {r12 : Int} : LoopOK Tryz.prog UU 0 112 (subC (codeOf Tryz.f6) [1, 1, 1, 0, 1, 0, 0]) (ρ := Unit ⊕ Unit) (links_Add_L1 a1 a2 r10 r12)
    (fun v14 : Int => ([(2, .op 0 1 0 0), (3, .op 1 1 0 0), (4, .op 2 1 0 0), (5, .z), (6, .op 11 1 0 0), (41, .agg [.j r10, .j r12]), (42, .j v14)] : Fr DD)) (fun v14 : Int => ([.box 31 (c31 a1) false, .box 37 (c37 a2) false, .box 31 [.os 3 0, .os 4 0, .os 5 0, .os 6 0, .os 7 0, .os 8 0, .os 9 0, .os 10 0] false, .n 50, .n 52, .n 54, .n 56, .n 90, .n 69, .n 72, .n 101, .box 64 [.j r10, .j r12] false] : Heap DD)) (fun r => match r with | Sum.inl _ => .ret | Sum.inr _ => .exit 0) (fun r => match r with | Sum.inl _ => [(4, .op 0 1 0 0), (5, .j 31)] | Sum.inr _ => [(2, .op 0 1 0 0), (3, .op 1 1 0 0), (4, .op 2 1 0 0), (5, .z), (6, .op 11 1 0 0)]) (fun r => match r with | Sum.inl _ => [.box 31 [.os 1 0, .os 2 0, .os 3 0, .os 4 0, .os 5 0, .os 6 0, .os 7 0, .os 8 0] false, .n 50, .n 52, .n 54, .n 56, .n 90, .n 69, .n 72, .n 101] | Sum.inr _ => [.box 31 (c31 a1) false, .box 37 (c37 a2) false, .box 31 [.os 3 0, .os 4 0, .os 5 0, .os 6 0, .os 7 0, .os 8 0, .os 9 0, .os 10 0] false, .n 50, .n 52, .n 54, .n 56, .n 90, .n 69, .n 72, .n 101, .box 64 [.j r10, .j r12] false]) := by
  refine loop_sound3 (fun s q h => ?_) (fun r => ?_)
  · replace h : links_Add_L1 a1 a2 r10 r12 s = some q := h; revert h; revert s; intro v14 h
    unfold links_Add_L1 at h
    rcases ite_out h with ⟨h15, h⟩ | ⟨h15, h⟩
    · rcases ite_out h with ⟨h16, h⟩ | ⟨h16, h⟩
      · rcases ite_out h with ⟨h17, h⟩ | ⟨h17, h⟩
        · injection h with h; subst h; exact rl [4, 5] [2, 12, 13, 14, 15, 16, 17, 18, 19] [.dec true, .frz [0], .dec true] (by kernel_rfl) (pc (h15) <| pc (eq_of_beq h16) <| pc (h17) <| pn)
        · injection h with h; subst h; exact rl [2, 3, 4, 5, 6, 41, 42] [0, 1, 2, 3, 4, 5, 6, 7, 8, 9, 10, 11] [.dec true, .frz [0], .dec false] (by kernel_rfl) (pc (h15) <| pc (eq_of_beq h16) <| pc (h17) <| pn)
      · rcases ite_out h with ⟨h18, h⟩ | ⟨h18, h⟩
        · rcases ite_out h with ⟨h19, h⟩ | ⟨h19, h⟩
          · injection h with h; subst h; exact rl [4, 5] [2, 12, 13, 14, 15, 16, 17, 18, 19] [.dec true, .frz [1], .dec true] (by kernel_rfl) (pc (h15) <| pc (eq_of_beq h18) <| pc (h19) <| pn)
          · injection h with h; subst h; exact rl [2, 3, 4, 5, 6, 41, 42] [0, 1, 2, 3, 4, 5, 6, 7, 8, 9, 10, 11] [.dec true, .frz [1], .dec false] (by kernel_rfl) (pc (h15) <| pc (eq_of_beq h18) <| pc (h19) <| pn)
        · cases h
    · injection h with h; subst h; exact rl [2, 3, 4, 5, 6] [0, 1, 2, 3, 4, 5, 6, 7, 8, 9, 10, 11] [.dec false] (by kernel_rfl) (pc (h15) <| pn)
  · rcases r with _ | _ <;> exact Ex.noConfusion

theorem k_links_Add_J2 {a1 : Api_Net} {a2 : Api_Line} {r10 : Int} {r12 : Int} {x22 : Api_Port} {x24 : Api_Port} {r : Bool} (h : links_Add_J2 a1 a2 r10 r12 x22 x24 = some r) :
    ExecOK Tryz.prog UU 0 112 (subC (codeOf Tryz.f6) [1, 1, 1, 1, 1, 0, 0, 0]) [(2, .op 0 1 0 0), (3, .op 1 1 0 0), (4, .op 2 1 0 0), (5, .z), (6, .op 11 1 0 0), (9, .op 12 1 0 0), (10, .op 13 1 0 0)] [.box 31 (c31 a1) false, .box 37 (c37 a2) false, .box 31 [.os 3 0, .os 4 0, .os 5 0, .os 6 0, .os 7 0, .os 8 0, .os 9 0, .os 10 0] false, .n 50, .n 52, .n 54, .n 56, .n 90, .n 69, .n 72, .n 101, .box 64 [.j r10, .j r12] false, .box 52 (c52 x22) false, .box 52 (c52 x24) false] ((fun r => match r with | v29 => .nor) r) ((fun r => match r with | v29 => [(2, .op 0 1 0 0), (3, .op 1 1 0 0), (4, .op 2 1 0 0), (5, .z), (6, .op 11 1 0 0), (61, .v (.bool v29))]) r) ((fun r => match r with | v29 => [.box 31 (c31 a1) false, .box 37 (c37 a2) false, .box 31 [.os 3 0, .os 4 0, .os 5 0, .os 6 0, .os 7 0, .os 8 0, .os 9 0, .os 10 0] false, .n 50, .n 52, .n 54, .n 56, .n 90, .n 69, .n 72, .n 101, .box 64 [.j r10, .j r12] false]) r) := by
  unfold links_Add_J2 at h
  rcases ite_out h with ⟨h26, h⟩ | ⟨h26, h⟩
  · injection h with h; subst h; exact rl [2, 3, 4, 5, 6, 61] [0, 1, 2, 3, 4, 5, 6, 7, 8, 9, 10, 11] [.dec true] (by kernel_rfl) (pc (h26) <| pn)
  · rcases ite_out h with ⟨h27, h⟩ | ⟨h27, h⟩
    · injection h with h; subst h; exact rl [2, 3, 4, 5, 6, 61] [0, 1, 2, 3, 4, 5, 6, 7, 8, 9, 10, 11] [.dec false, .dec true] (by kernel_rfl) (pc (h26) <| pc (h27) <| pn)
    · injection h with h; subst h; exact rl [2, 3, 4, 5, 6, 61] [0, 1, 2, 3, 4, 5, 6, 7, 8, 9, 10, 11] [.dec false, .dec false] (by kernel_rfl) (pc (h26) <| pc (h27) <| pn)

theorem k_links_Add_L3 {a2 : Api_Line} {r10 : Int} {r12 : Int} {l36 : List Api_Device} {l38 : List Api_Link} {l39 : List Api_Domain} {l40 : List Api_Static} {l41 : List Api_Flood} {l42 : List Api_Vrf} {l43 : List Api_Irb} {n44 : Nat} {n45 : Nat} {n46 : Nat} {n47 : Nat} : LoopOK Tryz.prog UU 0 112 (subC (codeOf Tryz.f6) [1, 1, 1, 1, 1, 1, 1, 0, 1, 0, 0]) (fun s : (List Api_Port) × Int => match s with | (l48, v49) => links_Add_L3 a2 r10 r12 l36 l38 l39 l40 l41 l42 l43 n44 n45 n46 n47 l48 v49)
    (fun s : (List Api_Port) × Int => (match s with | (l48, v49) => [(3, .op 0 1 0 0), (4, .op 1 1 0 0), (5, .z), (6, .op 10 1 0 0), (11, .op 11 1 0 0), (86, .agg [.j r10, .j r12]), (87, .j v49)] : Fr DD)) (fun s : (List Api_Port) × Int => (match s with | (l48, v49) => [.box 37 (c37 a2) false, .box 31 [.os 2 0, .os 3 0, .os 4 0, .os 5 0, .os 6 0, .os 7 0, .os 8 0, .os 9 0] false, .n 50, .n 52, .n 54, .n 56, .n 90, .n 69, .n 72, .n 101, .box 64 [.j r10, .j r12] false, .box 31 [.os 12 l36.length, .os 13 n44, .os 14 l38.length, .os 15 n45, .os 16 l40.length, .os 17 n46, .os 18 n47, .os 19 l43.length] false, .arr 50 l36 l36.length false, .arr 52 l48 n44 false, .arr 54 l38 l38.length false, .arr 56 l39 n45 false, .arr 90 l40 l40.length false, .arr 69 l41 n46 false, .arr 72 l42 n47 false, .arr 101 l43 l43.length false] : Heap DD)) (fun r => match r with | l64 => .exit 3) (fun r => match r with | l64 => [(3, .op 0 1 0 0), (4, .op 1 1 0 0), (5, .z), (6, .op 10 1 0 0), (11, .op 11 1 0 0)]) (fun r => match r with | l64 => [.box 37 (c37 a2) false, .box 31 [.os 2 0, .os 3 0, .os 4 0, .os 5 0, .os 6 0, .os 7 0, .os 8 0, .os 9 0] false, .n 50, .n 52, .n 54, .n 56, .n 90, .n 69, .n 72, .n 101, .box 64 [.j r10, .j r12] false, .box 31 [.os 12 l36.length, .os 13 n44, .os 14 l38.length, .os 15 n45, .os 16 l40.length, .os 17 n46, .os 18 n47, .os 19 l43.length] false, .arr 50 l36 l36.length false, .arr 52 l64 n44 false, .arr 54 l38 l38.length false, .arr 56 l39 n45 false, .arr 90 l40 l40.length false, .arr 69 l41 n46 false, .arr 72 l42 n47 false, .arr 101 l43 l43.length false]) := by
  refine loop_sound3 (fun s q h => ?_) (fun r => ?_)
  · obtain ⟨l48, v49⟩ := s; replace h : links_Add_L3 a2 r10 r12 l36 l38 l39 l40 l41 l42 l43 n44 n45 n46 n47 l48 v49 = some q := h
    unfold links_Add_L3 at h
    rcases ite_out h with ⟨h50, h⟩ | ⟨h50, h⟩
    · rcases ite_out h with ⟨h51, h⟩ | ⟨h51, h⟩
      · rcases ite_out h with ⟨h52, h⟩ | ⟨h52, h⟩
        · obtain ⟨x53, h54, h⟩ := bind_out h
          injection h with h; subst h; exact rl [3, 4, 5, 6, 11, 86, 87] [0, 1, 2, 3, 4, 5, 6, 7, 8, 9, 10, 11, 12, 13, 14, 15, 16, 17, 18, 19] [.dec true, .frz [0], .row (c52 x53), .obj [] (.arr 52 (List.set l48 r10.toNat (⟨x53.row, x53.dev, x53.native, x53.cost, (l38.length : Int), x53.name, x53.tagged⟩ : Api_Port)) n44 false)] (by kernel_rfl) (pc (h50) <| pc (eq_of_beq h51) <| pc ((rn l38.length)) <| pc (an n44 (lin_ob h52)) <| pc ((rn n44)) <| pc (st_ob (e := 52) (n := n44) (l := l48) (i := r10.toNat) (⟨x53.row, x53.dev, x53.native, x53.cost, (l38.length : Int), x53.name, x53.tagged⟩ : Api_Port) [.v (.int .i64 x53.row), .v (.int .i64 x53.dev), .v (.int .i64 x53.native), .v (.int .i64 x53.cost), .j (l38.length : Int), .v (.string x53.name), .sl 3 x53.tagged] (obn52 h54) rfl) <| pn)
        · cases h
      · rcases ite_out h with ⟨h55, h⟩ | ⟨h55, h⟩
        · rcases ite_out h with ⟨h56, h⟩ | ⟨h56, h⟩
          · obtain ⟨x57, h58, h⟩ := bind_out h
            injection h with h; subst h; exact rl [3, 4, 5, 6, 11, 86, 87] [0, 1, 2, 3, 4, 5, 6, 7, 8, 9, 10, 11, 12, 13, 14, 15, 16, 17, 18, 19] [.dec true, .frz [1], .row (c52 x57), .obj [] (.arr 52 (List.set l48 r12.toNat (⟨x57.row, x57.dev, x57.native, x57.cost, (l38.length : Int), x57.name, x57.tagged⟩ : Api_Port)) n44 false)] (by kernel_rfl) (pc (h50) <| pc (eq_of_beq h55) <| pc ((rn l38.length)) <| pc (an n44 (lin_ob h56)) <| pc ((rn n44)) <| pc (st_ob (e := 52) (n := n44) (l := l48) (i := r12.toNat) (⟨x57.row, x57.dev, x57.native, x57.cost, (l38.length : Int), x57.name, x57.tagged⟩ : Api_Port) [.v (.int .i64 x57.row), .v (.int .i64 x57.dev), .v (.int .i64 x57.native), .v (.int .i64 x57.cost), .j (l38.length : Int), .v (.string x57.name), .sl 3 x57.tagged] (obn52 h58) rfl) <| pn)
          · cases h
        · cases h
    · injection h with h; subst h; exact rl [3, 4, 5, 6, 11] [0, 1, 2, 3, 4, 5, 6, 7, 8, 9, 10, 11, 12, 13, 14, 15, 16, 17, 18, 19] [.dec false] (by kernel_rfl) (pc (h50) <| pn)
  · exact Ex.noConfusion

def b0_k_links_Add : AObj DD := .box 31 [.os 3 0, .os 4 0, .os 5 0, .os 6 0, .os 7 0, .os 8 0, .os 9 0, .os 10 0] false
theorem k_links_Add {a1 : Api_Net} {a2 : Api_Line} {r : ((List Api_Device) × (List Api_Port) × (List Api_Link) × (List Api_Domain) × (List Api_Static) × (List Api_Flood) × (List Api_Vrf) × (List Api_Irb) × Nat × Nat × Nat × Nat × Int)} (h : links_Add a1 a2 = some r) :
    CallsOK Tryz.prog UU 6 [.agg (c31 a1), .agg (c37 a2)] [] ((fun r => match r with | (l68, l69, l70, l71, l72, l73, l74, l75, n76, n77, n78, n79, v80) => .tup [.agg [.os 0 l68.length, .os 1 n76, .os 2 l70.length, .os 3 n77, .os 4 l72.length, .os 5 n78, .os 6 n79, .os 7 l75.length], .j v80]) r) ((fun r => match r with | (l68, l69, l70, l71, l72, l73, l74, l75, n76, n77, n78, n79, v80) => [.arr 50 l68 l68.length false, .arr 52 l69 n76 false, .arr 54 l70 l70.length false, .arr 56 l71 n77 false, .arr 90 l72 l72.length false, .arr 69 l73 n78 false, .arr 72 l74 n79 false, .arr 101 l75 l75.length false]) r) := by
  unfold links_Add at h
  rcases ite_out h with ⟨h3, h⟩ | ⟨h3, h⟩
  · injection h with h; subst h; exact rf Tryz.func6 rfl (some [11, 12, 13, 14, 15, 16, 17, 18]) [.dec true] (by kernel_rfl) (pc (h3) <| pn)
  · obtain ⟨r4, h5, h⟩ := bind_out h
    rcases ite_out h with ⟨h6, h⟩ | ⟨h6, h⟩
    · injection h with h; subst h; exact rf Tryz.func6 rfl (some [11, 12, 13, 14, 15, 16, 17, 18]) [.dec false, .callv (.v (.bool r4)), .dec true] (by kernel_rfl) (pc (h3) <| pc (k_stmt_Right h5) <| pc (h6) <| pn)
    · obtain ⟨r7, h8, h⟩ := bind_out h
      rcases ite_out h with ⟨h9, h⟩ | ⟨h9, h⟩
      · injection h with h; subst h; exact rf Tryz.func6 rfl (some [11, 12, 13, 14, 15, 16, 17, 18]) [.dec false, .callv (.v (.bool r4)), .dec false, .callv (.v (.bool r7)), .dec true] (by kernel_rfl) (pc (h3) <| pc (k_stmt_Right h5) <| pc (h6) <| pc (k_names_Right h8) <| pc (h9) <| pn)
      · obtain ⟨r10, h11, h⟩ := bind_out h
        obtain ⟨r12, h13, h⟩ := bind_out h
        obtain ⟨r21, h20, h⟩ := bind_out h
        rcases r21 with _ | _
        · injection h with h; subst h; exact rf Tryz.func6 rfl (some [1, 2, 3, 4, 5, 6, 7, 8]) [.dec false, .callv (.v (.bool r4)), .dec false, .callv (.v (.bool r7)), .dec false, .callv (.j r10), .callv (.j r12), .sum [2, 3, 4, 5, 6, 41, 42] [0, 1, 10, 2, 3, 4, 5, 6, 7, 8, 9, 11] .ret [(4, .op 0 1 0 0), (5, .j 31)] [.box 31 [.os 1 0, .os 2 0, .os 3 0, .os 4 0, .os 5 0, .os 6 0, .os 7 0, .os 8 0] false, .n 50, .n 52, .n 54, .n 56, .n 90, .n 69, .n 72, .n 101]] (by kernel_rfl) (pc (h3) <| pc (k_stmt_Right h5) <| pc (h6) <| pc (k_names_Right h8) <| pc (h9) <| pc (k_links_end h11) <| pc (k_links_end h13) <| pc (k_links_Add_L1 _ _ h20) <| pn)
        · obtain ⟨x22, h23, h⟩ := bind_out h
          obtain ⟨x24, h25, h⟩ := bind_out h
          obtain ⟨v29, h30, h⟩ := bind_out h
          rcases ite_out h with ⟨h32, h⟩ | ⟨h32, h⟩
          · injection h with h; subst h; exact rf Tryz.func6 rfl (some [12, 13, 14, 15, 16, 17, 18, 19]) [.dec false, .callv (.v (.bool r4)), .dec false, .callv (.v (.bool r7)), .dec false, .callv (.j r10), .callv (.j r12), .sum [2, 3, 4, 5, 6, 41, 42] [0, 1, 10, 2, 3, 4, 5, 6, 7, 8, 9, 11] (.exit 0) [(2, .op 0 1 0 0), (3, .op 1 1 0 0), (4, .op 2 1 0 0), (5, .z), (6, .op 11 1 0 0)] [.box 31 (c31 a1) false, .box 37 (c37 a2) false, b0_k_links_Add, .n 50, .n 52, .n 54, .n 56, .n 90, .n 69, .n 72, .n 101, .box 64 [.j r10, .j r12] false], .frz [0], .row (c52 x22), .frz [1], .row (c52 x24), .skp, .cut [2, 3, 4, 5, 6, 9, 10] [0, 1, 2, 3, 4, 5, 6, 7, 8, 9, 10, 11, 12, 14] .nor [(2, .op 0 1 0 0), (3, .op 1 1 0 0), (4, .op 2 1 0 0), (5, .z), (6, .op 11 1 0 0), (61, .v (.bool v29))] [.box 31 (c31 a1) false, .box 37 (c37 a2) false, b0_k_links_Add, .n 50, .n 52, .n 54, .n 56, .n 90, .n 69, .n 72, .n 101, .box 64 [.j r10, .j r12] false], .dec true] (by kernel_rfl) (pc (h3) <| pc (k_stmt_Right h5) <| pc (h6) <| pc (k_names_Right h8) <| pc (h9) <| pc (k_links_end h11) <| pc (k_links_end h13) <| pc (k_links_Add_L1 _ _ h20) <| pc ((rfl : (0 : Int) = ((0 : Nat) : Int))) <| pc (ob52 h23) <| pc ((rfl : (1 : Int) = ((1 : Nat) : Int))) <| pc (ob52 h25) <| pc (k_links_Add_J2 h30) <| pc (h32) <| pn)
          · rcases ite_out h with ⟨h33, h⟩ | ⟨h33, h⟩
            · injection h with h; subst h; exact rf Tryz.func6 rfl (some [12, 13, 14, 15, 16, 17, 18, 19]) [.dec false, .callv (.v (.bool r4)), .dec false, .callv (.v (.bool r7)), .dec false, .callv (.j r10), .callv (.j r12), .sum [2, 3, 4, 5, 6, 41, 42] [0, 1, 10, 2, 3, 4, 5, 6, 7, 8, 9, 11] (.exit 0) [(2, .op 0 1 0 0), (3, .op 1 1 0 0), (4, .op 2 1 0 0), (5, .z), (6, .op 11 1 0 0)] [.box 31 (c31 a1) false, .box 37 (c37 a2) false, b0_k_links_Add, .n 50, .n 52, .n 54, .n 56, .n 90, .n 69, .n 72, .n 101, .box 64 [.j r10, .j r12] false], .frz [0], .row (c52 x22), .frz [1], .row (c52 x24), .skp, .cut [2, 3, 4, 5, 6, 9, 10] [0, 1, 2, 3, 4, 5, 6, 7, 8, 9, 10, 11, 12, 14] .nor [(2, .op 0 1 0 0), (3, .op 1 1 0 0), (4, .op 2 1 0 0), (5, .z), (6, .op 11 1 0 0), (61, .v (.bool v29))] [.box 31 (c31 a1) false, .box 37 (c37 a2) false, b0_k_links_Add, .n 50, .n 52, .n 54, .n 56, .n 90, .n 69, .n 72, .n 101, .box 64 [.j r10, .j r12] false], .dec false, .dec true] (by kernel_rfl) (pc (h3) <| pc (k_stmt_Right h5) <| pc (h6) <| pc (k_names_Right h8) <| pc (h9) <| pc (k_links_end h11) <| pc (k_links_end h13) <| pc (k_links_Add_L1 _ _ h20) <| pc ((rfl : (0 : Int) = ((0 : Nat) : Int))) <| pc (ob52 h23) <| pc ((rfl : (1 : Int) = ((1 : Nat) : Int))) <| pc (ob52 h25) <| pc (k_links_Add_J2 h30) <| pc (h32) <| pc (h33) <| pn)
            · obtain ⟨r34, h35, h⟩ := bind_out h
              obtain ⟨l36, l37, l38, l39, l40, l41, l42, l43, n44, n45, n46, n47⟩ := r34
              obtain ⟨l64, h65, h⟩ := bind_out h
              rcases ite_out h with ⟨h67, h⟩ | ⟨h67, h⟩
              · injection h with h; subst h; exact rf Tryz.func6 rfl (some [12, 13, 14, 15, 16, 17, 18, 19]) [.dec false, .callv (.v (.bool r4)), .dec false, .callv (.v (.bool r7)), .dec false, .callv (.j r10), .callv (.j r12), .sum [2, 3, 4, 5, 6, 41, 42] [0, 1, 10, 2, 3, 4, 5, 6, 7, 8, 9, 11] (.exit 0) [(2, .op 0 1 0 0), (3, .op 1 1 0 0), (4, .op 2 1 0 0), (5, .z), (6, .op 11 1 0 0)] [.box 31 (c31 a1) false, .box 37 (c37 a2) false, b0_k_links_Add, .n 50, .n 52, .n 54, .n 56, .n 90, .n 69, .n 72, .n 101, .box 64 [.j r10, .j r12] false], .frz [0], .row (c52 x22), .frz [1], .row (c52 x24), .skp, .cut [2, 3, 4, 5, 6, 9, 10] [0, 1, 2, 3, 4, 5, 6, 7, 8, 9, 10, 11, 12, 14] .nor [(2, .op 0 1 0 0), (3, .op 1 1 0 0), (4, .op 2 1 0 0), (5, .z), (6, .op 11 1 0 0), (61, .v (.bool v29))] [.box 31 (c31 a1) false, .box 37 (c37 a2) false, b0_k_links_Add, .n 50, .n 52, .n 54, .n 56, .n 90, .n 69, .n 72, .n 101, .box 64 [.j r10, .j r12] false], .dec false, .dec false, .callm [] (.agg [.os 0 l36.length, .os 1 n44, .os 2 l38.length, .os 3 n45, .os 4 l40.length, .os 5 n46, .os 6 n47, .os 7 l43.length]) [.arr 50 l36 l36.length false, .arr 52 l37 n44 false, .arr 54 l38 l38.length false, .arr 56 l39 n45 false, .arr 90 l40 l40.length false, .arr 69 l41 n46 false, .arr 72 l42 n47 false, .arr 101 l43 l43.length false], .sum [3, 4, 5, 6, 11, 86, 87] [1, 2, 3, 4, 5, 6, 7, 8, 9, 10, 11, 28, 12, 13, 14, 15, 16, 17, 18, 19] (.exit 3) [(3, .op 0 1 0 0), (4, .op 1 1 0 0), (5, .z), (6, .op 10 1 0 0), (11, .op 11 1 0 0)] [.box 37 (c37 a2) false, .box 31 [.os 2 0, .os 3 0, .os 4 0, .os 5 0, .os 6 0, .os 7 0, .os 8 0, .os 9 0] false, .n 50, .n 52, .n 54, .n 56, .n 90, .n 69, .n 72, .n 101, .box 64 [.j r10, .j r12] false, .box 31 [.os 12 l36.length, .os 13 n44, .os 14 l38.length, .os 15 n45, .os 16 l40.length, .os 17 n46, .os 18 n47, .os 19 l43.length] false, .arr 50 l36 l36.length false, .arr 52 l64 n44 false, .arr 54 l38 l38.length false, .arr 56 l39 n45 false, .arr 90 l40 l40.length false, .arr 69 l41 n46 false, .arr 72 l42 n47 false, .arr 101 l43 l43.length false], .frz [0], .frz [1], .obj [] (.arr 54 [(⟨a2.row, r10, r12⟩ : Api_Link)] (List.length [(⟨a2.row, r10, r12⟩ : Api_Link)]) false), .obj [] (.arr 54 (l38 ++ [(⟨a2.row, r10, r12⟩ : Api_Link)]) (List.length (l38 ++ [(⟨a2.row, r10, r12⟩ : Api_Link)])) false)] (by kernel_rfl) (pc (h3) <| pc (k_stmt_Right h5) <| pc (h6) <| pc (k_names_Right h8) <| pc (h9) <| pc (k_links_end h11) <| pc (k_links_end h13) <| pc (k_links_Add_L1 _ _ h20) <| pc ((rfl : (0 : Int) = ((0 : Nat) : Int))) <| pc (ob52 h23) <| pc ((rfl : (1 : Int) = ((1 : Nat) : Int))) <| pc (ob52 h25) <| pc (k_links_Add_J2 h30) <| pc (h32) <| pc (h33) <| pc (k_names_Copy h35) <| pc (k_links_Add_L3 _ _ h65) <| pc ((rfl : (0 : Int) = ((0 : Nat) : Int))) <| pc ((rfl : (1 : Int) = ((1 : Nat) : Int))) <| pc (bs_ob 54 [(⟨a2.row, r10, r12⟩ : Api_Link)]) <| pc (app_ob 54 (n := l38.length) (l := l38) (xs := [(⟨a2.row, r10, r12⟩ : Api_Link)]) h67) <| pc ((rn (List.length [(⟨a2.row, r10, r12⟩ : Api_Link)]))) <| pn)
              · cases h

theorem k_palingref03_digits_L1 : LoopOK Tryz.prog UU 0 23 (subC (codeOf Tryz.f133) [1, 1, 0, 0, 0]) (fun s : Int × ByteArray => match s with | (v2, v3) => palingref03_digits_L1 v2 v3)
    (fun s : Int × ByteArray => (match s with | (v2, v3) => [(0, .v (.int .u64 v2)), (2, .e), (3, .v (.string v3))] : Fr DD)) (fun s : Int × ByteArray => (match s with | (v2, v3) => [] : Heap DD)) (fun r => match r with | (v8, v9) => .exit 0) (fun r => match r with | (v8, v9) => [(0, .v (.int .u64 v8)), (2, .e), (3, .v (.string v9))]) (fun r => match r with | (v8, v9) => []) := by
  refine loop_sound3 (fun s q h => ?_) (fun r => ?_)
  · obtain ⟨v2, v3⟩ := s; replace h : palingref03_digits_L1 v2 v3 = some q := h
    unfold palingref03_digits_L1 at h
    rcases ite_out h with ⟨h4, h⟩ | ⟨h4, h⟩
    · rcases ite_out h with ⟨h5, h⟩ | ⟨h5, h⟩
      · injection h with h; subst h; exact rl [0, 2, 3] [] [.dec true, .obj [] (.arr 5 [(wr_u8 (wr_u64 (48 + (Int.tmod v2 10))) : Int)] (List.length [(wr_u8 (wr_u64 (48 + (Int.tmod v2 10))) : Int)]) false), .callv (.v (.string (bstr [(wr_u8 (wr_u64 (48 + (Int.tmod v2 10))) : Int)])))] (by kernel_rfl) (pc (h4) <| pc ((show (10 : Int) ≠ 0 from by decide)) <| pc (bs_ob 5 [(wr_u8 (wr_u64 (48 + (Int.tmod v2 10))) : Int)]) <| pc (cvb5 [(wr_u8 (wr_u64 (48 + (Int.tmod v2 10))) : Int)]) <| pc ((rn (List.length [(wr_u8 (wr_u64 (48 + (Int.tmod v2 10))) : Int)]))) <| pc (of_decide_eq_true h5) <| pc ((show (10 : Int) ≠ 0 from by decide)) <| pn)
      · cases h
    · injection h with h; subst h; exact rl [0, 2, 3] [] [.dec false] (by kernel_rfl) (pc (h4) <| pn)
  · exact Ex.noConfusion

theorem k_palingref03_digits {a1 : Int} {r : ByteArray} (h : palingref03_digits a1 = some r) :
    CallsOK Tryz.prog UU 133 [.v (.int .u64 a1)] [] (.v (.string r)) [] := by
  unfold palingref03_digits at h
  obtain ⟨r11, h10, h⟩ := bind_out h
  obtain ⟨v8, v9⟩ := r11
  rcases ite_out h with ⟨h12, h⟩ | ⟨h12, h⟩
  · injection h with h; subst h; exact rf Tryz.func133 rfl none [.sum [0, 2, 3] [] (.exit 0) [(0, .v (.int .u64 v8)), (2, .e), (3, .v (.string v9))] [], .obj [] (.arr 5 [(wr_u8 (wr_u64 (48 + v8)) : Int)] (List.length [(wr_u8 (wr_u64 (48 + v8)) : Int)]) false), .callv (.v (.string (bstr [(wr_u8 (wr_u64 (48 + v8)) : Int)])))] (by kernel_rfl) (pc (k_palingref03_digits_L1 _ _ h10) <| pc (bs_ob 5 [(wr_u8 (wr_u64 (48 + v8)) : Int)]) <| pc (cvb5 [(wr_u8 (wr_u64 (48 + v8)) : Int)]) <| pc ((rn (List.length [(wr_u8 (wr_u64 (48 + v8)) : Int)]))) <| pc (of_decide_eq_true h12) <| pn)
  · cases h

theorem k_palingref03_Text {a1 : Int} {r : ByteArray} (h : palingref03_Text a1 = some r) :
    CallsOK Tryz.prog UU 109 [.j a1] [] (.v (.string r)) [] := by
  unfold palingref03_Text at h
  rcases ite_out h with ⟨h2, h⟩ | ⟨h2, h⟩
  · obtain ⟨r3, h4, h⟩ := bind_out h
    rcases ite_out h with ⟨h5, h⟩ | ⟨h5, h⟩
    · injection h with h; subst h; exact rf Tryz.func109 rfl none [.dec true, .callv (.v (.string r3))] (by kernel_rfl) (pc (h2) <| pc (k_palingref03_digits h4) <| pc (of_decide_eq_true h5) <| pn)
    · cases h
  · obtain ⟨r6, h7, h⟩ := bind_out h
    injection h with h; subst h; exact rf Tryz.func109 rfl none [.dec false, .callv (.v (.string r6))] (by kernel_rfl) (pc (h2) <| pc (k_palingref03_digits h7) <| pn)

theorem k_palingref01_Bytes_L2 {a1 : Int} {l2 : List Int} {v3 : Int} : LoopOK Tryz.prog UU 0 26 (subC (codeOf Tryz.f134) [1, 1, 0, 1, 0, 0, 1, 0, 0, 1, 0, 1, 0, 0]) (fun s : Int × Int => match s with | (v5, v6) => palingref01_Bytes_L2 a1 l2 v3 v5 v6)
    (fun s : Int × Int => (match s with | (v5, v6) => [(0, .v (.int .u64 a1)), (2, .os 0 0), (3, .os 1 l2.length), (4, .j v3), (5, .v (.int .u64 v5)), (6, .j v6)] : Fr DD)) (fun s : Int × Int => (match s with | (v5, v6) => [.n 5, .arr 5 l2 l2.length false] : Heap DD)) (fun r => match r with | v9 => .exit 2) (fun r => match r with | v9 => [(0, .v (.int .u64 a1)), (2, .os 0 0), (3, .os 1 l2.length), (4, .j v3), (5, .v (.int .u64 v9))]) (fun r => match r with | v9 => [.n 5, .arr 5 l2 l2.length false]) := by
  refine loop_sound3 (fun s q h => ?_) (fun r => ?_)
  · obtain ⟨v5, v6⟩ := s; replace h : palingref01_Bytes_L2 a1 l2 v3 v5 v6 = some q := h
    unfold palingref01_Bytes_L2 at h
    rcases ite_out h with ⟨h7, h⟩ | ⟨h7, h⟩
    · injection h with h; subst h; exact rl [0, 2, 3, 4, 5, 6] [0, 1] [.dec true] (by kernel_rfl) (pc (h7) <| pc ((show (256 : Int) ≠ 0 from by decide)) <| pn)
    · injection h with h; subst h; exact rl [0, 2, 3, 4, 5] [0, 1] [.dec false] (by kernel_rfl) (pc (h7) <| pn)
  · exact Ex.noConfusion

theorem k_palingref01_Bytes_L1 {a1 : Int} : LoopOK Tryz.prog UU 0 26 (subC (codeOf Tryz.f134) [1, 1, 0, 1, 0, 0]) (fun s : (List Int) × Int => match s with | (l2, v3) => palingref01_Bytes_L1 a1 l2 v3)
    (fun s : (List Int) × Int => (match s with | (l2, v3) => [(0, .v (.int .u64 a1)), (2, .os 0 0), (3, .os 1 l2.length), (4, .j v3)] : Fr DD)) (fun s : (List Int) × Int => (match s with | (l2, v3) => [.n 5, .arr 5 l2 l2.length false] : Heap DD)) (fun r => match r with | l15 => .exit 0) (fun r => match r with | l15 => [(2, .os 0 0), (3, .os 1 l15.length)]) (fun r => match r with | l15 => [.n 5, .arr 5 l15 l15.length false]) := by
  refine loop_sound3 (fun s q h => ?_) (fun r => ?_)
  · obtain ⟨l2, v3⟩ := s; replace h : palingref01_Bytes_L1 a1 l2 v3 = some q := h
    unfold palingref01_Bytes_L1 at h
    rcases ite_out h with ⟨h4, h⟩ | ⟨h4, h⟩
    · obtain ⟨v9, h10, h⟩ := bind_out h
      rcases ite_out h with ⟨h12, h⟩ | ⟨h12, h⟩
      · injection h with h; subst h; exact rl [0, 2, 3, 4] [0, 1] [.dec true, .sum [0, 2, 3, 4, 5, 6] [0, 1] (.exit 2) [(0, .v (.int .u64 a1)), (2, .os 0 0), (3, .os 1 l2.length), (4, .j v3), (5, .v (.int .u64 v9))] [.n 5, .arr 5 l2 l2.length false], .obj [] (.arr 5 [(wr_u8 (Int.tmod v9 256) : Int)] (List.length [(wr_u8 (Int.tmod v9 256) : Int)]) false), .obj [] (.arr 5 (l2 ++ [(wr_u8 (Int.tmod v9 256) : Int)]) (List.length (l2 ++ [(wr_u8 (Int.tmod v9 256) : Int)])) false)] (by kernel_rfl) (pc (h4) <| pc (k_palingref01_Bytes_L2 _ _ h10) <| pc ((show (256 : Int) ≠ 0 from by decide)) <| pc (bs_ob 5 [(wr_u8 (Int.tmod v9 256) : Int)]) <| pc (app_ob 5 (n := l2.length) (l := l2) (xs := [(wr_u8 (Int.tmod v9 256) : Int)]) h12) <| pc ((rn (List.length [(wr_u8 (Int.tmod v9 256) : Int)]))) <| pn)
      · cases h
    · injection h with h; subst h; exact rl [2, 3] [0, 1] [.dec false] (by kernel_rfl) (pc (h4) <| pn)
  · exact Ex.noConfusion

theorem k_palingref01_Bytes {a1 : Int} {r : ((List Int))} (h : palingref01_Bytes a1 = some r) :
    CallsOK Tryz.prog UU 134 [.v (.int .u64 a1)] [] ((fun r => match r with | l18 => .os 0 l18.length) r) ((fun r => match r with | l18 => [.arr 5 l18 l18.length false]) r) := by
  unfold palingref01_Bytes at h
  obtain ⟨l15, h16, h⟩ := bind_out h
  injection h with h; subst h; exact rf Tryz.func134 rfl (some [1]) [.sum [0, 2, 3, 4] [0, 1] (.exit 0) [(2, .os 0 0), (3, .os 1 l15.length)] [.n 5, .arr 5 l15 l15.length false]] (by kernel_rfl) (pc (k_palingref01_Bytes_L1 _ _ h16) <| pn)

end Go.Eng
