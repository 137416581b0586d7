/- Part of the proof of LinksAdds: printed mirrors of the functions, or their contracts. No conditions. -/
import Derived.Test.YtgnkkbimeghieaaGreatMAK1
set_option linter.unusedVariables false
set_option maxRecDepth 100000
namespace Go.Eng
open Go Go.Proofs
theorem k_palinglaw17_works {r : Bool} (h : palinglaw17_works = some r) :
    CallsOK Tryz.prog UU 5 [] [] (.v (.bool r)) [] := by
  have hr : some true = some r := (by kernel_rfl : palinglaw17_works = some true).symm.trans h
  unfold palinglaw17_works at h
  obtain ⟨r1, h2, h⟩ := bind_out h
  obtain ⟨r3, h4, h⟩ := bind_out h
  obtain ⟨r5, h6, h⟩ := bind_out h
  obtain ⟨r7, h8, h⟩ := bind_out h
  rcases ite_out h with ⟨h9, h⟩ | ⟨h9, h⟩
  · rcases ite_out h with ⟨h10, h⟩ | ⟨h10, h⟩
    · rcases ite_out h with ⟨h11, h⟩ | ⟨h11, h⟩
      · rcases ite_out h with ⟨h12, h⟩ | ⟨h12, h⟩
        · rcases ite_out h with ⟨h13, h⟩ | ⟨h13, h⟩
          · rcases ite_out h with ⟨h14, h⟩ | ⟨h14, h⟩
            · rcases ite_out h with ⟨h15, h⟩ | ⟨h15, h⟩
              · rcases ite_out h with ⟨h16, h⟩ | ⟨h16, h⟩
                · obtain ⟨r17, h18, h⟩ := bind_out h
                  injection h with h; subst h; exact rf Tryz.func5 rfl none [.obj [] (.arr 50 [(⟨0, 0, (⟨#[97]⟩ : ByteArray), 0, 0⟩ : Api_Device), (⟨0, 0, (⟨#[98]⟩ : ByteArray), 0, 0⟩ : Api_Device)] (List.length [(⟨0, 0, (⟨#[97]⟩ : ByteArray), 0, 0⟩ : Api_Device), (⟨0, 0, (⟨#[98]⟩ : ByteArray), 0, 0⟩ : Api_Device)]) false), .obj [] (.arr 3 [(20 : Int)] (List.length [(20 : Int)]) false), .obj [] (.arr 3 [(20 : Int)] (List.length [(20 : Int)]) false), .obj [1, 2] (.arr 52 [(⟨0, 0, 10, 0, 0, (⟨#[112]⟩ : ByteArray), [(20 : Int)]⟩ : Api_Port), (⟨0, 1, 30, 0, 0, (⟨#[112]⟩ : ByteArray), [(20 : Int)]⟩ : Api_Port)] (List.length [(⟨0, 0, 10, 0, 0, (⟨#[112]⟩ : ByteArray), [(20 : Int)]⟩ : Api_Port), (⟨0, 1, 30, 0, 0, (⟨#[112]⟩ : ByteArray), [(20 : Int)]⟩ : Api_Port)]) false), .obj [] (.arr 54 [(⟨0, 0, 1⟩ : Api_Link)] (List.length [(⟨0, 0, 1⟩ : Api_Link)]) false), .obj [] (.arr 56 [(⟨0, 10, 0, (-1), 0, []⟩ : Api_Domain), (⟨0, 20, 0, (-1), 0, []⟩ : Api_Domain), (⟨1, 30, 0, (-1), 0, []⟩ : Api_Domain), (⟨1, 20, 0, (-1), 0, []⟩ : Api_Domain)] (List.length [(⟨0, 10, 0, (-1), 0, []⟩ : Api_Domain), (⟨0, 20, 0, (-1), 0, []⟩ : Api_Domain), (⟨1, 30, 0, (-1), 0, []⟩ : Api_Domain), (⟨1, 20, 0, (-1), 0, []⟩ : Api_Domain)]) false), .callv (.tup [.v (.int .i64 r1.1), .v (.int .i64 r1.2.1), .v (.bool r1.2.2)]), .callv (.tup [.v (.int .i64 r3.1), .v (.int .i64 r3.2.1), .v (.bool r3.2.2)]), .callv (.tup [.v (.int .i64 r5.1), .v (.bool r5.2)]), .callv (.tup [.v (.int .i64 r7.1), .v (.int .i64 r7.2.1), .v (.bool r7.2.2)]), .dec true, .dec true, .dec true, .dec true, .dec true, .dec true, .dec true, .dec true, .callv (.j r17)] (by kernel_rfl) (pc (bs_ob 50 [(⟨0, 0, (⟨#[97]⟩ : ByteArray), 0, 0⟩ : Api_Device), (⟨0, 0, (⟨#[98]⟩ : ByteArray), 0, 0⟩ : Api_Device)]) <| pc (bs_ob 3 [(20 : Int)]) <| pc (bs_ob 3 [(20 : Int)]) <| pc (bs_ob 52 [(⟨0, 0, 10, 0, 0, (⟨#[112]⟩ : ByteArray), [(20 : Int)]⟩ : Api_Port), (⟨0, 1, 30, 0, 0, (⟨#[112]⟩ : ByteArray), [(20 : Int)]⟩ : Api_Port)]) <| pc ((rn (List.length [(20 : Int)]))) <| pc ((rn (List.length [(20 : Int)]))) <| pc (bs_ob 54 [(⟨0, 0, 1⟩ : Api_Link)]) <| pc (bs_ob 56 [(⟨0, 10, 0, (-1), 0, []⟩ : Api_Domain), (⟨0, 20, 0, (-1), 0, []⟩ : Api_Domain), (⟨1, 30, 0, (-1), 0, []⟩ : Api_Domain), (⟨1, 20, 0, (-1), 0, []⟩ : Api_Domain)]) <| pc (k_links_Cross h2) <| pc ((rn (List.length [(⟨0, 0, (⟨#[97]⟩ : ByteArray), 0, 0⟩ : Api_Device), (⟨0, 0, (⟨#[98]⟩ : ByteArray), 0, 0⟩ : Api_Device)]))) <| pc ((rn (List.length [(⟨0, 0, 10, 0, 0, (⟨#[112]⟩ : ByteArray), [(20 : Int)]⟩ : Api_Port), (⟨0, 1, 30, 0, 0, (⟨#[112]⟩ : ByteArray), [(20 : Int)]⟩ : Api_Port)]))) <| pc ((rn (List.length [(⟨0, 0, 1⟩ : Api_Link)]))) <| pc ((rn (List.length [(⟨0, 10, 0, (-1), 0, []⟩ : Api_Domain), (⟨0, 20, 0, (-1), 0, []⟩ : Api_Domain), (⟨1, 30, 0, (-1), 0, []⟩ : Api_Domain), (⟨1, 20, 0, (-1), 0, []⟩ : Api_Domain)]))) <| pc ((rn 0)) <| pc ((rn 0)) <| pc ((rn 0)) <| pc ((rn 0)) <| pc (k_links_Cross h4) <| pc ((rn (List.length [(⟨0, 0, (⟨#[97]⟩ : ByteArray), 0, 0⟩ : Api_Device), (⟨0, 0, (⟨#[98]⟩ : ByteArray), 0, 0⟩ : Api_Device)]))) <| pc ((rn (List.length [(⟨0, 0, 10, 0, 0, (⟨#[112]⟩ : ByteArray), [(20 : Int)]⟩ : Api_Port), (⟨0, 1, 30, 0, 0, (⟨#[112]⟩ : ByteArray), [(20 : Int)]⟩ : Api_Port)]))) <| pc ((rn (List.length [(⟨0, 0, 1⟩ : Api_Link)]))) <| pc ((rn (List.length [(⟨0, 10, 0, (-1), 0, []⟩ : Api_Domain), (⟨0, 20, 0, (-1), 0, []⟩ : Api_Domain), (⟨1, 30, 0, (-1), 0, []⟩ : Api_Domain), (⟨1, 20, 0, (-1), 0, []⟩ : Api_Domain)]))) <| pc ((rn 0)) <| pc ((rn 0)) <| pc ((rn 0)) <| pc ((rn 0)) <| pc (k_links_Domain h6) <| pc ((rn (List.length [(⟨0, 0, (⟨#[97]⟩ : ByteArray), 0, 0⟩ : Api_Device), (⟨0, 0, (⟨#[98]⟩ : ByteArray), 0, 0⟩ : Api_Device)]))) <| pc ((rn (List.length [(⟨0, 0, 10, 0, 0, (⟨#[112]⟩ : ByteArray), [(20 : Int)]⟩ : Api_Port), (⟨0, 1, 30, 0, 0, (⟨#[112]⟩ : ByteArray), [(20 : Int)]⟩ : Api_Port)]))) <| pc ((rn (List.length [(⟨0, 0, 1⟩ : Api_Link)]))) <| pc ((rn (List.length [(⟨0, 10, 0, (-1), 0, []⟩ : Api_Domain), (⟨0, 20, 0, (-1), 0, []⟩ : Api_Domain), (⟨1, 30, 0, (-1), 0, []⟩ : Api_Domain), (⟨1, 20, 0, (-1), 0, []⟩ : Api_Domain)]))) <| pc ((rn 0)) <| pc ((rn 0)) <| pc ((rn 0)) <| pc ((rn 0)) <| pc (k_links_Cross h8) <| pc ((rn (List.length [(⟨0, 0, (⟨#[97]⟩ : ByteArray), 0, 0⟩ : Api_Device), (⟨0, 0, (⟨#[98]⟩ : ByteArray), 0, 0⟩ : Api_Device)]))) <| pc ((rn (List.length [(⟨0, 0, 10, 0, 0, (⟨#[112]⟩ : ByteArray), [(20 : Int)]⟩ : Api_Port), (⟨0, 1, 30, 0, 0, (⟨#[112]⟩ : ByteArray), [(20 : Int)]⟩ : Api_Port)]))) <| pc ((rn (List.length [(⟨0, 0, 1⟩ : Api_Link)]))) <| pc ((rn (List.length [(⟨0, 10, 0, (-1), 0, []⟩ : Api_Domain), (⟨0, 20, 0, (-1), 0, []⟩ : Api_Domain), (⟨1, 30, 0, (-1), 0, []⟩ : Api_Domain), (⟨1, 20, 0, (-1), 0, []⟩ : Api_Domain)]))) <| pc ((rn 0)) <| pc ((rn 0)) <| pc ((rn 0)) <| pc ((rn 0)) <| pc (h9) <| pc (h10) <| pc (h11) <| pc (h12) <| pc (h13) <| pc (h14) <| pc (h15) <| pc (h16) <| pc (k_links_Other h18) <| pc ((rn (List.length [(⟨0, 0, (⟨#[97]⟩ : ByteArray), 0, 0⟩ : Api_Device), (⟨0, 0, (⟨#[98]⟩ : ByteArray), 0, 0⟩ : Api_Device)]))) <| pc ((rn (List.length [(⟨0, 0, 10, 0, 0, (⟨#[112]⟩ : ByteArray), [(20 : Int)]⟩ : Api_Port), (⟨0, 1, 30, 0, 0, (⟨#[112]⟩ : ByteArray), [(20 : Int)]⟩ : Api_Port)]))) <| pc ((rn (List.length [(⟨0, 0, 1⟩ : Api_Link)]))) <| pc ((rn (List.length [(⟨0, 10, 0, (-1), 0, []⟩ : Api_Domain), (⟨0, 20, 0, (-1), 0, []⟩ : Api_Domain), (⟨1, 30, 0, (-1), 0, []⟩ : Api_Domain), (⟨1, 20, 0, (-1), 0, []⟩ : Api_Domain)]))) <| pc ((rn 0)) <| pc ((rn 0)) <| pc ((rn 0)) <| pc ((rn 0)) <| pn)
                · exact absurd (hr.trans h.symm) (by decide)
              · exact absurd (hr.trans h.symm) (by decide)
            · exact absurd (hr.trans h.symm) (by decide)
          · exact absurd (hr.trans h.symm) (by decide)
        · exact absurd (hr.trans h.symm) (by decide)
      · exact absurd (hr.trans h.symm) (by decide)
    · exact absurd (hr.trans h.symm) (by decide)
  · exact absurd (hr.trans h.symm) (by decide)

theorem k_stmt_within {a1 : Int} {a2 : Int} {a3 : Int} {r : Bool} (h : stmt_within a1 a2 a3 = some r) :
    CallsOK Tryz.prog UU 67 [.j a1, .j a2, .j a3] [] (.v (.bool r)) [] := by
  unfold stmt_within at h
  rcases ite_out h with ⟨h4, h⟩ | ⟨h4, h⟩
  · injection h with h; subst h; exact rf Tryz.func67 rfl none [.dec true] (by kernel_rfl) (pc (h4) <| pn)
  · injection h with h; subst h; exact rf Tryz.func67 rfl none [.dec false] (by kernel_rfl) (pc (h4) <| pn)

theorem k_mac_IsHost {a1 : Int} {r : Int × Bool} (h : mac_IsHost a1 = some r) :
    CallsOK Tryz.prog UU 97 [.v (.int .u64 a1)] [] (.tup [.v (.int .u32 r.1), .v (.bool r.2)]) [] := by
  unfold mac_IsHost at h
  rcases ite_out h with ⟨h2, h⟩ | ⟨h2, h⟩
  · injection h with h; subst h; exact rf Tryz.func97 rfl none [.dec true] (by kernel_rfl) (pc ((show (0 : Int) ≤ 32 from by decide)) <| pc (h2) <| pn)
  · injection h with h; subst h; exact rf Tryz.func97 rfl none [.dec false] (by kernel_rfl) (pc ((show (0 : Int) ≤ 32 from by decide)) <| pc (h2) <| pn)

theorem k_mac_Group {a1 : Int} {r : Bool} (h : mac_Group a1 = some r) :
    CallsOK Tryz.prog UU 98 [.v (.int .u64 a1)] [] (.v (.bool r)) [] := by
  unfold mac_Group at h
  injection h with h; subst h; exact rf Tryz.func98 rfl none [] (by kernel_rfl) (pn)

theorem k_stmt_station {a1 : Int} {r : Bool} (h : stmt_station a1 = some r) :
    CallsOK Tryz.prog UU 68 [.v (.int .u64 a1)] [] (.v (.bool r)) [] := by
  unfold stmt_station at h
  obtain ⟨r2, h3, h⟩ := bind_out h
  rcases ite_out h with ⟨h4, h⟩ | ⟨h4, h⟩
  · rcases ite_out h with ⟨h5, h⟩ | ⟨h5, h⟩
    · obtain ⟨r6, h7, h⟩ := bind_out h
      injection h with h; subst h; exact rf Tryz.func68 rfl none [.callv (.tup [.v (.int .u32 r2.1), .v (.bool r2.2)]), .dec true, .dec true, .callv (.v (.bool r6))] (by kernel_rfl) (pc (k_mac_IsHost h3) <| pc (h4) <| pc (h5) <| pc (k_mac_Group h7) <| pn)
    · injection h with h; subst h; exact rf Tryz.func68 rfl none [.callv (.tup [.v (.int .u32 r2.1), .v (.bool r2.2)]), .dec true, .dec false] (by kernel_rfl) (pc (k_mac_IsHost h3) <| pc (h4) <| pc (h5) <| pn)
  · injection h with h; subst h; exact rf Tryz.func68 rfl none [.callv (.tup [.v (.int .u32 r2.1), .v (.bool r2.2)]), .dec false] (by kernel_rfl) (pc (k_mac_IsHost h3) <| pc (h4) <| pn)

theorem k_num_Name_L1 {a1 : ByteArray} : LoopOK Tryz.prog UU 0 50 (subC (codeOf Tryz.f28) [1, 0, 1, 0, 0]) (ρ := Unit ⊕ Unit) (num_Name_L1 a1)
    (fun v2 : Int => ([(0, .v (.string a1)), (2, .v (.bool false)), (7, .j (a1.size : Int)), (8, .j v2)] : Fr DD)) (fun v2 : Int => ([] : Heap DD)) (fun r => match r with | Sum.inl _ => .ret | Sum.inr _ => .exit 0) (fun r => match r with | Sum.inl _ => [(2, .v (.bool false))] | Sum.inr _ => [(0, .v (.string a1)), (2, .v (.bool false))]) (fun r => match r with | Sum.inl _ => [] | Sum.inr _ => []) := by
  refine loop_sound3 (fun s q h => ?_) (fun r => ?_)
  · replace h : num_Name_L1 a1 s = some q := h; revert h; revert s; intro v2 h
    unfold num_Name_L1 at h
    rcases ite_out h with ⟨h3, h⟩ | ⟨h3, h⟩
    · rcases ite_out h with ⟨h4, h⟩ | ⟨h4, h⟩
      · rcases ite_out h with ⟨h5, h⟩ | ⟨h5, h⟩
        · rcases ite_out h with ⟨h6, h⟩ | ⟨h6, h⟩
          · rcases ite_out h with ⟨h7, h⟩ | ⟨h7, h⟩
            · rcases ite_out h with ⟨h8, h⟩ | ⟨h8, h⟩
              · injection h with h; subst h; exact rl [2] [] [.dec true, .dec true, .dec true, .dec true, .dec true] (by kernel_rfl) (pc (h3) <| pc (of_decide_eq_true h4) <| pc (h5) <| pc (of_decide_eq_true h4) <| pc (of_decide_eq_true h4) <| pc (h6) <| pc (of_decide_eq_true h4) <| pc (h7) <| pc (h8) <| pn)
              · rcases ite_out h with ⟨h9, h⟩ | ⟨h9, h⟩
                · injection h with h; subst h; exact rl [2] [] [.dec true, .dec true, .dec true, .dec true, .dec false, .dec true] (by kernel_rfl) (pc (h3) <| pc (of_decide_eq_true h4) <| pc (h5) <| pc (of_decide_eq_true h4) <| pc (of_decide_eq_true h4) <| pc (h6) <| pc (of_decide_eq_true h4) <| pc (h7) <| pc (h8) <| pc (h9) <| pn)
                · injection h with h; subst h; exact rl [0, 2, 7, 8] [] [.dec true, .dec true, .dec true, .dec true, .dec false, .dec false] (by kernel_rfl) (pc (h3) <| pc (of_decide_eq_true h4) <| pc (h5) <| pc (of_decide_eq_true h4) <| pc (of_decide_eq_true h4) <| pc (h6) <| pc (of_decide_eq_true h4) <| pc (h7) <| pc (h8) <| pc (h9) <| pn)
            · injection h with h; subst h; exact rl [0, 2, 7, 8] [] [.dec true, .dec true, .dec true, .dec false] (by kernel_rfl) (pc (h3) <| pc (of_decide_eq_true h4) <| pc (h5) <| pc (of_decide_eq_true h4) <| pc (of_decide_eq_true h4) <| pc (h6) <| pc (of_decide_eq_true h4) <| pc (h7) <| pn)
          · rcases ite_out h with ⟨h10, h⟩ | ⟨h10, h⟩
            · injection h with h; subst h; exact rl [2] [] [.dec true, .dec true, .dec false, .dec true, .dec true] (by kernel_rfl) (pc (h3) <| pc (of_decide_eq_true h4) <| pc (h5) <| pc (of_decide_eq_true h4) <| pc (of_decide_eq_true h4) <| pc (h6) <| pc (h10) <| pc ((rfl : (!false) = true)) <| pn)
            · injection h with h; subst h; exact rl [0, 2, 7, 8] [] [.dec true, .dec true, .dec false, .dec false] (by kernel_rfl) (pc (h3) <| pc (of_decide_eq_true h4) <| pc (h5) <| pc (of_decide_eq_true h4) <| pc (of_decide_eq_true h4) <| pc (h6) <| pc (h10) <| pn)
        · rcases ite_out h with ⟨h11, h⟩ | ⟨h11, h⟩
          · rcases ite_out h with ⟨h12, h⟩ | ⟨h12, h⟩
            · injection h with h; subst h; exact rl [2] [] [.dec true, .dec false, .dec true, .dec true, .dec true] (by kernel_rfl) (pc (h3) <| pc (of_decide_eq_true h4) <| pc (h5) <| pc (of_decide_eq_true h4) <| pc (h11) <| pc (of_decide_eq_true h4) <| pc ((rfl : (!false) = true)) <| pc (h12) <| pn)
            · rcases ite_out h with ⟨h13, h⟩ | ⟨h13, h⟩
              · injection h with h; subst h; exact rl [2] [] [.dec true, .dec false, .dec true, .dec true, .dec false, .dec true] (by kernel_rfl) (pc (h3) <| pc (of_decide_eq_true h4) <| pc (h5) <| pc (of_decide_eq_true h4) <| pc (h11) <| pc (of_decide_eq_true h4) <| pc ((rfl : (!false) = true)) <| pc (h12) <| pc (h13) <| pn)
              · injection h with h; subst h; exact rl [0, 2, 7, 8] [] [.dec true, .dec false, .dec true, .dec true, .dec false, .dec false] (by kernel_rfl) (pc (h3) <| pc (of_decide_eq_true h4) <| pc (h5) <| pc (of_decide_eq_true h4) <| pc (h11) <| pc (of_decide_eq_true h4) <| pc ((rfl : (!false) = true)) <| pc (h12) <| pc (h13) <| pn)
          · injection h with h; subst h; exact rl [2] [] [.dec true, .dec false, .dec false, .dec true, .dec true] (by kernel_rfl) (pc (h3) <| pc (of_decide_eq_true h4) <| pc (h5) <| pc (of_decide_eq_true h4) <| pc (h11) <| pc ((rfl : (!false) = true)) <| pc ((rfl : (!false) = true)) <| pn)
      · cases h
    · injection h with h; subst h; exact rl [0, 2] [] [.dec false] (by kernel_rfl) (pc (h3) <| pn)
  · rcases r with _ | _ <;> exact Ex.noConfusion

theorem k_num_Name {a1 : ByteArray} {r : Bool} (h : num_Name a1 = some r) :
    CallsOK Tryz.prog UU 28 [.v (.string a1)] [] (.v (.bool r)) [] := by
  unfold num_Name at h
  obtain ⟨r15, h14, h⟩ := bind_out h
  rcases r15 with _ | _
  · injection h with h; subst h; exact rf Tryz.func28 rfl none [.sum [0, 2, 7, 8] [] .ret [(2, .v (.bool false))] []] (by kernel_rfl) (pc (k_num_Name_L1 _ _ h14) <| pn)
  · rcases ite_out h with ⟨h16, h⟩ | ⟨h16, h⟩
    · injection h with h; subst h; exact rf Tryz.func28 rfl none [.sum [0, 2, 7, 8] [] (.exit 0) [(0, .v (.string a1)), (2, .v (.bool false))] [], .dec true] (by kernel_rfl) (pc (k_num_Name_L1 _ _ h14) <| pc (h16) <| pn)
    · injection h with h; subst h; exact rf Tryz.func28 rfl none [.sum [0, 2, 7, 8] [] (.exit 0) [(0, .v (.string a1)), (2, .v (.bool false))] [], .dec false] (by kernel_rfl) (pc (k_num_Name_L1 _ _ h14) <| pc (h16) <| pn)

theorem k_stmt_list {a1 : List Int} {a2 : Int} {r : Bool} (h : stmt_list a1 a2 = some r) :
    CallsOK Tryz.prog UU 69 [.sl 3 a1, .j a2] [] (.v (.bool r)) [] := by
  unfold stmt_list at h
  rcases ite_out h with ⟨h3, h⟩ | ⟨h3, h⟩
  · injection h with h; subst h; exact rf Tryz.func69 rfl none [.dec true] (by kernel_rfl) (pc (h3) <| pn)
  · obtain ⟨r4, h5, h⟩ := bind_out h
    injection h with h; subst h; exact rf Tryz.func69 rfl none [.dec false, .callv (.v (.bool r4))] (by kernel_rfl) (pc (h3) <| pc (k_num_Rising h5) <| pn)

theorem k_stmt_members {a1 : Api_Line} {r : Bool} (h : stmt_members a1 = some r) :
    CallsOK Tryz.prog UU 70 [.agg (c37 a1)] [] (.v (.bool r)) [] := by
  unfold stmt_members at h
  rcases ite_out h with ⟨h2, h⟩ | ⟨h2, h⟩
  · obtain ⟨r3, h4, h⟩ := bind_out h
    injection h with h; subst h; exact rf Tryz.func70 rfl none [.dec true, .callv (.v (.bool r3))] (by kernel_rfl) (pc (h2) <| pc (k_slices_Contains_int h4) <| pn)
  · rcases ite_out h with ⟨h5, h⟩ | ⟨h5, h⟩
    · obtain ⟨r6, h7, h⟩ := bind_out h
      injection h with h; subst h; exact rf Tryz.func70 rfl none [.dec false, .dec true, .callv (.v (.bool r6))] (by kernel_rfl) (pc (h2) <| pc (h5) <| pc (k_slices_Contains_int h7) <| pn)
    · injection h with h; subst h; exact rf Tryz.func70 rfl none [.dec false, .dec false] (by kernel_rfl) (pc (h2) <| pc (h5) <| pn)

theorem k_stmt_addrs_L1 {a1 : List Int} : LoopOK Tryz.prog UU 0 36 (subC (codeOf Tryz.f71) [1, 0, 1, 0, 0]) (ρ := Unit ⊕ Unit) (stmt_addrs_L1 a1)
    (fun v2 : Int => ([(0, .sl 33 a1), (2, .v (.bool false)), (5, .sl 33 a1), (6, .j (a1.length : Int)), (7, .j v2)] : Fr DD)) (fun v2 : Int => ([] : Heap DD)) (fun r => match r with | Sum.inl _ => .ret | Sum.inr _ => .exit 0) (fun r => match r with | Sum.inl _ => [(2, .v (.bool false))] | Sum.inr _ => [(0, .sl 33 a1), (2, .v (.bool false))]) (fun r => match r with | Sum.inl _ => [] | Sum.inr _ => []) := by
  refine loop_sound3 (fun s q h => ?_) (fun r => ?_)
  · replace h : stmt_addrs_L1 a1 s = some q := h; revert h; revert s; intro v2 h
    unfold stmt_addrs_L1 at h
    rcases ite_out h with ⟨h3, h⟩ | ⟨h3, h⟩
    · obtain ⟨x4, h5, h⟩ := bind_out h
      rcases ite_out h with ⟨h6, h⟩ | ⟨h6, h⟩
      · injection h with h; subst h; exact rl [2] [] [.dec true, .row (c33 x4), .dec true] (by kernel_rfl) (pc (h3) <| pc (ob33 h5) <| pc (h6) <| pn)
      · rcases ite_out h with ⟨h7, h⟩ | ⟨h7, h⟩
        · obtain ⟨x8, h9, h⟩ := bind_out h
          rcases ite_out h with ⟨h10, h⟩ | ⟨h10, h⟩
          · injection h with h; subst h; exact rl [2] [] [.dec true, .row (c33 x4), .dec false, .dec true, .row (c33 x8), .dec true] (by kernel_rfl) (pc (h3) <| pc (ob33 h5) <| pc (h6) <| pc (h7) <| pc (ob33 h9) <| pc (h10) <| pn)
          · injection h with h; subst h; exact rl [0, 2, 5, 6, 7] [] [.dec true, .row (c33 x4), .dec false, .dec true, .row (c33 x8), .dec false] (by kernel_rfl) (pc (h3) <| pc (ob33 h5) <| pc (h6) <| pc (h7) <| pc (ob33 h9) <| pc (h10) <| pn)
        · injection h with h; subst h; exact rl [0, 2, 5, 6, 7] [] [.dec true, .row (c33 x4), .dec false, .dec false] (by kernel_rfl) (pc (h3) <| pc (ob33 h5) <| pc (h6) <| pc (h7) <| pn)
    · injection h with h; subst h; exact rl [0, 2] [] [.dec false] (by kernel_rfl) (pc (h3) <| pn)
  · rcases r with _ | _ <;> exact Ex.noConfusion

theorem k_stmt_addrs {a1 : List Int} {r : Bool} (h : stmt_addrs a1 = some r) :
    CallsOK Tryz.prog UU 71 [.sl 33 a1] [] (.v (.bool r)) [] := by
  unfold stmt_addrs at h
  obtain ⟨r12, h11, h⟩ := bind_out h
  rcases r12 with _ | _
  · injection h with h; subst h; exact rf Tryz.func71 rfl none [.sum [0, 2, 5, 6, 7] [] .ret [(2, .v (.bool false))] []] (by kernel_rfl) (pc (k_stmt_addrs_L1 _ _ h11) <| pn)
  · rcases ite_out h with ⟨h13, h⟩ | ⟨h13, h⟩
    · injection h with h; subst h; exact rf Tryz.func71 rfl none [.sum [0, 2, 5, 6, 7] [] (.exit 0) [(0, .sl 33 a1), (2, .v (.bool false))] [], .dec true] (by kernel_rfl) (pc (k_stmt_addrs_L1 _ _ h11) <| pc (h13) <| pn)
    · injection h with h; subst h; exact rf Tryz.func71 rfl none [.sum [0, 2, 5, 6, 7] [] (.exit 0) [(0, .sl 33 a1), (2, .v (.bool false))] [], .dec false] (by kernel_rfl) (pc (k_stmt_addrs_L1 _ _ h11) <| pc (h13) <| pn)

theorem k_addr_Right {a1 : Api_Prefix} {r : Bool} (h : addr_Right a1 = some r) :
    CallsOK Tryz.prog UU 121 [.agg (c99 a1)] [] (.v (.bool r)) [] := by
  unfold addr_Right at h
  rcases ite_out h with ⟨h2, h⟩ | ⟨h2, h⟩
  · injection h with h; subst h; exact rf Tryz.func121 rfl none [.dec true] (by kernel_rfl) (pc (h2) <| pn)
  · injection h with h; subst h; exact rf Tryz.func121 rfl none [.dec false] (by kernel_rfl) (pc (h2) <| pn)

theorem k_addr_rest {a1 : Api_Prefix} {r : Int} (h : addr_rest a1 = some r) :
    CallsOK Tryz.prog UU 122 [.agg (c99 a1)] [] (.v (.int .u32 r)) [] := by
  unfold addr_rest at h
  rcases ite_out h with ⟨h2, h⟩ | ⟨h2, h⟩
  · injection h with h; subst h; exact rf Tryz.func122 rfl none [] (by kernel_rfl) (pc (of_decide_eq_true h2) <| pn)
  · cases h

theorem k_addr_First {a1 : Api_Prefix} {r : Int} (h : addr_First a1 = some r) :
    CallsOK Tryz.prog UU 99 [.agg (c99 a1)] [] (.v (.int .u32 r)) [] := by
  unfold addr_First at h
  obtain ⟨r2, h3, h⟩ := bind_out h
  rcases ite_out h with ⟨h4, h⟩ | ⟨h4, h⟩
  · injection h with h; subst h; exact rf Tryz.func99 rfl none [.callv (.v (.bool r2)), .dec true] (by kernel_rfl) (pc (k_addr_Right h3) <| pc (h4) <| pn)
  · obtain ⟨r5, h6, h⟩ := bind_out h
    injection h with h; subst h; exact rf Tryz.func99 rfl none [.callv (.v (.bool r2)), .dec false, .callv (.v (.int .u32 r5))] (by kernel_rfl) (pc (k_addr_Right h3) <| pc (h4) <| pc (k_addr_rest h6) <| pn)

theorem k_addr_Last {a1 : Api_Prefix} {r : Int} (h : addr_Last a1 = some r) :
    CallsOK Tryz.prog UU 100 [.agg (c99 a1)] [] (.v (.int .u32 r)) [] := by
  unfold addr_Last at h
  obtain ⟨r2, h3, h⟩ := bind_out h
  rcases ite_out h with ⟨h4, h⟩ | ⟨h4, h⟩
  · injection h with h; subst h; exact rf Tryz.func100 rfl none [.callv (.v (.bool r2)), .dec true] (by kernel_rfl) (pc (k_addr_Right h3) <| pc (h4) <| pn)
  · obtain ⟨r5, h6, h⟩ := bind_out h
    injection h with h; subst h; exact rf Tryz.func100 rfl none [.callv (.v (.bool r2)), .dec false, .callv (.v (.int .u32 r5))] (by kernel_rfl) (pc (k_addr_Right h3) <| pc (h4) <| pc (k_addr_rest h6) <| pn)

theorem k_stmt_subnet {a1 : Api_Prefix} {r : Bool} (h : stmt_subnet a1 = some r) :
    CallsOK Tryz.prog UU 72 [.agg (c99 a1)] [] (.v (.bool r)) [] := by
  unfold stmt_subnet at h
  rcases ite_out h with ⟨h2, h⟩ | ⟨h2, h⟩
  · rcases ite_out h with ⟨h3, h⟩ | ⟨h3, h⟩
    · obtain ⟨r4, h5, h⟩ := bind_out h
      rcases ite_out h with ⟨h6, h⟩ | ⟨h6, h⟩
      · obtain ⟨r7, h8, h⟩ := bind_out h
        injection h with h; subst h; exact rf Tryz.func72 rfl none [.dec true, .dec true, .callv (.v (.int .u32 r4)), .dec true, .callv (.v (.int .u32 r7))] (by kernel_rfl) (pc (h2) <| pc (h3) <| pc (k_addr_First h5) <| pc (h6) <| pc (k_addr_Last h8) <| pn)
      · injection h with h; subst h; exact rf Tryz.func72 rfl none [.dec true, .dec true, .callv (.v (.int .u32 r4)), .dec false] (by kernel_rfl) (pc (h2) <| pc (h3) <| pc (k_addr_First h5) <| pc (h6) <| pn)
    · injection h with h; subst h; exact rf Tryz.func72 rfl none [.dec true, .dec false] (by kernel_rfl) (pc (h2) <| pc (h3) <| pn)
  · injection h with h; subst h; exact rf Tryz.func72 rfl none [.dec false] (by kernel_rfl) (pc (h2) <| pn)

end Go.Eng
