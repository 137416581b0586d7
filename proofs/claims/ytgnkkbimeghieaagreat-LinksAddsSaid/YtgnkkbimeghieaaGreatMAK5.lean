/- Part of the proof of LinksAdds: printed mirrors of the functions, or their contracts. No conditions. -/
import Derived.Test.YtgnkkbimeghieaaGreatMAK4
set_option linter.unusedVariables false
set_option maxRecDepth 100000
namespace Go.Eng
open Go Go.Proofs
theorem k_palingref01_Text_J2 {l4 : List Int} {v5 : ByteArray} {v6 : Int} {r : ByteArray} (h : palingref01_Text_J2 l4 v5 v6 = some r) :
    ExecOK Tryz.prog UU 0 47 (subC (codeOf Tryz.f110) [1, 1, 1, 1, 0, 1, 0, 0, 1, 0, 0, 0]) [(2, .e), (3, .v (.string (⟨#[48, 49, 50, 51, 52, 53, 54, 55, 56, 57, 97, 98, 99, 100, 101, 102]⟩ : ByteArray))), (4, .os 0 l4.length), (5, .v (.string v5)), (6, .j v6)] [.arr 5 l4 l4.length false] ((fun r => match r with | v11 => .nor) r) ((fun r => match r with | v11 => [(2, .e), (3, .v (.string (⟨#[48, 49, 50, 51, 52, 53, 54, 55, 56, 57, 97, 98, 99, 100, 101, 102]⟩ : ByteArray))), (4, .os 0 l4.length), (5, .v (.string v11)), (6, .j v6)]) r) ((fun r => match r with | v11 => [.arr 5 l4 l4.length false]) r) := by
  unfold palingref01_Text_J2 at h
  rcases ite_out h with ⟨h8, h⟩ | ⟨h8, h⟩
  · rcases ite_out h with ⟨h9, h⟩ | ⟨h9, h⟩
    · injection h with h; subst h; exact rl [2, 3, 4, 5, 6] [0] [.dec true] (by kernel_rfl) (pc (h8) <| pc (of_decide_eq_true h9) <| pn)
    · cases h
  · injection h with h; subst h; exact rl [2, 3, 4, 5, 6] [0] [.dec false] (by kernel_rfl) (pc (h8) <| pn)

theorem k_palingref01_Text_L1 {l4 : List Int} : LoopOK Tryz.prog UU 0 47 (subC (codeOf Tryz.f110) [1, 1, 1, 1, 0, 1, 0, 0]) (fun s : ByteArray × Int => match s with | (v5, v6) => palingref01_Text_L1 l4 v5 v6)
    (fun s : ByteArray × Int => (match s with | (v5, v6) => [(2, .e), (3, .v (.string (⟨#[48, 49, 50, 51, 52, 53, 54, 55, 56, 57, 97, 98, 99, 100, 101, 102]⟩ : ByteArray))), (4, .os 0 l4.length), (5, .v (.string v5)), (6, .j v6)] : Fr DD)) (fun s : ByteArray × Int => (match s with | (v5, v6) => [.arr 5 l4 l4.length false] : Heap DD)) (fun r => match r with | v28 => .exit 0) (fun r => match r with | v28 => [(2, .e), (5, .v (.string v28))]) (fun r => match r with | v28 => []) := by
  refine loop_sound3 (fun s q h => ?_) (fun r => ?_)
  · obtain ⟨v5, v6⟩ := s; replace h : palingref01_Text_L1 l4 v5 v6 = some q := h
    unfold palingref01_Text_L1 at h
    rcases ite_out h with ⟨h7, h⟩ | ⟨h7, h⟩
    · obtain ⟨v11, h12, h⟩ := bind_out h
      rcases ite_out h with ⟨h14, h⟩ | ⟨h14, h⟩
      · obtain ⟨x15, h16, h⟩ := bind_out h
        obtain ⟨x17, h18, h⟩ := bind_out h
        rcases ite_out h with ⟨h19, h⟩ | ⟨h19, h⟩
        · rcases ite_out h with ⟨h20, h⟩ | ⟨h20, h⟩
          · obtain ⟨x21, h22, h⟩ := bind_out h
            obtain ⟨x23, h24, h⟩ := bind_out h
            rcases ite_out h with ⟨h25, h⟩ | ⟨h25, h⟩
            · rcases ite_out h with ⟨h26, h⟩ | ⟨h26, h⟩
              · injection h with h; subst h; exact rl [2, 3, 4, 5, 6] [0] [.dec true, .skp, .cut [2, 3, 4, 5, 6] [0] .nor [(2, .e), (3, .v (.string (⟨#[48, 49, 50, 51, 52, 53, 54, 55, 56, 57, 97, 98, 99, 100, 101, 102]⟩ : ByteArray))), (4, .os 0 l4.length), (5, .v (.string v11)), (6, .j v6)] [.arr 5 l4 l4.length false], .row (c5 x15), .row (c5 x17), .row (c5 x21), .row (c5 x23)] (by kernel_rfl) (pc (h7) <| pc (k_palingref01_Text_J2 h12) <| pc (an l4.length (lin_ob h14)) <| pc (an l4.length (obn5 h16)) <| pc ((show (16 : Int) ≠ 0 from by decide)) <| pc (an l4.length (lin_ob h14)) <| pc (an l4.length (obn5 h18)) <| pc ((show (16 : Int) ≠ 0 from by decide)) <| pc (sl_ob h19) <| pc (of_decide_eq_true h20) <| pc (an l4.length (lin_ob h14)) <| pc (an l4.length (obn5 h22)) <| pc ((show (16 : Int) ≠ 0 from by decide)) <| pc (an l4.length (lin_ob h14)) <| pc (an l4.length (obn5 h24)) <| pc ((show (16 : Int) ≠ 0 from by decide)) <| pc (sl_ob h25) <| pc (of_decide_eq_true h26) <| pn)
              · cases h
            · cases h
          · cases h
        · cases h
      · cases h
    · injection h with h; subst h; exact rl [2, 5] [] [.dec false] (by kernel_rfl) (pc (h7) <| pn)
  · exact Ex.noConfusion

theorem k_palingref01_Text {a1 : Int} {r : ByteArray} (h : palingref01_Text a1 = some r) :
    CallsOK Tryz.prog UU 110 [.v (.int .u64 a1)] [] (.v (.string r)) [] := by
  unfold palingref01_Text at h
  obtain ⟨l4, h3, h⟩ := bind_out h
  obtain ⟨v28, h29, h⟩ := bind_out h
  injection h with h; subst h; exact rf Tryz.func110 rfl none [.callo (.os 0 l4.length) [.arr 5 l4 l4.length false], .sum [2, 3, 4, 5, 6] [0] (.exit 0) [(2, .e), (5, .v (.string v28))] []] (by kernel_rfl) (pc (k_palingref01_Bytes h3) <| pc (im5 l4) <| pc (k_palingref01_Text_L1 _ _ h29) <| pn)

theorem k_palingref03_ListText_L1 {a1 : List Int} : LoopOK Tryz.prog UU 0 23 (subC (codeOf Tryz.f135) [1, 1, 0, 1, 0, 0]) (fun s : ByteArray × Int => match s with | (v2, v3) => palingref03_ListText_L1 a1 v2 v3)
    (fun s : ByteArray × Int => (match s with | (v2, v3) => [(0, .sl 3 a1), (2, .e), (3, .v (.string v2)), (4, .j v3)] : Fr DD)) (fun s : ByteArray × Int => (match s with | (v2, v3) => [] : Heap DD)) (fun r => match r with | v18 => .exit 0) (fun r => match r with | v18 => [(2, .e), (3, .v (.string v18))]) (fun r => match r with | v18 => []) := by
  refine loop_sound3 (fun s q h => ?_) (fun r => ?_)
  · obtain ⟨v2, v3⟩ := s; replace h : palingref03_ListText_L1 a1 v2 v3 = some q := h
    unfold palingref03_ListText_L1 at h
    rcases ite_out h with ⟨h4, h⟩ | ⟨h4, h⟩
    · rcases ite_out h with ⟨h5, h⟩ | ⟨h5, h⟩
      · rcases ite_out h with ⟨h6, h⟩ | ⟨h6, h⟩
        · obtain ⟨x7, h8, h⟩ := bind_out h
          obtain ⟨r9, h10, h⟩ := bind_out h
          rcases ite_out h with ⟨h11, h⟩ | ⟨h11, h⟩
          · injection h with h; subst h; exact rl [0, 2, 3, 4] [] [.dec true, .dec true, .row (c3 x7), .callv (.v (.string r9))] (by kernel_rfl) (pc (h4) <| pc (h5) <| pc (of_decide_eq_true h6) <| pc (ob3 h8) <| pc (k_palingref03_Text h10) <| pc (of_decide_eq_true h11) <| pn)
          · cases h
        · cases h
      · obtain ⟨x12, h13, h⟩ := bind_out h
        obtain ⟨r14, h15, h⟩ := bind_out h
        rcases ite_out h with ⟨h16, h⟩ | ⟨h16, h⟩
        · injection h with h; subst h; exact rl [0, 2, 3, 4] [] [.dec true, .dec false, .row (c3 x12), .callv (.v (.string r14))] (by kernel_rfl) (pc (h4) <| pc (h5) <| pc (ob3 h13) <| pc (k_palingref03_Text h15) <| pc (of_decide_eq_true h16) <| pn)
        · cases h
    · injection h with h; subst h; exact rl [2, 3] [] [.dec false] (by kernel_rfl) (pc (h4) <| pn)
  · exact Ex.noConfusion

theorem k_palingref03_ListText {a1 : List Int} {r : ByteArray} (h : palingref03_ListText a1 = some r) :
    CallsOK Tryz.prog UU 135 [.sl 3 a1] [] (.v (.string r)) [] := by
  unfold palingref03_ListText at h
  obtain ⟨v18, h19, h⟩ := bind_out h
  injection h with h; subst h; exact rf Tryz.func135 rfl none [.sum [0, 2, 3, 4] [] (.exit 0) [(2, .e), (3, .v (.string v18))] []] (by kernel_rfl) (pc (k_palingref03_ListText_L1 _ _ h19) <| pn)

theorem k_palingref11_spell {a1 : List Int} {r : ByteArray} (h : palingref11_spell a1 = some r) :
    CallsOK Tryz.prog UU 111 [.sl 3 a1] [] (.v (.string r)) [] := by
  unfold palingref11_spell at h
  rcases ite_out h with ⟨h2, h⟩ | ⟨h2, h⟩
  · injection h with h; subst h; exact rf Tryz.func111 rfl none [.dec true] (by kernel_rfl) (pc (h2) <| pn)
  · obtain ⟨r3, h4, h⟩ := bind_out h
    injection h with h; subst h; exact rf Tryz.func111 rfl none [.dec false, .callv (.v (.string r3))] (by kernel_rfl) (pc (h2) <| pc (k_palingref03_ListText h4) <| pn)

theorem k_palingref02_number_L1 : LoopOK Tryz.prog UU 0 23 (subC (codeOf Tryz.f136) [1, 1, 0, 0, 0]) (fun s : Int × ByteArray => match s with | (v2, v3) => palingref02_number_L1 v2 v3)
    (fun s : Int × ByteArray => (match s with | (v2, v3) => [(0, .j v2), (2, .e), (3, .v (.string v3))] : Fr DD)) (fun s : Int × ByteArray => (match s with | (v2, v3) => [] : Heap DD)) (fun r => match r with | (v8, v9) => .exit 0) (fun r => match r with | (v8, v9) => [(0, .j v8), (2, .e), (3, .v (.string v9))]) (fun r => match r with | (v8, v9) => []) := by
  refine loop_sound3 (fun s q h => ?_) (fun r => ?_)
  · obtain ⟨v2, v3⟩ := s; replace h : palingref02_number_L1 v2 v3 = some q := h
    unfold palingref02_number_L1 at h
    rcases ite_out h with ⟨h4, h⟩ | ⟨h4, h⟩
    · rcases ite_out h with ⟨h5, h⟩ | ⟨h5, h⟩
      · injection h with h; subst h; exact rl [0, 2, 3] [] [.dec true, .obj [] (.arr 5 [(wr_u8 (wr_i64 (48 + (Int.tmod v2 10))) : Int)] (List.length [(wr_u8 (wr_i64 (48 + (Int.tmod v2 10))) : Int)]) false), .callv (.v (.string (bstr [(wr_u8 (wr_i64 (48 + (Int.tmod v2 10))) : Int)])))] (by kernel_rfl) (pc (h4) <| pc ((show (10 : Int) ≠ 0 from by decide)) <| pc (bs_ob 5 [(wr_u8 (wr_i64 (48 + (Int.tmod v2 10))) : Int)]) <| pc (cvb5 [(wr_u8 (wr_i64 (48 + (Int.tmod v2 10))) : Int)]) <| pc ((rn (List.length [(wr_u8 (wr_i64 (48 + (Int.tmod v2 10))) : Int)]))) <| pc (of_decide_eq_true h5) <| pc ((show (10 : Int) ≠ 0 from by decide)) <| pn)
      · cases h
    · injection h with h; subst h; exact rl [0, 2, 3] [] [.dec false] (by kernel_rfl) (pc (h4) <| pn)
  · exact Ex.noConfusion

theorem k_palingref02_number {a1 : Int} {r : ByteArray} (h : palingref02_number a1 = some r) :
    CallsOK Tryz.prog UU 136 [.j a1] [] (.v (.string r)) [] := by
  unfold palingref02_number at h
  obtain ⟨r11, h10, h⟩ := bind_out h
  obtain ⟨v8, v9⟩ := r11
  rcases ite_out h with ⟨h12, h⟩ | ⟨h12, h⟩
  · injection h with h; subst h; exact rf Tryz.func136 rfl none [.sum [0, 2, 3] [] (.exit 0) [(0, .j v8), (2, .e), (3, .v (.string v9))] [], .obj [] (.arr 5 [(wr_u8 (wr_i64 (48 + v8)) : Int)] (List.length [(wr_u8 (wr_i64 (48 + v8)) : Int)]) false), .callv (.v (.string (bstr [(wr_u8 (wr_i64 (48 + v8)) : Int)])))] (by kernel_rfl) (pc (k_palingref02_number_L1 _ _ h10) <| pc (bs_ob 5 [(wr_u8 (wr_i64 (48 + v8)) : Int)]) <| pc (cvb5 [(wr_u8 (wr_i64 (48 + v8)) : Int)]) <| pc ((rn (List.length [(wr_u8 (wr_i64 (48 + v8)) : Int)]))) <| pc (of_decide_eq_true h12) <| pn)
  · cases h

theorem k_palingref02_Text {a1 : Int} {r : ByteArray} (h : palingref02_Text a1 = some r) :
    CallsOK Tryz.prog UU 112 [.v (.int .u32 a1)] [] (.v (.string r)) [] := by
  unfold palingref02_Text at h
  obtain ⟨r2, h3, h⟩ := bind_out h
  rcases ite_out h with ⟨h4, h⟩ | ⟨h4, h⟩
  · obtain ⟨r5, h6, h⟩ := bind_out h
    rcases ite_out h with ⟨h7, h⟩ | ⟨h7, h⟩
    · rcases ite_out h with ⟨h8, h⟩ | ⟨h8, h⟩
      · obtain ⟨r9, h10, h⟩ := bind_out h
        rcases ite_out h with ⟨h11, h⟩ | ⟨h11, h⟩
        · rcases ite_out h with ⟨h12, h⟩ | ⟨h12, h⟩
          · obtain ⟨r13, h14, h⟩ := bind_out h
            rcases ite_out h with ⟨h15, h⟩ | ⟨h15, h⟩
            · injection h with h; subst h; exact rf Tryz.func112 rfl none [.callv (.v (.string r2)), .callv (.v (.string r5)), .callv (.v (.string r9)), .callv (.v (.string r13))] (by kernel_rfl) (pc ((show (16777216 : Int) ≠ 0 from by decide)) <| pc (k_palingref02_number h3) <| pc (of_decide_eq_true h4) <| pc ((show (65536 : Int) ≠ 0 from by decide)) <| pc ((show (256 : Int) ≠ 0 from by decide)) <| pc (k_palingref02_number h6) <| pc (of_decide_eq_true h7) <| pc (of_decide_eq_true h8) <| pc ((show (256 : Int) ≠ 0 from by decide)) <| pc ((show (256 : Int) ≠ 0 from by decide)) <| pc (k_palingref02_number h10) <| pc (of_decide_eq_true h11) <| pc (of_decide_eq_true h12) <| pc ((show (256 : Int) ≠ 0 from by decide)) <| pc (k_palingref02_number h14) <| pc (of_decide_eq_true h15) <| pn)
            · cases h
          · cases h
        · cases h
      · cases h
    · cases h
  · cases h

theorem k_palingref03_AddrsText_L1 {a1 : List Int} : LoopOK Tryz.prog UU 0 23 (subC (codeOf Tryz.f113) [1, 1, 0, 1, 0, 0]) (fun s : ByteArray × Int => match s with | (v2, v3) => palingref03_AddrsText_L1 a1 v2 v3)
    (fun s : ByteArray × Int => (match s with | (v2, v3) => [(0, .sl 33 a1), (2, .e), (3, .v (.string v2)), (4, .j v3)] : Fr DD)) (fun s : ByteArray × Int => (match s with | (v2, v3) => [] : Heap DD)) (fun r => match r with | v18 => .exit 0) (fun r => match r with | v18 => [(2, .e), (3, .v (.string v18))]) (fun r => match r with | v18 => []) := by
  refine loop_sound3 (fun s q h => ?_) (fun r => ?_)
  · obtain ⟨v2, v3⟩ := s; replace h : palingref03_AddrsText_L1 a1 v2 v3 = some q := h
    unfold palingref03_AddrsText_L1 at h
    rcases ite_out h with ⟨h4, h⟩ | ⟨h4, h⟩
    · rcases ite_out h with ⟨h5, h⟩ | ⟨h5, h⟩
      · rcases ite_out h with ⟨h6, h⟩ | ⟨h6, h⟩
        · obtain ⟨x7, h8, h⟩ := bind_out h
          obtain ⟨r9, h10, h⟩ := bind_out h
          rcases ite_out h with ⟨h11, h⟩ | ⟨h11, h⟩
          · injection h with h; subst h; exact rl [0, 2, 3, 4] [] [.dec true, .dec true, .row (c33 x7), .callv (.v (.string r9))] (by kernel_rfl) (pc (h4) <| pc (h5) <| pc (of_decide_eq_true h6) <| pc (ob33 h8) <| pc (k_palingref02_Text h10) <| pc (of_decide_eq_true h11) <| pn)
          · cases h
        · cases h
      · obtain ⟨x12, h13, h⟩ := bind_out h
        obtain ⟨r14, h15, h⟩ := bind_out h
        rcases ite_out h with ⟨h16, h⟩ | ⟨h16, h⟩
        · injection h with h; subst h; exact rl [0, 2, 3, 4] [] [.dec true, .dec false, .row (c33 x12), .callv (.v (.string r14))] (by kernel_rfl) (pc (h4) <| pc (h5) <| pc (ob33 h13) <| pc (k_palingref02_Text h15) <| pc (of_decide_eq_true h16) <| pn)
        · cases h
    · injection h with h; subst h; exact rl [2, 3] [] [.dec false] (by kernel_rfl) (pc (h4) <| pn)
  · exact Ex.noConfusion

theorem k_palingref03_AddrsText {a1 : List Int} {r : ByteArray} (h : palingref03_AddrsText a1 = some r) :
    CallsOK Tryz.prog UU 113 [.sl 33 a1] [] (.v (.string r)) [] := by
  unfold palingref03_AddrsText at h
  obtain ⟨v18, h19, h⟩ := bind_out h
  injection h with h; subst h; exact rf Tryz.func113 rfl none [.sum [0, 2, 3, 4] [] (.exit 0) [(2, .e), (3, .v (.string v18))] []] (by kernel_rfl) (pc (k_palingref03_AddrsText_L1 _ _ h19) <| pn)

theorem k_palingref02_Right {a1 : Api_Prefix} {r : Bool} (h : palingref02_Right a1 = some r) :
    CallsOK Tryz.prog UU 137 [.agg (c99 a1)] [] (.v (.bool r)) [] := by
  unfold palingref02_Right at h
  rcases ite_out h with ⟨h2, h⟩ | ⟨h2, h⟩
  · injection h with h; subst h; exact rf Tryz.func137 rfl none [.dec true] (by kernel_rfl) (pc (h2) <| pn)
  · injection h with h; subst h; exact rf Tryz.func137 rfl none [.dec false] (by kernel_rfl) (pc (h2) <| pn)

theorem k_palingref02_PrefixText {a1 : Api_Prefix} {r : ByteArray} (h : palingref02_PrefixText a1 = some r) :
    CallsOK Tryz.prog UU 114 [.agg (c99 a1)] [] (.v (.string r)) [] := by
  unfold palingref02_PrefixText at h
  obtain ⟨r2, h3, h⟩ := bind_out h
  rcases ite_out h with ⟨h4, h⟩ | ⟨h4, h⟩
  · injection h with h; subst h; exact rf Tryz.func114 rfl none [.callv (.v (.bool r2)), .dec true] (by kernel_rfl) (pc (k_palingref02_Right h3) <| pc (h4) <| pn)
  · obtain ⟨r5, h6, h⟩ := bind_out h
    rcases ite_out h with ⟨h7, h⟩ | ⟨h7, h⟩
    · obtain ⟨r8, h9, h⟩ := bind_out h
      rcases ite_out h with ⟨h10, h⟩ | ⟨h10, h⟩
      · injection h with h; subst h; exact rf Tryz.func114 rfl none [.callv (.v (.bool r2)), .dec false, .callv (.v (.string r5)), .callv (.v (.string r8))] (by kernel_rfl) (pc (k_palingref02_Right h3) <| pc (h4) <| pc (k_palingref02_Text h6) <| pc (of_decide_eq_true h7) <| pc (k_palingref02_number h9) <| pc (of_decide_eq_true h10) <| pn)
      · cases h
    · cases h

theorem k_palingref11_Words {a1 : Api_Line} {r : ((List ByteArray))} (h : palingref11_Words a1 = some r) :
    CallsOK Tryz.prog UU 90 [.agg (c37 a1)] [] ((fun r => match r with | l35 => .os 0 l35.length) r) ((fun r => match r with | l35 => [.arr 9 l35 l35.length false]) r) := by
  unfold palingref11_Words at h
  obtain ⟨r2, h3, h⟩ := bind_out h
  obtain ⟨r4, h5, h⟩ := bind_out h
  obtain ⟨r6, h7, h⟩ := bind_out h
  rcases ite_out h with ⟨h8, h⟩ | ⟨h8, h⟩
  · injection h with h; subst h; exact rf Tryz.func90 rfl (some [2]) [.callv (.v (.string r2)), .callv (.v (.string r4)), .callv (.v (.string r6)), .dec true, .obj [] (.arr 9 [(⟨#[100, 101, 118, 105, 99, 101]⟩ : ByteArray), a1.dev, r4, r6] (List.length [(⟨#[100, 101, 118, 105, 99, 101]⟩ : ByteArray), a1.dev, r4, r6]) false)] (by kernel_rfl) (pc (k_palingref03_Text h3) <| pc (k_palingref03_Text h5) <| pc (k_palingref01_Text h7) <| pc (h8) <| pc (bs_ob 9 [(⟨#[100, 101, 118, 105, 99, 101]⟩ : ByteArray), a1.dev, r4, r6]) <| pn)
  · rcases ite_out h with ⟨h9, h⟩ | ⟨h9, h⟩
    · obtain ⟨r10, h11, h⟩ := bind_out h
      rcases ite_out h with ⟨h12, h⟩ | ⟨h12, h⟩
      · injection h with h; subst h; exact rf Tryz.func90 rfl (some [2]) [.callv (.v (.string r2)), .callv (.v (.string r4)), .callv (.v (.string r6)), .dec false, .dec true, .callv (.v (.string r10)), .dec true, .obj [] (.arr 9 [(⟨#[112, 111, 114, 116]⟩ : ByteArray), a1.dev, a1.port, r10, (⟨#[97, 99, 99, 101, 115, 115]⟩ : ByteArray), r2] (List.length [(⟨#[112, 111, 114, 116]⟩ : ByteArray), a1.dev, a1.port, r10, (⟨#[97, 99, 99, 101, 115, 115]⟩ : ByteArray), r2]) false)] (by kernel_rfl) (pc (k_palingref03_Text h3) <| pc (k_palingref03_Text h5) <| pc (k_palingref01_Text h7) <| pc (h8) <| pc (h9) <| pc (k_palingref03_Text h11) <| pc (h12) <| pc (bs_ob 9 [(⟨#[112, 111, 114, 116]⟩ : ByteArray), a1.dev, a1.port, r10, (⟨#[97, 99, 99, 101, 115, 115]⟩ : ByteArray), r2]) <| pn)
      · rcases ite_out h with ⟨h13, h⟩ | ⟨h13, h⟩
        · obtain ⟨r14, h15, h⟩ := bind_out h
          injection h with h; subst h; exact rf Tryz.func90 rfl (some [2]) [.callv (.v (.string r2)), .callv (.v (.string r4)), .callv (.v (.string r6)), .dec false, .dec true, .callv (.v (.string r10)), .dec false, .dec true, .callv (.v (.string r14)), .obj [] (.arr 9 [(⟨#[112, 111, 114, 116]⟩ : ByteArray), a1.dev, a1.port, r10, (⟨#[116, 114, 117, 110, 107]⟩ : ByteArray), (⟨#[45]⟩ : ByteArray), r14] (List.length [(⟨#[112, 111, 114, 116]⟩ : ByteArray), a1.dev, a1.port, r10, (⟨#[116, 114, 117, 110, 107]⟩ : ByteArray), (⟨#[45]⟩ : ByteArray), r14]) false)] (by kernel_rfl) (pc (k_palingref03_Text h3) <| pc (k_palingref03_Text h5) <| pc (k_palingref01_Text h7) <| pc (h8) <| pc (h9) <| pc (k_palingref03_Text h11) <| pc (h12) <| pc (h13) <| pc (k_palingref11_spell h15) <| pc (bs_ob 9 [(⟨#[112, 111, 114, 116]⟩ : ByteArray), a1.dev, a1.port, r10, (⟨#[116, 114, 117, 110, 107]⟩ : ByteArray), (⟨#[45]⟩ : ByteArray), r14]) <| pn)
        · obtain ⟨r16, h17, h⟩ := bind_out h
          injection h with h; subst h; exact rf Tryz.func90 rfl (some [2]) [.callv (.v (.string r2)), .callv (.v (.string r4)), .callv (.v (.string r6)), .dec false, .dec true, .callv (.v (.string r10)), .dec false, .dec false, .callv (.v (.string r16)), .obj [] (.arr 9 [(⟨#[112, 111, 114, 116]⟩ : ByteArray), a1.dev, a1.port, r10, (⟨#[116, 114, 117, 110, 107]⟩ : ByteArray), r2, r16] (List.length [(⟨#[112, 111, 114, 116]⟩ : ByteArray), a1.dev, a1.port, r10, (⟨#[116, 114, 117, 110, 107]⟩ : ByteArray), r2, r16]) false)] (by kernel_rfl) (pc (k_palingref03_Text h3) <| pc (k_palingref03_Text h5) <| pc (k_palingref01_Text h7) <| pc (h8) <| pc (h9) <| pc (k_palingref03_Text h11) <| pc (h12) <| pc (h13) <| pc (k_palingref11_spell h17) <| pc (bs_ob 9 [(⟨#[112, 111, 114, 116]⟩ : ByteArray), a1.dev, a1.port, r10, (⟨#[116, 114, 117, 110, 107]⟩ : ByteArray), r2, r16]) <| pn)
    · rcases ite_out h with ⟨h18, h⟩ | ⟨h18, h⟩
      · injection h with h; subst h; exact rf Tryz.func90 rfl (some [2]) [.callv (.v (.string r2)), .callv (.v (.string r4)), .callv (.v (.string r6)), .dec false, .dec false, .dec true, .obj [] (.arr 9 [(⟨#[108, 105, 110, 107]⟩ : ByteArray), a1.dev, a1.port, a1.peer, a1.far] (List.length [(⟨#[108, 105, 110, 107]⟩ : ByteArray), a1.dev, a1.port, a1.peer, a1.far]) false)] (by kernel_rfl) (pc (k_palingref03_Text h3) <| pc (k_palingref03_Text h5) <| pc (k_palingref01_Text h7) <| pc (h8) <| pc (h9) <| pc (h18) <| pc (bs_ob 9 [(⟨#[108, 105, 110, 107]⟩ : ByteArray), a1.dev, a1.port, a1.peer, a1.far]) <| pn)
      · rcases ite_out h with ⟨h19, h⟩ | ⟨h19, h⟩
        · injection h with h; subst h; exact rf Tryz.func90 rfl (some [2]) [.callv (.v (.string r2)), .callv (.v (.string r4)), .callv (.v (.string r6)), .dec false, .dec false, .dec false, .dec true, .obj [] (.arr 9 [(⟨#[115, 116, 97, 116, 105, 99]⟩ : ByteArray), a1.dev, r2, r6, a1.port] (List.length [(⟨#[115, 116, 97, 116, 105, 99]⟩ : ByteArray), a1.dev, r2, r6, a1.port]) false)] (by kernel_rfl) (pc (k_palingref03_Text h3) <| pc (k_palingref03_Text h5) <| pc (k_palingref01_Text h7) <| pc (h8) <| pc (h9) <| pc (h18) <| pc (h19) <| pc (bs_ob 9 [(⟨#[115, 116, 97, 116, 105, 99]⟩ : ByteArray), a1.dev, r2, r6, a1.port]) <| pn)
        · rcases ite_out h with ⟨h20, h⟩ | ⟨h20, h⟩
          · obtain ⟨r21, h22, h⟩ := bind_out h
            injection h with h; subst h; exact rf Tryz.func90 rfl (some [2]) [.callv (.v (.string r2)), .callv (.v (.string r4)), .callv (.v (.string r6)), .dec false, .dec false, .dec false, .dec false, .dec true, .callv (.v (.string r21)), .obj [] (.arr 9 [(⟨#[118, 116, 101, 112]⟩ : ByteArray), a1.dev, r21] (List.length [(⟨#[118, 116, 101, 112]⟩ : ByteArray), a1.dev, r21]) false)] (by kernel_rfl) (pc (k_palingref03_Text h3) <| pc (k_palingref03_Text h5) <| pc (k_palingref01_Text h7) <| pc (h8) <| pc (h9) <| pc (h18) <| pc (h19) <| pc (h20) <| pc (k_palingref02_Text h22) <| pc (bs_ob 9 [(⟨#[118, 116, 101, 112]⟩ : ByteArray), a1.dev, r21]) <| pn)
          · rcases ite_out h with ⟨h23, h⟩ | ⟨h23, h⟩
            · injection h with h; subst h; exact rf Tryz.func90 rfl (some [2]) [.callv (.v (.string r2)), .callv (.v (.string r4)), .callv (.v (.string r6)), .dec false, .dec false, .dec false, .dec false, .dec false, .dec true, .obj [] (.arr 9 [(⟨#[118, 110, 105]⟩ : ByteArray), a1.dev, r2, r4] (List.length [(⟨#[118, 110, 105]⟩ : ByteArray), a1.dev, r2, r4]) false)] (by kernel_rfl) (pc (k_palingref03_Text h3) <| pc (k_palingref03_Text h5) <| pc (k_palingref01_Text h7) <| pc (h8) <| pc (h9) <| pc (h18) <| pc (h19) <| pc (h20) <| pc (h23) <| pc (bs_ob 9 [(⟨#[118, 110, 105]⟩ : ByteArray), a1.dev, r2, r4]) <| pn)
            · rcases ite_out h with ⟨h24, h⟩ | ⟨h24, h⟩
              · obtain ⟨r25, h26, h⟩ := bind_out h
                injection h with h; subst h; exact rf Tryz.func90 rfl (some [2]) [.callv (.v (.string r2)), .callv (.v (.string r4)), .callv (.v (.string r6)), .dec false, .dec false, .dec false, .dec false, .dec false, .dec false, .dec true, .callv (.v (.string r25)), .obj [] (.arr 9 [(⟨#[102, 108, 111, 111, 100]⟩ : ByteArray), a1.dev, r4, r25] (List.length [(⟨#[102, 108, 111, 111, 100]⟩ : ByteArray), a1.dev, r4, r25]) false)] (by kernel_rfl) (pc (k_palingref03_Text h3) <| pc (k_palingref03_Text h5) <| pc (k_palingref01_Text h7) <| pc (h8) <| pc (h9) <| pc (h18) <| pc (h19) <| pc (h20) <| pc (h23) <| pc (h24) <| pc (k_palingref03_AddrsText h26) <| pc (bs_ob 9 [(⟨#[102, 108, 111, 111, 100]⟩ : ByteArray), a1.dev, r4, r25]) <| pn)
              · rcases ite_out h with ⟨h27, h⟩ | ⟨h27, h⟩
                · obtain ⟨r28, h29, h⟩ := bind_out h
                  obtain ⟨r30, h31, h⟩ := bind_out h
                  injection h with h; subst h; exact rf Tryz.func90 rfl (some [2]) [.callv (.v (.string r2)), .callv (.v (.string r4)), .callv (.v (.string r6)), .dec false, .dec false, .dec false, .dec false, .dec false, .dec false, .dec false, .dec true, .callv (.v (.string r28)), .callv (.v (.string r30)), .obj [] (.arr 9 [(⟨#[118, 114, 102]⟩ : ByteArray), a1.dev, a1.name, r28, r30] (List.length [(⟨#[118, 114, 102]⟩ : ByteArray), a1.dev, a1.name, r28, r30]) false)] (by kernel_rfl) (pc (k_palingref03_Text h3) <| pc (k_palingref03_Text h5) <| pc (k_palingref01_Text h7) <| pc (h8) <| pc (h9) <| pc (h18) <| pc (h19) <| pc (h20) <| pc (h23) <| pc (h24) <| pc (h27) <| pc (k_palingref11_spell h29) <| pc (k_palingref11_spell h31) <| pc (bs_ob 9 [(⟨#[118, 114, 102]⟩ : ByteArray), a1.dev, a1.name, r28, r30]) <| pn)
                · rcases ite_out h with ⟨h32, h⟩ | ⟨h32, h⟩
                  · obtain ⟨r33, h34, h⟩ := bind_out h
                    injection h with h; subst h; exact rf Tryz.func90 rfl (some [2]) [.callv (.v (.string r2)), .callv (.v (.string r4)), .callv (.v (.string r6)), .dec false, .dec false, .dec false, .dec false, .dec false, .dec false, .dec false, .dec false, .dec true, .callv (.v (.string r33)), .obj [] (.arr 9 [(⟨#[105, 114, 98]⟩ : ByteArray), a1.dev, r2, a1.name, r33] (List.length [(⟨#[105, 114, 98]⟩ : ByteArray), a1.dev, r2, a1.name, r33]) false)] (by kernel_rfl) (pc (k_palingref03_Text h3) <| pc (k_palingref03_Text h5) <| pc (k_palingref01_Text h7) <| pc (h8) <| pc (h9) <| pc (h18) <| pc (h19) <| pc (h20) <| pc (h23) <| pc (h24) <| pc (h27) <| pc (h32) <| pc (k_palingref02_PrefixText h34) <| pc (bs_ob 9 [(⟨#[105, 114, 98]⟩ : ByteArray), a1.dev, r2, a1.name, r33]) <| pn)
                  · injection h with h; subst h; exact rf Tryz.func90 rfl (some [2]) [.callv (.v (.string r2)), .callv (.v (.string r4)), .callv (.v (.string r6)), .dec false, .dec false, .dec false, .dec false, .dec false, .dec false, .dec false, .dec false, .dec false] (by kernel_rfl) (pc (k_palingref03_Text h3) <| pc (k_palingref03_Text h5) <| pc (k_palingref01_Text h7) <| pc (h8) <| pc (h9) <| pc (h18) <| pc (h19) <| pc (h20) <| pc (h23) <| pc (h24) <| pc (h27) <| pc (h32) <| pn)

theorem k_palingref11_form {a1 : List ByteArray} {r : ByteArray} (h : palingref11_form a1 = some r) :
    CallsOK Tryz.prog UU 105 [.sl 9 a1] [] (.v (.string r)) [] := by
  unfold palingref11_form at h
  rcases ite_out h with ⟨h2, h⟩ | ⟨h2, h⟩
  · injection h with h; subst h; exact rf Tryz.func105 rfl none [.dec true] (by kernel_rfl) (pc (h2) <| pn)
  · obtain ⟨x3, h4, h⟩ := bind_out h
    rcases ite_out h with ⟨h5, h⟩ | ⟨h5, h⟩
    · injection h with h; subst h; exact rf Tryz.func105 rfl none [.dec false, .row (c9 x3), .dec true] (by kernel_rfl) (pc (h2) <| pc (ob9 h4) <| pc (h5) <| pn)
    · rcases ite_out h with ⟨h6, h⟩ | ⟨h6, h⟩
      · injection h with h; subst h; exact rf Tryz.func105 rfl none [.dec false, .row (c9 x3), .dec false, .dec true] (by kernel_rfl) (pc (h2) <| pc (ob9 h4) <| pc (h5) <| pc (h6) <| pn)
      · rcases ite_out h with ⟨h7, h⟩ | ⟨h7, h⟩
        · injection h with h; subst h; exact rf Tryz.func105 rfl none [.dec false, .row (c9 x3), .dec false, .dec false, .dec true] (by kernel_rfl) (pc (h2) <| pc (ob9 h4) <| pc (h5) <| pc (h6) <| pc (h7) <| pn)
        · rcases ite_out h with ⟨h8, h⟩ | ⟨h8, h⟩
          · injection h with h; subst h; exact rf Tryz.func105 rfl none [.dec false, .row (c9 x3), .dec false, .dec false, .dec false, .dec true] (by kernel_rfl) (pc (h2) <| pc (ob9 h4) <| pc (h5) <| pc (h6) <| pc (h7) <| pc (h8) <| pn)
          · rcases ite_out h with ⟨h9, h⟩ | ⟨h9, h⟩
            · injection h with h; subst h; exact rf Tryz.func105 rfl none [.dec false, .row (c9 x3), .dec false, .dec false, .dec false, .dec false, .dec true] (by kernel_rfl) (pc (h2) <| pc (ob9 h4) <| pc (h5) <| pc (h6) <| pc (h7) <| pc (h8) <| pc (h9) <| pn)
            · rcases ite_out h with ⟨h10, h⟩ | ⟨h10, h⟩
              · injection h with h; subst h; exact rf Tryz.func105 rfl none [.dec false, .row (c9 x3), .dec false, .dec false, .dec false, .dec false, .dec false, .dec true] (by kernel_rfl) (pc (h2) <| pc (ob9 h4) <| pc (h5) <| pc (h6) <| pc (h7) <| pc (h8) <| pc (h9) <| pc (h10) <| pn)
              · rcases ite_out h with ⟨h11, h⟩ | ⟨h11, h⟩
                · injection h with h; subst h; exact rf Tryz.func105 rfl none [.dec false, .row (c9 x3), .dec false, .dec false, .dec false, .dec false, .dec false, .dec false, .dec true] (by kernel_rfl) (pc (h2) <| pc (ob9 h4) <| pc (h5) <| pc (h6) <| pc (h7) <| pc (h8) <| pc (h9) <| pc (h10) <| pc (h11) <| pn)
                · rcases ite_out h with ⟨h12, h⟩ | ⟨h12, h⟩
                  · injection h with h; subst h; exact rf Tryz.func105 rfl none [.dec false, .row (c9 x3), .dec false, .dec false, .dec false, .dec false, .dec false, .dec false, .dec false, .dec true] (by kernel_rfl) (pc (h2) <| pc (ob9 h4) <| pc (h5) <| pc (h6) <| pc (h7) <| pc (h8) <| pc (h9) <| pc (h10) <| pc (h11) <| pc (h12) <| pn)
                  · rcases ite_out h with ⟨h13, h⟩ | ⟨h13, h⟩
                    · rcases ite_out h with ⟨h14, h⟩ | ⟨h14, h⟩
                      · obtain ⟨x15, h16, h⟩ := bind_out h
                        rcases ite_out h with ⟨h17, h⟩ | ⟨h17, h⟩
                        · injection h with h; subst h; exact rf Tryz.func105 rfl none [.dec false, .row (c9 x3), .dec false, .dec false, .dec false, .dec false, .dec false, .dec false, .dec false, .dec false, .dec true, .dec true, .row (c9 x15), .dec true] (by kernel_rfl) (pc (h2) <| pc (ob9 h4) <| pc (h5) <| pc (h6) <| pc (h7) <| pc (h8) <| pc (h9) <| pc (h10) <| pc (h11) <| pc (h12) <| pc (h13) <| pc (h14) <| pc (ob9 h16) <| pc (h17) <| pn)
                        · rcases ite_out h with ⟨h18, h⟩ | ⟨h18, h⟩
                          · obtain ⟨x19, h20, h⟩ := bind_out h
                            rcases ite_out h with ⟨h21, h⟩ | ⟨h21, h⟩
                            · injection h with h; subst h; exact rf Tryz.func105 rfl none [.dec false, .row (c9 x3), .dec false, .dec false, .dec false, .dec false, .dec false, .dec false, .dec false, .dec false, .dec true, .dec true, .row (c9 x15), .dec false, .dec true, .row (c9 x19), .dec true] (by kernel_rfl) (pc (h2) <| pc (ob9 h4) <| pc (h5) <| pc (h6) <| pc (h7) <| pc (h8) <| pc (h9) <| pc (h10) <| pc (h11) <| pc (h12) <| pc (h13) <| pc (h14) <| pc (ob9 h16) <| pc (h17) <| pc (h18) <| pc (ob9 h20) <| pc (h21) <| pn)
                            · injection h with h; subst h; exact rf Tryz.func105 rfl none [.dec false, .row (c9 x3), .dec false, .dec false, .dec false, .dec false, .dec false, .dec false, .dec false, .dec false, .dec true, .dec true, .row (c9 x15), .dec false, .dec true, .row (c9 x19), .dec false] (by kernel_rfl) (pc (h2) <| pc (ob9 h4) <| pc (h5) <| pc (h6) <| pc (h7) <| pc (h8) <| pc (h9) <| pc (h10) <| pc (h11) <| pc (h12) <| pc (h13) <| pc (h14) <| pc (ob9 h16) <| pc (h17) <| pc (h18) <| pc (ob9 h20) <| pc (h21) <| pn)
                          · injection h with h; subst h; exact rf Tryz.func105 rfl none [.dec false, .row (c9 x3), .dec false, .dec false, .dec false, .dec false, .dec false, .dec false, .dec false, .dec false, .dec true, .dec true, .row (c9 x15), .dec false, .dec false] (by kernel_rfl) (pc (h2) <| pc (ob9 h4) <| pc (h5) <| pc (h6) <| pc (h7) <| pc (h8) <| pc (h9) <| pc (h10) <| pc (h11) <| pc (h12) <| pc (h13) <| pc (h14) <| pc (ob9 h16) <| pc (h17) <| pc (h18) <| pn)
                      · rcases ite_out h with ⟨h22, h⟩ | ⟨h22, h⟩
                        · obtain ⟨x23, h24, h⟩ := bind_out h
                          rcases ite_out h with ⟨h25, h⟩ | ⟨h25, h⟩
                          · injection h with h; subst h; exact rf Tryz.func105 rfl none [.dec false, .row (c9 x3), .dec false, .dec false, .dec false, .dec false, .dec false, .dec false, .dec false, .dec false, .dec true, .dec false, .dec true, .row (c9 x23), .dec true] (by kernel_rfl) (pc (h2) <| pc (ob9 h4) <| pc (h5) <| pc (h6) <| pc (h7) <| pc (h8) <| pc (h9) <| pc (h10) <| pc (h11) <| pc (h12) <| pc (h13) <| pc (h14) <| pc (h22) <| pc (ob9 h24) <| pc (h25) <| pn)
                          · injection h with h; subst h; exact rf Tryz.func105 rfl none [.dec false, .row (c9 x3), .dec false, .dec false, .dec false, .dec false, .dec false, .dec false, .dec false, .dec false, .dec true, .dec false, .dec true, .row (c9 x23), .dec false] (by kernel_rfl) (pc (h2) <| pc (ob9 h4) <| pc (h5) <| pc (h6) <| pc (h7) <| pc (h8) <| pc (h9) <| pc (h10) <| pc (h11) <| pc (h12) <| pc (h13) <| pc (h14) <| pc (h22) <| pc (ob9 h24) <| pc (h25) <| pn)
                        · injection h with h; subst h; exact rf Tryz.func105 rfl none [.dec false, .row (c9 x3), .dec false, .dec false, .dec false, .dec false, .dec false, .dec false, .dec false, .dec false, .dec true, .dec false, .dec false] (by kernel_rfl) (pc (h2) <| pc (ob9 h4) <| pc (h5) <| pc (h6) <| pc (h7) <| pc (h8) <| pc (h9) <| pc (h10) <| pc (h11) <| pc (h12) <| pc (h13) <| pc (h14) <| pc (h22) <| pn)
                    · injection h with h; subst h; exact rf Tryz.func105 rfl none [.dec false, .row (c9 x3), .dec false, .dec false, .dec false, .dec false, .dec false, .dec false, .dec false, .dec false, .dec false] (by kernel_rfl) (pc (h2) <| pc (ob9 h4) <| pc (h5) <| pc (h6) <| pc (h7) <| pc (h8) <| pc (h9) <| pc (h10) <| pc (h11) <| pc (h12) <| pc (h13) <| pn)

theorem k_palingref11_kind_L1 {a1 : ByteArray} : LoopOK Tryz.prog UU 0 19 (subC (codeOf Tryz.f106) [1, 1, 0, 1, 0, 0]) (ρ := Int ⊕ Unit) (palingref11_kind_L1 a1)
    (fun v2 : Int => ([(0, .v (.string a1)), (2, .z), (3, .os 0 (List.length [(⟨#[]⟩ : ByteArray), (⟨#[100, 101, 118, 105, 99, 101]⟩ : ByteArray), (⟨#[112, 111, 114, 116]⟩ : ByteArray), (⟨#[108, 105, 110, 107]⟩ : ByteArray), (⟨#[115, 116, 97, 116, 105, 99]⟩ : ByteArray), (⟨#[118, 116, 101, 112]⟩ : ByteArray), (⟨#[118, 110, 105]⟩ : ByteArray), (⟨#[102, 108, 111, 111, 100]⟩ : ByteArray), (⟨#[118, 114, 102]⟩ : ByteArray), (⟨#[105, 114, 98]⟩ : ByteArray)])), (4, .j v2)] : Fr DD)) (fun v2 : Int => ([.arr 9 [(⟨#[]⟩ : ByteArray), (⟨#[100, 101, 118, 105, 99, 101]⟩ : ByteArray), (⟨#[112, 111, 114, 116]⟩ : ByteArray), (⟨#[108, 105, 110, 107]⟩ : ByteArray), (⟨#[115, 116, 97, 116, 105, 99]⟩ : ByteArray), (⟨#[118, 116, 101, 112]⟩ : ByteArray), (⟨#[118, 110, 105]⟩ : ByteArray), (⟨#[102, 108, 111, 111, 100]⟩ : ByteArray), (⟨#[118, 114, 102]⟩ : ByteArray), (⟨#[105, 114, 98]⟩ : ByteArray)] (List.length [(⟨#[]⟩ : ByteArray), (⟨#[100, 101, 118, 105, 99, 101]⟩ : ByteArray), (⟨#[112, 111, 114, 116]⟩ : ByteArray), (⟨#[108, 105, 110, 107]⟩ : ByteArray), (⟨#[115, 116, 97, 116, 105, 99]⟩ : ByteArray), (⟨#[118, 116, 101, 112]⟩ : ByteArray), (⟨#[118, 110, 105]⟩ : ByteArray), (⟨#[102, 108, 111, 111, 100]⟩ : ByteArray), (⟨#[118, 114, 102]⟩ : ByteArray), (⟨#[105, 114, 98]⟩ : ByteArray)]) false] : Heap DD)) (fun r => match r with | Sum.inl v9 => .ret | Sum.inr _ => .exit 0) (fun r => match r with | Sum.inl v9 => [(2, .j v9)] | Sum.inr _ => [(2, .z)]) (fun r => match r with | Sum.inl v9 => [] | Sum.inr _ => []) := by
  refine loop_sound3 (fun s q h => ?_) (fun r => ?_)
  · replace h : palingref11_kind_L1 a1 s = some q := h; revert h; revert s; intro v2 h
    unfold palingref11_kind_L1 at h
    rcases ite_out h with ⟨h3, h⟩ | ⟨h3, h⟩
    · rcases ite_out h with ⟨h4, h⟩ | ⟨h4, h⟩
      · obtain ⟨x5, h6, h⟩ := bind_out h
        rcases ite_out h with ⟨h7, h⟩ | ⟨h7, h⟩
        · injection h with h; subst h; exact rl [2] [] [.dec true, .row (c9 x5), .dec true] (by kernel_rfl) (pc ((rn (List.length [(⟨#[]⟩ : ByteArray), (⟨#[100, 101, 118, 105, 99, 101]⟩ : ByteArray), (⟨#[112, 111, 114, 116]⟩ : ByteArray), (⟨#[108, 105, 110, 107]⟩ : ByteArray), (⟨#[115, 116, 97, 116, 105, 99]⟩ : ByteArray), (⟨#[118, 116, 101, 112]⟩ : ByteArray), (⟨#[118, 110, 105]⟩ : ByteArray), (⟨#[102, 108, 111, 111, 100]⟩ : ByteArray), (⟨#[118, 114, 102]⟩ : ByteArray), (⟨#[105, 114, 98]⟩ : ByteArray)]))) <| pc (h3) <| pc (an (List.length [(⟨#[]⟩ : ByteArray), (⟨#[100, 101, 118, 105, 99, 101]⟩ : ByteArray), (⟨#[112, 111, 114, 116]⟩ : ByteArray), (⟨#[108, 105, 110, 107]⟩ : ByteArray), (⟨#[115, 116, 97, 116, 105, 99]⟩ : ByteArray), (⟨#[118, 116, 101, 112]⟩ : ByteArray), (⟨#[118, 110, 105]⟩ : ByteArray), (⟨#[102, 108, 111, 111, 100]⟩ : ByteArray), (⟨#[118, 114, 102]⟩ : ByteArray), (⟨#[105, 114, 98]⟩ : ByteArray)]) (lin_ob h4)) <| pc (an (List.length [(⟨#[]⟩ : ByteArray), (⟨#[100, 101, 118, 105, 99, 101]⟩ : ByteArray), (⟨#[112, 111, 114, 116]⟩ : ByteArray), (⟨#[108, 105, 110, 107]⟩ : ByteArray), (⟨#[115, 116, 97, 116, 105, 99]⟩ : ByteArray), (⟨#[118, 116, 101, 112]⟩ : ByteArray), (⟨#[118, 110, 105]⟩ : ByteArray), (⟨#[102, 108, 111, 111, 100]⟩ : ByteArray), (⟨#[118, 114, 102]⟩ : ByteArray), (⟨#[105, 114, 98]⟩ : ByteArray)]) (obn9 h6)) <| pc (h7) <| pn)
        · injection h with h; subst h; exact rl [0, 2, 3, 4] [0] [.dec true, .row (c9 x5), .dec false] (by kernel_rfl) (pc ((rn (List.length [(⟨#[]⟩ : ByteArray), (⟨#[100, 101, 118, 105, 99, 101]⟩ : ByteArray), (⟨#[112, 111, 114, 116]⟩ : ByteArray), (⟨#[108, 105, 110, 107]⟩ : ByteArray), (⟨#[115, 116, 97, 116, 105, 99]⟩ : ByteArray), (⟨#[118, 116, 101, 112]⟩ : ByteArray), (⟨#[118, 110, 105]⟩ : ByteArray), (⟨#[102, 108, 111, 111, 100]⟩ : ByteArray), (⟨#[118, 114, 102]⟩ : ByteArray), (⟨#[105, 114, 98]⟩ : ByteArray)]))) <| pc (h3) <| pc (an (List.length [(⟨#[]⟩ : ByteArray), (⟨#[100, 101, 118, 105, 99, 101]⟩ : ByteArray), (⟨#[112, 111, 114, 116]⟩ : ByteArray), (⟨#[108, 105, 110, 107]⟩ : ByteArray), (⟨#[115, 116, 97, 116, 105, 99]⟩ : ByteArray), (⟨#[118, 116, 101, 112]⟩ : ByteArray), (⟨#[118, 110, 105]⟩ : ByteArray), (⟨#[102, 108, 111, 111, 100]⟩ : ByteArray), (⟨#[118, 114, 102]⟩ : ByteArray), (⟨#[105, 114, 98]⟩ : ByteArray)]) (lin_ob h4)) <| pc (an (List.length [(⟨#[]⟩ : ByteArray), (⟨#[100, 101, 118, 105, 99, 101]⟩ : ByteArray), (⟨#[112, 111, 114, 116]⟩ : ByteArray), (⟨#[108, 105, 110, 107]⟩ : ByteArray), (⟨#[115, 116, 97, 116, 105, 99]⟩ : ByteArray), (⟨#[118, 116, 101, 112]⟩ : ByteArray), (⟨#[118, 110, 105]⟩ : ByteArray), (⟨#[102, 108, 111, 111, 100]⟩ : ByteArray), (⟨#[118, 114, 102]⟩ : ByteArray), (⟨#[105, 114, 98]⟩ : ByteArray)]) (obn9 h6)) <| pc (h7) <| pn)
      · cases h
    · injection h with h; subst h; exact rl [2] [] [.dec false] (by kernel_rfl) (pc ((rn (List.length [(⟨#[]⟩ : ByteArray), (⟨#[100, 101, 118, 105, 99, 101]⟩ : ByteArray), (⟨#[112, 111, 114, 116]⟩ : ByteArray), (⟨#[108, 105, 110, 107]⟩ : ByteArray), (⟨#[115, 116, 97, 116, 105, 99]⟩ : ByteArray), (⟨#[118, 116, 101, 112]⟩ : ByteArray), (⟨#[118, 110, 105]⟩ : ByteArray), (⟨#[102, 108, 111, 111, 100]⟩ : ByteArray), (⟨#[118, 114, 102]⟩ : ByteArray), (⟨#[105, 114, 98]⟩ : ByteArray)]))) <| pc (h3) <| pn)
  · rcases r with _ | _ <;> exact Ex.noConfusion

theorem k_palingref11_kind {a1 : ByteArray} {r : Int} (h : palingref11_kind a1 = some r) :
    CallsOK Tryz.prog UU 106 [.v (.string a1)] [] (.j r) [] := by
  unfold palingref11_kind at h
  obtain ⟨r11, h10, h⟩ := bind_out h
  rcases r11 with v9 | _
  · injection h with h; subst h; exact rf Tryz.func106 rfl none [.obj [] (.arr 9 [(⟨#[]⟩ : ByteArray), (⟨#[100, 101, 118, 105, 99, 101]⟩ : ByteArray), (⟨#[112, 111, 114, 116]⟩ : ByteArray), (⟨#[108, 105, 110, 107]⟩ : ByteArray), (⟨#[115, 116, 97, 116, 105, 99]⟩ : ByteArray), (⟨#[118, 116, 101, 112]⟩ : ByteArray), (⟨#[118, 110, 105]⟩ : ByteArray), (⟨#[102, 108, 111, 111, 100]⟩ : ByteArray), (⟨#[118, 114, 102]⟩ : ByteArray), (⟨#[105, 114, 98]⟩ : ByteArray)] (List.length [(⟨#[]⟩ : ByteArray), (⟨#[100, 101, 118, 105, 99, 101]⟩ : ByteArray), (⟨#[112, 111, 114, 116]⟩ : ByteArray), (⟨#[108, 105, 110, 107]⟩ : ByteArray), (⟨#[115, 116, 97, 116, 105, 99]⟩ : ByteArray), (⟨#[118, 116, 101, 112]⟩ : ByteArray), (⟨#[118, 110, 105]⟩ : ByteArray), (⟨#[102, 108, 111, 111, 100]⟩ : ByteArray), (⟨#[118, 114, 102]⟩ : ByteArray), (⟨#[105, 114, 98]⟩ : ByteArray)]) false), .sum [0, 2, 3, 4] [0] .ret [(2, .j v9)] []] (by kernel_rfl) (pc (bs_ob 9 [(⟨#[]⟩ : ByteArray), (⟨#[100, 101, 118, 105, 99, 101]⟩ : ByteArray), (⟨#[112, 111, 114, 116]⟩ : ByteArray), (⟨#[108, 105, 110, 107]⟩ : ByteArray), (⟨#[115, 116, 97, 116, 105, 99]⟩ : ByteArray), (⟨#[118, 116, 101, 112]⟩ : ByteArray), (⟨#[118, 110, 105]⟩ : ByteArray), (⟨#[102, 108, 111, 111, 100]⟩ : ByteArray), (⟨#[118, 114, 102]⟩ : ByteArray), (⟨#[105, 114, 98]⟩ : ByteArray)]) <| pc (k_palingref11_kind_L1 _ _ h10) <| pn)
  · injection h with h; subst h; exact rf Tryz.func106 rfl none [.obj [] (.arr 9 [(⟨#[]⟩ : ByteArray), (⟨#[100, 101, 118, 105, 99, 101]⟩ : ByteArray), (⟨#[112, 111, 114, 116]⟩ : ByteArray), (⟨#[108, 105, 110, 107]⟩ : ByteArray), (⟨#[115, 116, 97, 116, 105, 99]⟩ : ByteArray), (⟨#[118, 116, 101, 112]⟩ : ByteArray), (⟨#[118, 110, 105]⟩ : ByteArray), (⟨#[102, 108, 111, 111, 100]⟩ : ByteArray), (⟨#[118, 114, 102]⟩ : ByteArray), (⟨#[105, 114, 98]⟩ : ByteArray)] (List.length [(⟨#[]⟩ : ByteArray), (⟨#[100, 101, 118, 105, 99, 101]⟩ : ByteArray), (⟨#[112, 111, 114, 116]⟩ : ByteArray), (⟨#[108, 105, 110, 107]⟩ : ByteArray), (⟨#[115, 116, 97, 116, 105, 99]⟩ : ByteArray), (⟨#[118, 116, 101, 112]⟩ : ByteArray), (⟨#[118, 110, 105]⟩ : ByteArray), (⟨#[102, 108, 111, 111, 100]⟩ : ByteArray), (⟨#[118, 114, 102]⟩ : ByteArray), (⟨#[105, 114, 98]⟩ : ByteArray)]) false), .sum [0, 2, 3, 4] [0] (.exit 0) [(2, .z)] []] (by kernel_rfl) (pc (bs_ob 9 [(⟨#[]⟩ : ByteArray), (⟨#[100, 101, 118, 105, 99, 101]⟩ : ByteArray), (⟨#[112, 111, 114, 116]⟩ : ByteArray), (⟨#[108, 105, 110, 107]⟩ : ByteArray), (⟨#[115, 116, 97, 116, 105, 99]⟩ : ByteArray), (⟨#[118, 116, 101, 112]⟩ : ByteArray), (⟨#[118, 110, 105]⟩ : ByteArray), (⟨#[102, 108, 111, 111, 100]⟩ : ByteArray), (⟨#[118, 114, 102]⟩ : ByteArray), (⟨#[105, 114, 98]⟩ : ByteArray)]) <| pc (k_palingref11_kind_L1 _ _ h10) <| pn)

theorem k_palingref03_Name_L1 {a1 : ByteArray} : LoopOK Tryz.prog UU 0 50 (subC (codeOf Tryz.f123) [1, 1, 0, 1, 0, 0]) (ρ := Unit ⊕ Unit) (palingref03_Name_L1 a1)
    (fun v7 : Int => ([(0, .v (.string a1)), (2, .v (.bool false)), (3, .j v7)] : Fr DD)) (fun v7 : Int => ([] : Heap DD)) (fun r => match r with | Sum.inl _ => .ret | Sum.inr _ => .exit 0) (fun r => match r with | Sum.inl _ => [(2, .v (.bool false))] | Sum.inr _ => [(2, .v (.bool false))]) (fun r => match r with | Sum.inl _ => [] | Sum.inr _ => []) := by
  refine loop_sound3 (fun s q h => ?_) (fun r => ?_)
  · replace h : palingref03_Name_L1 a1 s = some q := h; revert h; revert s; intro v7 h
    unfold palingref03_Name_L1 at h
    rcases ite_out h with ⟨h8, h⟩ | ⟨h8, h⟩
    · rcases ite_out h with ⟨h9, h⟩ | ⟨h9, h⟩
      · rcases ite_out h with ⟨h10, h⟩ | ⟨h10, h⟩
        · rcases ite_out h with ⟨h11, h⟩ | ⟨h11, h⟩
          · injection h with h; subst h; exact rl [2] [] [.dec true, .dec true, .dec true] (by kernel_rfl) (pc (h8) <| pc (of_decide_eq_true h9) <| pc (h10) <| pc (of_decide_eq_true h9) <| pc (h11) <| pn)
          · rcases ite_out h with ⟨h12, h⟩ | ⟨h12, h⟩
            · injection h with h; subst h; exact rl [2] [] [.dec true, .dec true, .dec false, .dec true] (by kernel_rfl) (pc (h8) <| pc (of_decide_eq_true h9) <| pc (h10) <| pc (of_decide_eq_true h9) <| pc (h11) <| pc (of_decide_eq_true h9) <| pc (h12) <| pn)
            · injection h with h; subst h; exact rl [0, 2, 3] [] [.dec true, .dec true, .dec false, .dec false] (by kernel_rfl) (pc (h8) <| pc (of_decide_eq_true h9) <| pc (h10) <| pc (of_decide_eq_true h9) <| pc (h11) <| pc (of_decide_eq_true h9) <| pc (h12) <| pn)
        · rcases ite_out h with ⟨h13, h⟩ | ⟨h13, h⟩
          · rcases ite_out h with ⟨h14, h⟩ | ⟨h14, h⟩
            · injection h with h; subst h; exact rl [2] [] [.dec true, .dec false, .dec true, .dec true] (by kernel_rfl) (pc (h8) <| pc (of_decide_eq_true h9) <| pc (h10) <| pc (of_decide_eq_true h9) <| pc (h13) <| pc (of_decide_eq_true h9) <| pc (h14) <| pn)
            · rcases ite_out h with ⟨h15, h⟩ | ⟨h15, h⟩
              · injection h with h; subst h; exact rl [2] [] [.dec true, .dec false, .dec true, .dec false, .dec true] (by kernel_rfl) (pc (h8) <| pc (of_decide_eq_true h9) <| pc (h10) <| pc (of_decide_eq_true h9) <| pc (h13) <| pc (of_decide_eq_true h9) <| pc (h14) <| pc (of_decide_eq_true h9) <| pc (h15) <| pn)
              · injection h with h; subst h; exact rl [0, 2, 3] [] [.dec true, .dec false, .dec true, .dec false, .dec false] (by kernel_rfl) (pc (h8) <| pc (of_decide_eq_true h9) <| pc (h10) <| pc (of_decide_eq_true h9) <| pc (h13) <| pc (of_decide_eq_true h9) <| pc (h14) <| pc (of_decide_eq_true h9) <| pc (h15) <| pn)
          · injection h with h; subst h; exact rl [0, 2, 3] [] [.dec true, .dec false, .dec false] (by kernel_rfl) (pc (h8) <| pc (of_decide_eq_true h9) <| pc (h10) <| pc (of_decide_eq_true h9) <| pc (h13) <| pn)
      · cases h
    · injection h with h; subst h; exact rl [2] [] [.dec false] (by kernel_rfl) (pc (h8) <| pn)
  · rcases r with _ | _ <;> exact Ex.noConfusion

theorem k_palingref03_Name {a1 : ByteArray} {r : Bool} (h : palingref03_Name a1 = some r) :
    CallsOK Tryz.prog UU 123 [.v (.string a1)] [] (.v (.bool r)) [] := by
  unfold palingref03_Name at h
  rcases ite_out h with ⟨h2, h⟩ | ⟨h2, h⟩
  · injection h with h; subst h; exact rf Tryz.func123 rfl none [.dec true] (by kernel_rfl) (pc (h2) <| pn)
  · rcases ite_out h with ⟨h3, h⟩ | ⟨h3, h⟩
    · injection h with h; subst h; exact rf Tryz.func123 rfl none [.dec false, .dec true] (by kernel_rfl) (pc (h2) <| pc (h3) <| pn)
    · rcases ite_out h with ⟨h4, h⟩ | ⟨h4, h⟩
      · rcases ite_out h with ⟨h5, h⟩ | ⟨h5, h⟩
        · injection h with h; subst h; exact rf Tryz.func123 rfl none [.dec false, .dec false, .dec true] (by kernel_rfl) (pc (h2) <| pc (h3) <| pc (of_decide_eq_true h4) <| pc (h5) <| pn)
        · rcases ite_out h with ⟨h6, h⟩ | ⟨h6, h⟩
          · injection h with h; subst h; exact rf Tryz.func123 rfl none [.dec false, .dec false, .dec false, .dec true] (by kernel_rfl) (pc (h2) <| pc (h3) <| pc (of_decide_eq_true h4) <| pc (h5) <| pc (of_decide_eq_true h4) <| pc (h6) <| pn)
          · obtain ⟨r17, h16, h⟩ := bind_out h
            rcases r17 with _ | _
            · injection h with h; subst h; exact rf Tryz.func123 rfl none [.dec false, .dec false, .dec false, .dec false, .sum [0, 2, 3] [] .ret [(2, .v (.bool false))] []] (by kernel_rfl) (pc (h2) <| pc (h3) <| pc (of_decide_eq_true h4) <| pc (h5) <| pc (of_decide_eq_true h4) <| pc (h6) <| pc (k_palingref03_Name_L1 _ _ h16) <| pn)
            · injection h with h; subst h; exact rf Tryz.func123 rfl none [.dec false, .dec false, .dec false, .dec false, .sum [0, 2, 3] [] (.exit 0) [(2, .v (.bool false))] []] (by kernel_rfl) (pc (h2) <| pc (h3) <| pc (of_decide_eq_true h4) <| pc (h5) <| pc (of_decide_eq_true h4) <| pc (h6) <| pc (k_palingref03_Name_L1 _ _ h16) <| pn)
      · cases h

theorem k_palingref11_name_own_J1 {a1 : ByteArray} {a2 : Int} {a3 : Int} {a4 : Int} {a5 : ByteArray} {a6 : ByteArray} {a7 : ByteArray} {a8 : ByteArray} {a9 : ByteArray} {a10 : Int} {a11 : Int} {a12 : Int} {a13 : Int} {a14 : Int} {a15 : Int} {a16 : List Int} {a17 : List Int} {a18 : List Int} {a19 : List Int} {r : ByteArray} (h : palingref11_name_own_J1 a1 a2 a3 a4 a5 a6 a7 a8 a9 a10 a11 a12 a13 a14 a15 a16 a17 a18 a19 = some r) :
    ExecOK Tryz.prog UU 5 46 (subC (codeOf Tryz.f124) [1, 1, 0]) [(0, .v (.string a1)), (1, .j a2), (2, .op 0 1 0 0)] [.box 37 [.j a3, .j a4, .v (.string a5), .v (.string a6), .v (.string a7), .v (.string a8), .v (.string a9), .v (.int .u64 a10), .v (.int .u32 a11), .j a12, .j a13, .j a14, .j a15, .os 1 a16.length, .os 2 a17.length, .os 3 a18.length, .os 4 a19.length] false, .arr 3 a16 a16.length false, .arr 3 a17 a17.length false, .arr 3 a18 a18.length false, .arr 33 a19 a19.length false] ((fun r => match r with | v27 => .nor) r) ((fun r => match r with | v27 => [(0, .v (.string a1)), (1, .j a2), (2, .op 0 1 0 0)]) r) ((fun r => match r with | v27 => [.box 37 [.j a3, .j a4, .v (.string a5), .v (.string v27), .v (.string a7), .v (.string a8), .v (.string a9), .v (.int .u64 a10), .v (.int .u32 a11), .j a12, .j a13, .j a14, .j a15, .os 1 a16.length, .os 2 a17.length, .os 3 a18.length, .os 4 a19.length] false, .arr 3 a16 a16.length false, .arr 3 a17 a17.length false, .arr 3 a18 a18.length false, .arr 33 a19 a19.length false]) r) := by
  unfold palingref11_name_own_J1 at h
  rcases ite_out h with ⟨h23, h⟩ | ⟨h23, h⟩
  · injection h with h; subst h; exact rl [0, 1, 2] [0, 1, 2, 3, 4] [.dec true] (by kernel_rfl) (pc (h23) <| pn)
  · injection h with h; subst h; exact rl [0, 1, 2] [0, 1, 2, 3, 4] [.dec false] (by kernel_rfl) (pc (h23) <| pn)

theorem k_palingref11_name_own {a1 : ByteArray} {a2 : Int} {a3 : Int} {a4 : Int} {a5 : ByteArray} {a6 : ByteArray} {a7 : ByteArray} {a8 : ByteArray} {a9 : ByteArray} {a10 : Int} {a11 : Int} {a12 : Int} {a13 : Int} {a14 : Int} {a15 : Int} {a16 : List Int} {a17 : List Int} {a18 : List Int} {a19 : List Int} {r : (ByteArray × ByteArray × ByteArray × ByteArray × ByteArray)} (h : palingref11_name_own a1 a2 a3 a4 a5 a6 a7 a8 a9 a10 a11 a12 a13 a14 a15 a16 a17 a18 a19 = some r) :
    CallsOK Tryz.prog UU 124 [.v (.string a1), .j a2, .op 0 1 0 0] [.box 37 [.j a3, .j a4, .v (.string a5), .v (.string a6), .v (.string a7), .v (.string a8), .v (.string a9), .v (.int .u64 a10), .v (.int .u32 a11), .j a12, .j a13, .j a14, .j a15, .os 1 a16.length, .os 2 a17.length, .os 3 a18.length, .os 4 a19.length] false, .arr 3 a16 a16.length false, .arr 3 a17 a17.length false, .arr 3 a18 a18.length false, .arr 33 a19 a19.length false] ((fun r => match r with | (v33, v34, v35, v36, v37) => .tup []) r) ((fun r => match r with | (v33, v34, v35, v36, v37) => [.box 37 [.j a3, .j a4, .v (.string v33), .v (.string v34), .v (.string v35), .v (.string v36), .v (.string v37), .v (.int .u64 a10), .v (.int .u32 a11), .j a12, .j a13, .j a14, .j a15, .os 1 a16.length, .os 2 a17.length, .os 3 a18.length, .os 4 a19.length] false, .arr 3 a16 a16.length false, .arr 3 a17 a17.length false, .arr 3 a18 a18.length false, .arr 33 a19 a19.length false]) r) := by
  unfold palingref11_name_own at h
  rcases ite_out h with ⟨h20, h⟩ | ⟨h20, h⟩
  · injection h with h; subst h; exact rf Tryz.func124 rfl (some [0, 1, 2, 3, 4]) [.dec true] (by kernel_rfl) (pc (h20) <| pn)
  · rcases ite_out h with ⟨h21, h⟩ | ⟨h21, h⟩
    · injection h with h; subst h; exact rf Tryz.func124 rfl (some [0, 1, 2, 3, 4]) [.dec false, .dec true] (by kernel_rfl) (pc (h20) <| pc (h21) <| pn)
    · rcases ite_out h with ⟨h22, h⟩ | ⟨h22, h⟩
      · injection h with h; subst h; exact rf Tryz.func124 rfl (some [0, 1, 2, 3, 4]) [.dec false, .dec false, .dec true] (by kernel_rfl) (pc (h20) <| pc (h21) <| pc (h22) <| pn)
      · obtain ⟨v27, h28, h⟩ := bind_out h
        rcases ite_out h with ⟨h30, h⟩ | ⟨h30, h⟩
        · rcases ite_out h with ⟨h31, h⟩ | ⟨h31, h⟩
          · injection h with h; subst h; exact rf Tryz.func124 rfl (some [0, 1, 2, 3, 4]) [.dec false, .dec false, .dec false, .cut [0, 1, 2] [0, 1, 2, 3, 4] .nor [(0, .v (.string a1)), (1, .j a2), (2, .op 0 1 0 0)] [.box 37 [.j a3, .j a4, .v (.string a5), .v (.string v27), .v (.string a7), .v (.string a8), .v (.string a9), .v (.int .u64 a10), .v (.int .u32 a11), .j a12, .j a13, .j a14, .j a15, .os 1 a16.length, .os 2 a17.length, .os 3 a18.length, .os 4 a19.length] false, .arr 3 a16 a16.length false, .arr 3 a17 a17.length false, .arr 3 a18 a18.length false, .arr 33 a19 a19.length false], .dec true, .dec true] (by kernel_rfl) (pc (h20) <| pc (h21) <| pc (h22) <| pc (k_palingref11_name_own_J1 h28) <| pc (h30) <| pc (h31) <| pn)
          · injection h with h; subst h; exact rf Tryz.func124 rfl (some [0, 1, 2, 3, 4]) [.dec false, .dec false, .dec false, .cut [0, 1, 2] [0, 1, 2, 3, 4] .nor [(0, .v (.string a1)), (1, .j a2), (2, .op 0 1 0 0)] [.box 37 [.j a3, .j a4, .v (.string a5), .v (.string v27), .v (.string a7), .v (.string a8), .v (.string a9), .v (.int .u64 a10), .v (.int .u32 a11), .j a12, .j a13, .j a14, .j a15, .os 1 a16.length, .os 2 a17.length, .os 3 a18.length, .os 4 a19.length] false, .arr 3 a16 a16.length false, .arr 3 a17 a17.length false, .arr 3 a18 a18.length false, .arr 33 a19 a19.length false], .dec true, .dec false] (by kernel_rfl) (pc (h20) <| pc (h21) <| pc (h22) <| pc (k_palingref11_name_own_J1 h28) <| pc (h30) <| pc (h31) <| pn)
        · rcases ite_out h with ⟨h32, h⟩ | ⟨h32, h⟩
          · injection h with h; subst h; exact rf Tryz.func124 rfl (some [0, 1, 2, 3, 4]) [.dec false, .dec false, .dec false, .cut [0, 1, 2] [0, 1, 2, 3, 4] .nor [(0, .v (.string a1)), (1, .j a2), (2, .op 0 1 0 0)] [.box 37 [.j a3, .j a4, .v (.string a5), .v (.string v27), .v (.string a7), .v (.string a8), .v (.string a9), .v (.int .u64 a10), .v (.int .u32 a11), .j a12, .j a13, .j a14, .j a15, .os 1 a16.length, .os 2 a17.length, .os 3 a18.length, .os 4 a19.length] false, .arr 3 a16 a16.length false, .arr 3 a17 a17.length false, .arr 3 a18 a18.length false, .arr 33 a19 a19.length false], .dec false, .dec true] (by kernel_rfl) (pc (h20) <| pc (h21) <| pc (h22) <| pc (k_palingref11_name_own_J1 h28) <| pc (h30) <| pc (h32) <| pn)
          · injection h with h; subst h; exact rf Tryz.func124 rfl (some [0, 1, 2, 3, 4]) [.dec false, .dec false, .dec false, .cut [0, 1, 2] [0, 1, 2, 3, 4] .nor [(0, .v (.string a1)), (1, .j a2), (2, .op 0 1 0 0)] [.box 37 [.j a3, .j a4, .v (.string a5), .v (.string v27), .v (.string a7), .v (.string a8), .v (.string a9), .v (.int .u64 a10), .v (.int .u32 a11), .j a12, .j a13, .j a14, .j a15, .os 1 a16.length, .os 2 a17.length, .os 3 a18.length, .os 4 a19.length] false, .arr 3 a16 a16.length false, .arr 3 a17 a17.length false, .arr 3 a18 a18.length false, .arr 33 a19 a19.length false], .dec false, .dec false] (by kernel_rfl) (pc (h20) <| pc (h21) <| pc (h22) <| pc (k_palingref11_name_own_J1 h28) <| pc (h30) <| pc (h32) <| pn)

theorem k_palingref03_Read_J1 {a1 : ByteArray} {a2 : Int} {a3 : Int} {r : Int} (h : palingref03_Read_J1 a1 a2 a3 = some r) :
    ExecOK Tryz.prog UU 0 75 (subC (codeOf Tryz.f125) [1, 1, 0]) [(0, .v (.string a1)), (1, .j a2), (2, .j a3), (6, .z), (7, .v (.bool false)), (8, .z)] [] ((fun r => match r with | v8 => .nor) r) ((fun r => match r with | v8 => [(0, .v (.string a1)), (1, .j a2), (2, .j a3), (6, .z), (7, .v (.bool false)), (8, .j v8)]) r) ((fun r => match r with | v8 => []) r) := by
  unfold palingref03_Read_J1 at h
  rcases ite_out h with ⟨h4, h⟩ | ⟨h4, h⟩
  · rcases ite_out h with ⟨h5, h⟩ | ⟨h5, h⟩
    · rcases ite_out h with ⟨h6, h⟩ | ⟨h6, h⟩
      · injection h with h; subst h; exact rl [0, 1, 2, 6, 7, 8] [] [.dec true, .dec true] (by kernel_rfl) (pc (h4) <| pc (of_decide_eq_true h5) <| pc (h6) <| pn)
      · injection h with h; subst h; exact rl [0, 1, 2, 6, 7, 8] [] [.dec true, .dec false] (by kernel_rfl) (pc (h4) <| pc (of_decide_eq_true h5) <| pc (h6) <| pn)
    · cases h
  · injection h with h; subst h; exact rl [0, 1, 2, 6, 7, 8] [] [.dec false] (by kernel_rfl) (pc (h4) <| pn)

theorem k_palingref03_Read_L2 {a1 : ByteArray} {a2 : Int} {a3 : Int} {v8 : Int} : LoopOK Tryz.prog UU 0 75 (subC (codeOf Tryz.f125) [1, 1, 1, 1, 1, 0, 1, 0, 0]) (fun s : Int × Int => match s with | (v13, v14) => palingref03_Read_L2 a1 a2 a3 v8 v13 v14)
    (fun s : Int × Int => (match s with | (v13, v14) => [(0, .v (.string a1)), (1, .j a2), (2, .j a3), (6, .z), (7, .v (.bool false)), (8, .j v8), (9, .j v13), (10, .j v14)] : Fr DD)) (fun s : Int × Int => (match s with | (v13, v14) => [] : Heap DD)) (fun r => match r with | Sum.inl _ => .ret | Sum.inr v20 => .exit 0) (fun r => match r with | Sum.inl _ => [(6, .z), (7, .v (.bool false))] | Sum.inr v20 => [(0, .v (.string a1)), (1, .j a2), (2, .j a3), (6, .z), (7, .v (.bool false)), (8, .j v8), (9, .j v20)]) (fun r => match r with | Sum.inl _ => [] | Sum.inr v20 => []) := by
  refine loop_sound3 (fun s q h => ?_) (fun r => ?_)
  · obtain ⟨v13, v14⟩ := s; replace h : palingref03_Read_L2 a1 a2 a3 v8 v13 v14 = some q := h
    unfold palingref03_Read_L2 at h
    rcases ite_out h with ⟨h15, h⟩ | ⟨h15, h⟩
    · rcases ite_out h with ⟨h16, h⟩ | ⟨h16, h⟩
      · rcases ite_out h with ⟨h17, h⟩ | ⟨h17, h⟩
        · injection h with h; subst h; exact rl [6, 7] [] [.dec true, .dec true] (by kernel_rfl) (pc (h15) <| pc (of_decide_eq_true h16) <| pc (h17) <| pn)
        · rcases ite_out h with ⟨h18, h⟩ | ⟨h18, h⟩
          · injection h with h; subst h; exact rl [6, 7] [] [.dec true, .dec false, .dec true] (by kernel_rfl) (pc (h15) <| pc (of_decide_eq_true h16) <| pc (h17) <| pc (of_decide_eq_true h16) <| pc (h18) <| pn)
          · injection h with h; subst h; exact rl [0, 1, 2, 6, 7, 8, 9, 10] [] [.dec true, .dec false, .dec false] (by kernel_rfl) (pc (h15) <| pc (of_decide_eq_true h16) <| pc (h17) <| pc (of_decide_eq_true h16) <| pc (h18) <| pc (of_decide_eq_true h16) <| pn)
      · cases h
    · injection h with h; subst h; exact rl [0, 1, 2, 6, 7, 8, 9] [] [.dec false] (by kernel_rfl) (pc (h15) <| pn)
  · rcases r with _ | _ <;> exact Ex.noConfusion

theorem k_palingref03_Read_J3 {a1 : ByteArray} {a2 : Int} {a3 : Int} {v8 : Int} {v20 : Int} {r : Int} (h : palingref03_Read_J3 a1 a2 a3 v8 v20 = some r) :
    ExecOK Tryz.prog UU 0 75 (subC (codeOf Tryz.f125) [1, 1, 1, 1, 1, 1, 0]) [(0, .v (.string a1)), (1, .j a2), (2, .j a3), (6, .z), (7, .v (.bool false)), (8, .j v8), (9, .j v20)] [] ((fun r => match r with | v25 => .nor) r) ((fun r => match r with | v25 => [(0, .v (.string a1)), (1, .j a2), (2, .j a3), (6, .z), (7, .v (.bool false)), (9, .j v25)]) r) ((fun r => match r with | v25 => []) r) := by
  unfold palingref03_Read_J3 at h
  rcases ite_out h with ⟨h23, h⟩ | ⟨h23, h⟩
  · injection h with h; subst h; exact rl [0, 1, 2, 6, 7, 9] [] [.dec true] (by kernel_rfl) (pc (h23) <| pn)
  · injection h with h; subst h; exact rl [0, 1, 2, 6, 7, 9] [] [.dec false] (by kernel_rfl) (pc (h23) <| pn)

theorem k_palingref03_Read {a1 : ByteArray} {a2 : Int} {a3 : Int} {r : Int × Bool} (h : palingref03_Read a1 a2 a3 = some r) :
    CallsOK Tryz.prog UU 125 [.v (.string a1), .j a2, .j a3] [] (.tup [.v (.int .i64 r.1), .v (.bool r.2)]) [] := by
  unfold palingref03_Read at h
  obtain ⟨v8, h9, h⟩ := bind_out h
  rcases ite_out h with ⟨h11, h⟩ | ⟨h11, h⟩
  · injection h with h; subst h; exact rf Tryz.func125 rfl none [.skp, .skp, .cut [0, 1, 2, 6, 7, 8] [] .nor [(0, .v (.string a1)), (1, .j a2), (2, .j a3), (6, .z), (7, .v (.bool false)), (8, .j v8)] [], .dec true] (by kernel_rfl) (pc (k_palingref03_Read_J1 h9) <| pc (h11) <| pn)
  · rcases ite_out h with ⟨h12, h⟩ | ⟨h12, h⟩
    · injection h with h; subst h; exact rf Tryz.func125 rfl none [.skp, .skp, .cut [0, 1, 2, 6, 7, 8] [] .nor [(0, .v (.string a1)), (1, .j a2), (2, .j a3), (6, .z), (7, .v (.bool false)), (8, .j v8)] [], .dec false, .dec true] (by kernel_rfl) (pc (k_palingref03_Read_J1 h9) <| pc (h11) <| pc (h12) <| pn)
    · obtain ⟨r22, h21, h⟩ := bind_out h
      rcases r22 with _ | v20
      · injection h with h; subst h; exact rf Tryz.func125 rfl none [.skp, .skp, .cut [0, 1, 2, 6, 7, 8] [] .nor [(0, .v (.string a1)), (1, .j a2), (2, .j a3), (6, .z), (7, .v (.bool false)), (8, .j v8)] [], .dec false, .dec false, .sum [0, 1, 2, 6, 7, 8, 9, 10] [] .ret [(6, .z), (7, .v (.bool false))] []] (by kernel_rfl) (pc (k_palingref03_Read_J1 h9) <| pc (h11) <| pc (h12) <| pc (k_palingref03_Read_L2 _ _ h21) <| pn)
      · obtain ⟨v25, h26, h⟩ := bind_out h
        rcases ite_out h with ⟨h28, h⟩ | ⟨h28, h⟩
        · injection h with h; subst h; exact rf Tryz.func125 rfl none [.skp, .skp, .cut [0, 1, 2, 6, 7, 8] [] .nor [(0, .v (.string a1)), (1, .j a2), (2, .j a3), (6, .z), (7, .v (.bool false)), (8, .j v8)] [], .dec false, .dec false, .sum [0, 1, 2, 6, 7, 8, 9, 10] [] (.exit 0) [(0, .v (.string a1)), (1, .j a2), (2, .j a3), (6, .z), (7, .v (.bool false)), (8, .j v8), (9, .j v20)] [], .cut [0, 1, 2, 6, 7, 8, 9] [] .nor [(0, .v (.string a1)), (1, .j a2), (2, .j a3), (6, .z), (7, .v (.bool false)), (9, .j v25)] [], .dec true] (by kernel_rfl) (pc (k_palingref03_Read_J1 h9) <| pc (h11) <| pc (h12) <| pc (k_palingref03_Read_L2 _ _ h21) <| pc (k_palingref03_Read_J3 h26) <| pc (h28) <| pn)
        · rcases ite_out h with ⟨h29, h⟩ | ⟨h29, h⟩
          · injection h with h; subst h; exact rf Tryz.func125 rfl none [.skp, .skp, .cut [0, 1, 2, 6, 7, 8] [] .nor [(0, .v (.string a1)), (1, .j a2), (2, .j a3), (6, .z), (7, .v (.bool false)), (8, .j v8)] [], .dec false, .dec false, .sum [0, 1, 2, 6, 7, 8, 9, 10] [] (.exit 0) [(0, .v (.string a1)), (1, .j a2), (2, .j a3), (6, .z), (7, .v (.bool false)), (8, .j v8), (9, .j v20)] [], .cut [0, 1, 2, 6, 7, 8, 9] [] .nor [(0, .v (.string a1)), (1, .j a2), (2, .j a3), (6, .z), (7, .v (.bool false)), (9, .j v25)] [], .dec false, .dec true] (by kernel_rfl) (pc (k_palingref03_Read_J1 h9) <| pc (h11) <| pc (h12) <| pc (k_palingref03_Read_L2 _ _ h21) <| pc (k_palingref03_Read_J3 h26) <| pc (h28) <| pc (h29) <| pn)
          · obtain ⟨r30, h31, h⟩ := bind_out h
            rcases ite_out h with ⟨h32, h⟩ | ⟨h32, h⟩
            · injection h with h; subst h; exact rf Tryz.func125 rfl none [.skp, .skp, .cut [0, 1, 2, 6, 7, 8] [] .nor [(0, .v (.string a1)), (1, .j a2), (2, .j a3), (6, .z), (7, .v (.bool false)), (8, .j v8)] [], .dec false, .dec false, .sum [0, 1, 2, 6, 7, 8, 9, 10] [] (.exit 0) [(0, .v (.string a1)), (1, .j a2), (2, .j a3), (6, .z), (7, .v (.bool false)), (8, .j v8), (9, .j v20)] [], .cut [0, 1, 2, 6, 7, 8, 9] [] .nor [(0, .v (.string a1)), (1, .j a2), (2, .j a3), (6, .z), (7, .v (.bool false)), (9, .j v25)] [], .dec false, .dec false, .callv (.v (.string r30)), .dec true] (by kernel_rfl) (pc (k_palingref03_Read_J1 h9) <| pc (h11) <| pc (h12) <| pc (k_palingref03_Read_L2 _ _ h21) <| pc (k_palingref03_Read_J3 h26) <| pc (h28) <| pc (h29) <| pc (k_palingref03_Text h31) <| pc (h32) <| pn)
            · injection h with h; subst h; exact rf Tryz.func125 rfl none [.skp, .skp, .cut [0, 1, 2, 6, 7, 8] [] .nor [(0, .v (.string a1)), (1, .j a2), (2, .j a3), (6, .z), (7, .v (.bool false)), (8, .j v8)] [], .dec false, .dec false, .sum [0, 1, 2, 6, 7, 8, 9, 10] [] (.exit 0) [(0, .v (.string a1)), (1, .j a2), (2, .j a3), (6, .z), (7, .v (.bool false)), (8, .j v8), (9, .j v20)] [], .cut [0, 1, 2, 6, 7, 8, 9] [] .nor [(0, .v (.string a1)), (1, .j a2), (2, .j a3), (6, .z), (7, .v (.bool false)), (9, .j v25)] [], .dec false, .dec false, .callv (.v (.string r30)), .dec false] (by kernel_rfl) (pc (k_palingref03_Read_J1 h9) <| pc (h11) <| pc (h12) <| pc (k_palingref03_Read_L2 _ _ h21) <| pc (k_palingref03_Read_J3 h26) <| pc (h28) <| pc (h29) <| pc (k_palingref03_Text h31) <| pc (h32) <| pn)

theorem k_palingref01_Read_J2 {a1 : ByteArray} {v3 : Int} {v4 : Int} {r : Int} (h : palingref01_Read_J2 a1 v3 v4 = some r) :
    ExecOK Tryz.prog UU 0 56 (subC (codeOf Tryz.f126) [1, 1, 1, 0, 1, 0, 0, 1, 0, 0, 1, 0]) [(0, .v (.string a1)), (2, .v (.int .u64 0)), (3, .v (.bool false)), (4, .v (.int .u64 v3)), (5, .j v4), (6, .v (.int .u64 0))] [] ((fun r => match r with | v10 => .nor) r) ((fun r => match r with | v10 => [(0, .v (.string a1)), (2, .v (.int .u64 0)), (3, .v (.bool false)), (4, .v (.int .u64 v3)), (5, .j v4), (6, .v (.int .u64 v10))]) r) ((fun r => match r with | v10 => []) r) := by
  unfold palingref01_Read_J2 at h
  rcases ite_out h with ⟨h6, h⟩ | ⟨h6, h⟩
  · rcases ite_out h with ⟨h7, h⟩ | ⟨h7, h⟩
    · rcases ite_out h with ⟨h8, h⟩ | ⟨h8, h⟩
      · injection h with h; subst h; exact rl [0, 2, 3, 4, 5, 6] [] [.dec true, .dec true] (by kernel_rfl) (pc (of_decide_eq_true h6) <| pc (h7) <| pc (of_decide_eq_true h6) <| pc (h8) <| pc (of_decide_eq_true h6) <| pn)
      · injection h with h; subst h; exact rl [0, 2, 3, 4, 5, 6] [] [.dec true, .dec false] (by kernel_rfl) (pc (of_decide_eq_true h6) <| pc (h7) <| pc (of_decide_eq_true h6) <| pc (h8) <| pn)
    · injection h with h; subst h; exact rl [0, 2, 3, 4, 5, 6] [] [.dec false] (by kernel_rfl) (pc (of_decide_eq_true h6) <| pc (h7) <| pn)
  · cases h

theorem k_palingref01_Read_L1 {a1 : ByteArray} : LoopOK Tryz.prog UU 0 56 (subC (codeOf Tryz.f126) [1, 1, 1, 0, 1, 0, 0]) (fun s : Int × Int => match s with | (v3, v4) => palingref01_Read_L1 a1 v3 v4)
    (fun s : Int × Int => (match s with | (v3, v4) => [(0, .v (.string a1)), (2, .v (.int .u64 0)), (3, .v (.bool false)), (4, .v (.int .u64 v3)), (5, .j v4)] : Fr DD)) (fun s : Int × Int => (match s with | (v3, v4) => [] : Heap DD)) (fun r => match r with | v20 => .exit 0) (fun r => match r with | v20 => [(0, .v (.string a1)), (2, .v (.int .u64 0)), (3, .v (.bool false)), (4, .v (.int .u64 v20))]) (fun r => match r with | v20 => []) := by
  refine loop_sound3 (fun s q h => ?_) (fun r => ?_)
  · obtain ⟨v3, v4⟩ := s; replace h : palingref01_Read_L1 a1 v3 v4 = some q := h
    unfold palingref01_Read_L1 at h
    rcases ite_out h with ⟨h5, h⟩ | ⟨h5, h⟩
    · obtain ⟨v10, h11, h⟩ := bind_out h
      rcases ite_out h with ⟨h13, h⟩ | ⟨h13, h⟩
      · rcases ite_out h with ⟨h14, h⟩ | ⟨h14, h⟩
        · rcases ite_out h with ⟨h15, h⟩ | ⟨h15, h⟩
          · rcases ite_out h with ⟨h16, h⟩ | ⟨h16, h⟩
            · injection h with h; subst h; exact rl [0, 2, 3, 4, 5] [] [.dec true, .skp, .skp, .cut [0, 2, 3, 4, 5, 6] [] .nor [(0, .v (.string a1)), (2, .v (.int .u64 0)), (3, .v (.bool false)), (4, .v (.int .u64 v3)), (5, .j v4), (6, .v (.int .u64 v10))] [], .dec true, .dec true, .dec true] (by kernel_rfl) (pc (h5) <| pc (k_palingref01_Read_J2 h11) <| pc (of_decide_eq_true h13) <| pc (h14) <| pc (of_decide_eq_true h13) <| pc (h15) <| pc (of_decide_eq_true h13) <| pc ((show (3 : Int) ≠ 0 from by decide)) <| pc (h16) <| pn)
            · injection h with h; subst h; exact rl [0, 2, 3, 4, 5] [] [.dec true, .skp, .skp, .cut [0, 2, 3, 4, 5, 6] [] .nor [(0, .v (.string a1)), (2, .v (.int .u64 0)), (3, .v (.bool false)), (4, .v (.int .u64 v3)), (5, .j v4), (6, .v (.int .u64 v10))] [], .dec true, .dec true, .dec false] (by kernel_rfl) (pc (h5) <| pc (k_palingref01_Read_J2 h11) <| pc (of_decide_eq_true h13) <| pc (h14) <| pc (of_decide_eq_true h13) <| pc (h15) <| pc (of_decide_eq_true h13) <| pc ((show (3 : Int) ≠ 0 from by decide)) <| pc (h16) <| pn)
          · rcases ite_out h with ⟨h17, h⟩ | ⟨h17, h⟩
            · injection h with h; subst h; exact rl [0, 2, 3, 4, 5] [] [.dec true, .skp, .skp, .cut [0, 2, 3, 4, 5, 6] [] .nor [(0, .v (.string a1)), (2, .v (.int .u64 0)), (3, .v (.bool false)), (4, .v (.int .u64 v3)), (5, .j v4), (6, .v (.int .u64 v10))] [], .dec true, .dec false, .dec true] (by kernel_rfl) (pc (h5) <| pc (k_palingref01_Read_J2 h11) <| pc (of_decide_eq_true h13) <| pc (h14) <| pc (of_decide_eq_true h13) <| pc (h15) <| pc ((show (3 : Int) ≠ 0 from by decide)) <| pc (h17) <| pn)
            · injection h with h; subst h; exact rl [0, 2, 3, 4, 5] [] [.dec true, .skp, .skp, .cut [0, 2, 3, 4, 5, 6] [] .nor [(0, .v (.string a1)), (2, .v (.int .u64 0)), (3, .v (.bool false)), (4, .v (.int .u64 v3)), (5, .j v4), (6, .v (.int .u64 v10))] [], .dec true, .dec false, .dec false] (by kernel_rfl) (pc (h5) <| pc (k_palingref01_Read_J2 h11) <| pc (of_decide_eq_true h13) <| pc (h14) <| pc (of_decide_eq_true h13) <| pc (h15) <| pc ((show (3 : Int) ≠ 0 from by decide)) <| pc (h17) <| pn)
        · rcases ite_out h with ⟨h18, h⟩ | ⟨h18, h⟩
          · injection h with h; subst h; exact rl [0, 2, 3, 4, 5] [] [.dec true, .skp, .skp, .cut [0, 2, 3, 4, 5, 6] [] .nor [(0, .v (.string a1)), (2, .v (.int .u64 0)), (3, .v (.bool false)), (4, .v (.int .u64 v3)), (5, .j v4), (6, .v (.int .u64 v10))] [], .dec false, .dec true] (by kernel_rfl) (pc (h5) <| pc (k_palingref01_Read_J2 h11) <| pc (of_decide_eq_true h13) <| pc (h14) <| pc ((show (3 : Int) ≠ 0 from by decide)) <| pc (h18) <| pn)
          · injection h with h; subst h; exact rl [0, 2, 3, 4, 5] [] [.dec true, .skp, .skp, .cut [0, 2, 3, 4, 5, 6] [] .nor [(0, .v (.string a1)), (2, .v (.int .u64 0)), (3, .v (.bool false)), (4, .v (.int .u64 v3)), (5, .j v4), (6, .v (.int .u64 v10))] [], .dec false, .dec false] (by kernel_rfl) (pc (h5) <| pc (k_palingref01_Read_J2 h11) <| pc (of_decide_eq_true h13) <| pc (h14) <| pc ((show (3 : Int) ≠ 0 from by decide)) <| pc (h18) <| pn)
      · cases h
    · injection h with h; subst h; exact rl [0, 2, 3, 4] [] [.dec false] (by kernel_rfl) (pc (h5) <| pn)
  · exact Ex.noConfusion

theorem k_palingref01_Read {a1 : ByteArray} {r : Int × Bool} (h : palingref01_Read a1 = some r) :
    CallsOK Tryz.prog UU 126 [.v (.string a1)] [] (.tup [.v (.int .u64 r.1), .v (.bool r.2)]) [] := by
  unfold palingref01_Read at h
  rcases ite_out h with ⟨h2, h⟩ | ⟨h2, h⟩
  · injection h with h; subst h; exact rf Tryz.func126 rfl none [.dec true] (by kernel_rfl) (pc (h2) <| pn)
  · obtain ⟨v20, h21, h⟩ := bind_out h
    obtain ⟨r23, h24, h⟩ := bind_out h
    rcases ite_out h with ⟨h25, h⟩ | ⟨h25, h⟩
    · injection h with h; subst h; exact rf Tryz.func126 rfl none [.dec false, .sum [0, 2, 3, 4, 5] [] (.exit 0) [(0, .v (.string a1)), (2, .v (.int .u64 0)), (3, .v (.bool false)), (4, .v (.int .u64 v20))] [], .callv (.v (.string r23)), .dec true] (by kernel_rfl) (pc (h2) <| pc (k_palingref01_Read_L1 _ _ h21) <| pc (k_palingref01_Text h24) <| pc (h25) <| pn)
    · injection h with h; subst h; exact rf Tryz.func126 rfl none [.dec false, .sum [0, 2, 3, 4, 5] [] (.exit 0) [(0, .v (.string a1)), (2, .v (.int .u64 0)), (3, .v (.bool false)), (4, .v (.int .u64 v20))] [], .callv (.v (.string r23)), .dec false] (by kernel_rfl) (pc (h2) <| pc (k_palingref01_Read_L1 _ _ h21) <| pc (k_palingref01_Text h24) <| pc (h25) <| pn)

theorem k_palingref01_number_L1 {a1 : List Int} : LoopOK Tryz.prog UU 0 20 (subC (codeOf Tryz.f146) [1, 1, 0, 1, 0, 0]) (fun s : Int × Int => match s with | (v2, v3) => palingref01_number_L1 a1 v2 v3)
    (fun s : Int × Int => (match s with | (v2, v3) => [(0, .sl 5 a1), (2, .v (.int .u64 0)), (3, .v (.int .u64 v2)), (4, .j v3)] : Fr DD)) (fun s : Int × Int => (match s with | (v2, v3) => [] : Heap DD)) (fun r => match r with | v8 => .exit 0) (fun r => match r with | v8 => [(2, .v (.int .u64 0)), (3, .v (.int .u64 v8))]) (fun r => match r with | v8 => []) := by
  refine loop_sound3 (fun s q h => ?_) (fun r => ?_)
  · obtain ⟨v2, v3⟩ := s; replace h : palingref01_number_L1 a1 v2 v3 = some q := h
    unfold palingref01_number_L1 at h
    rcases ite_out h with ⟨h4, h⟩ | ⟨h4, h⟩
    · obtain ⟨x5, h6, h⟩ := bind_out h
      injection h with h; subst h; exact rl [0, 2, 3, 4] [] [.dec true, .row (c5 x5)] (by kernel_rfl) (pc (h4) <| pc (ob5 h6) <| pn)
    · injection h with h; subst h; exact rl [2, 3] [] [.dec false] (by kernel_rfl) (pc (h4) <| pn)
  · exact Ex.noConfusion

theorem k_palingref01_number {a1 : List Int} {r : Int} (h : palingref01_number a1 = some r) :
    CallsOK Tryz.prog UU 146 [.sl 5 a1] [] (.v (.int .u64 r)) [] := by
  unfold palingref01_number at h
  obtain ⟨v8, h9, h⟩ := bind_out h
  injection h with h; subst h; exact rf Tryz.func146 rfl none [.sum [0, 2, 3, 4] [] (.exit 0) [(2, .v (.int .u64 0)), (3, .v (.int .u64 v8))] []] (by kernel_rfl) (pc (k_palingref01_number_L1 _ _ h9) <| pn)

theorem k_palingref01_IsHost {a1 : Int} {r : Int × Bool} (h : palingref01_IsHost a1 = some r) :
    CallsOK Tryz.prog UU 139 [.v (.int .u64 a1)] [] (.tup [.v (.int .u32 r.1), .v (.bool r.2)]) [] := by
  unfold palingref01_IsHost at h
  obtain ⟨l4, h3, h⟩ := bind_out h
  rcases ite_out h with ⟨h5, h⟩ | ⟨h5, h⟩
  · obtain ⟨x6, h7, h⟩ := bind_out h
    rcases ite_out h with ⟨h8, h⟩ | ⟨h8, h⟩
    · injection h with h; subst h; exact rf Tryz.func139 rfl none [.callo (.os 0 l4.length) [.arr 5 l4 l4.length false], .row (c5 x6), .dec true] (by kernel_rfl) (pc (k_palingref01_Bytes h3) <| pc (im5 l4) <| pc (an l4.length (lin_ob h5)) <| pc (an l4.length (obn5 h7)) <| pc (h8) <| pn)
    · rcases ite_out h with ⟨h9, h⟩ | ⟨h9, h⟩
      · obtain ⟨x10, h11, h⟩ := bind_out h
        rcases ite_out h with ⟨h12, h⟩ | ⟨h12, h⟩
        · injection h with h; subst h; exact rf Tryz.func139 rfl none [.callo (.os 0 l4.length) [.arr 5 l4 l4.length false], .row (c5 x6), .dec false, .row (c5 x10), .dec true] (by kernel_rfl) (pc (k_palingref01_Bytes h3) <| pc (im5 l4) <| pc (an l4.length (lin_ob h5)) <| pc (an l4.length (obn5 h7)) <| pc (h8) <| pc (an l4.length (lin_ob h9)) <| pc (an l4.length (obn5 h11)) <| pc (h12) <| pn)
        · rcases ite_out h with ⟨h13, h⟩ | ⟨h13, h⟩
          · obtain ⟨r14, h15, h⟩ := bind_out h
            injection h with h; subst h; exact rf Tryz.func139 rfl none [.callo (.os 0 l4.length) [.arr 5 l4 l4.length false], .row (c5 x6), .dec false, .row (c5 x10), .dec false, .callv (.v (.int .u64 r14))] (by kernel_rfl) (pc (k_palingref01_Bytes h3) <| pc (im5 l4) <| pc (an l4.length (lin_ob h5)) <| pc (an l4.length (obn5 h7)) <| pc (h8) <| pc (an l4.length (lin_ob h9)) <| pc (an l4.length (obn5 h11)) <| pc (h12) <| pc ((rn l4.length)) <| pc (sl_ob h13) <| pc (k_palingref01_number h15) <| pc ((rn l4.length)) <| pn)
          · cases h
      · cases h
  · cases h

theorem k_palingref01_Group {a1 : Int} {r : Bool} (h : palingref01_Group a1 = some r) :
    CallsOK Tryz.prog UU 140 [.v (.int .u64 a1)] [] (.v (.bool r)) [] := by
  unfold palingref01_Group at h
  obtain ⟨l4, h3, h⟩ := bind_out h
  rcases ite_out h with ⟨h5, h⟩ | ⟨h5, h⟩
  · obtain ⟨x6, h7, h⟩ := bind_out h
    injection h with h; subst h; exact rf Tryz.func140 rfl none [.callo (.os 0 l4.length) [.arr 5 l4 l4.length false], .row (c5 x6)] (by kernel_rfl) (pc (k_palingref01_Bytes h3) <| pc (im5 l4) <| pc (an l4.length (lin_ob h5)) <| pc (an l4.length (obn5 h7)) <| pc ((show (2 : Int) ≠ 0 from by decide)) <| pn)
  · cases h

theorem k_palingref11_Station {a1 : Int} {r : Bool} (h : palingref11_Station a1 = some r) :
    CallsOK Tryz.prog UU 127 [.v (.int .u64 a1)] [] (.v (.bool r)) [] := by
  unfold palingref11_Station at h
  obtain ⟨r2, h3, h⟩ := bind_out h
  rcases ite_out h with ⟨h4, h⟩ | ⟨h4, h⟩
  · rcases ite_out h with ⟨h5, h⟩ | ⟨h5, h⟩
    · obtain ⟨r6, h7, h⟩ := bind_out h
      injection h with h; subst h; exact rf Tryz.func127 rfl none [.callv (.tup [.v (.int .u32 r2.1), .v (.bool r2.2)]), .dec true, .dec true, .callv (.v (.bool r6))] (by kernel_rfl) (pc (k_palingref01_IsHost h3) <| pc (h4) <| pc (h5) <| pc (k_palingref01_Group h7) <| pn)
    · injection h with h; subst h; exact rf Tryz.func127 rfl none [.callv (.tup [.v (.int .u32 r2.1), .v (.bool r2.2)]), .dec true, .dec false] (by kernel_rfl) (pc (k_palingref01_IsHost h3) <| pc (h4) <| pc (h5) <| pn)
  · injection h with h; subst h; exact rf Tryz.func127 rfl none [.callv (.tup [.v (.int .u32 r2.1), .v (.bool r2.2)]), .dec false] (by kernel_rfl) (pc (k_palingref01_IsHost h3) <| pc (h4) <| pn)

theorem k_palingref03_Split_L1 {a1 : ByteArray} : LoopOK Tryz.prog UU 0 37 (subC (codeOf Tryz.f143) [1, 1, 0, 1, 0, 0]) (fun s : (List ByteArray) × Nat × Int => match s with | (l2, n3, v4) => palingref03_Split_L1 a1 l2 n3 v4)
    (fun s : (List ByteArray) × Nat × Int => (match s with | (l2, n3, v4) => [(0, .v (.string a1)), (2, .os 0 0), (3, .os 1 n3), (4, .j v4)] : Fr DD)) (fun s : (List ByteArray) × Nat × Int => (match s with | (l2, n3, v4) => [.n 9, .arr 9 l2 n3 false] : Heap DD)) (fun r => match r with | (l20, n21) => .exit 0) (fun r => match r with | (l20, n21) => [(2, .os 0 0), (3, .os 1 n21)]) (fun r => match r with | (l20, n21) => [.n 9, .arr 9 l20 n21 false]) := by
  refine loop_sound3 (fun s q h => ?_) (fun r => ?_)
  · obtain ⟨l2, n3, v4⟩ := s; replace h : palingref03_Split_L1 a1 l2 n3 v4 = some q := h
    unfold palingref03_Split_L1 at h
    rcases ite_out h with ⟨h5, h⟩ | ⟨h5, h⟩
    · rcases ite_out h with ⟨h6, h⟩ | ⟨h6, h⟩
      · rcases ite_out h with ⟨h7, h⟩ | ⟨h7, h⟩
        · rcases ite_out h with ⟨h8, h⟩ | ⟨h8, h⟩
          · injection h with h; subst h; exact rl [0, 2, 3, 4] [0, 1] [.dec true, .dec true, .obj [] (.arr 9 [(⟨#[]⟩ : ByteArray)] (List.length [(⟨#[]⟩ : ByteArray)]) false), .obj [] (.arr 9 (l2 ++ [(⟨#[]⟩ : ByteArray)]) (List.length (l2 ++ [(⟨#[]⟩ : ByteArray)])) false)] (by kernel_rfl) (pc (h5) <| pc (of_decide_eq_true h6) <| pc (h7) <| pc (bs_ob 9 [(⟨#[]⟩ : ByteArray)]) <| pc (app_ob 9 (n := n3) (l := l2) (xs := [(⟨#[]⟩ : ByteArray)]) h8) <| pc ((rn (List.length [(⟨#[]⟩ : ByteArray)]))) <| pn)
          · cases h
        · rcases ite_out h with ⟨h9, h⟩ | ⟨h9, h⟩
          · obtain ⟨x10, h11, h⟩ := bind_out h
            rcases ite_out h with ⟨h12, h⟩ | ⟨h12, h⟩
            · rcases ite_out h with ⟨h13, h⟩ | ⟨h13, h⟩
              · obtain ⟨x14, h15, h⟩ := bind_out h
                injection h with h; subst h; exact rl [0, 2, 3, 4] [0, 1] [.dec true, .dec false, .row (c9 x10), .row (c9 x14), .obj [] (.arr 9 (List.set l2 (Int.toNat (wr_i64 ((n3 : Int) - 1))) (x10 ++ (ByteArray.extract a1 v4.toNat (Int.toNat (wr_i64 (v4 + 1)))))) n3 false)] (by kernel_rfl) (pc (h5) <| pc (of_decide_eq_true h6) <| pc (h7) <| pc ((rn n3)) <| pc ((rn n3)) <| pc (an n3 (lin_ob h9)) <| pc (an n3 (obn9 h11)) <| pc (sl_ob h12) <| pc (of_decide_eq_true h13) <| pc (an n3 (lin_ob h9)) <| pc (st_ob (e := 9) (n := n3) (l := l2) (i := (Int.toNat (wr_i64 ((n3 : Int) - 1)))) (x10 ++ (ByteArray.extract a1 v4.toNat (Int.toNat (wr_i64 (v4 + 1))))) [.v (.string (x10 ++ (ByteArray.extract a1 v4.toNat (Int.toNat (wr_i64 (v4 + 1))))))] (obn9 h15) rfl) <| pn)
              · cases h
            · cases h
          · cases h
      · cases h
    · injection h with h; subst h; exact rl [2, 3] [0, 1] [.dec false] (by kernel_rfl) (pc (h5) <| pn)
  · exact Ex.noConfusion

theorem k_palingref03_Split {a1 : ByteArray} {r : ((List ByteArray) × Nat)} (h : palingref03_Split a1 = some r) :
    CallsOK Tryz.prog UU 143 [.v (.string a1)] [] ((fun r => match r with | (l24, n25) => .os 0 n25) r) ((fun r => match r with | (l24, n25) => [.arr 9 l24 n25 false]) r) := by
  unfold palingref03_Split at h
  obtain ⟨r23, h22, h⟩ := bind_out h
  obtain ⟨l20, n21⟩ := r23
  injection h with h; subst h; exact rf Tryz.func143 rfl (some [1]) [.obj [] (.arr 9 [(⟨#[]⟩ : ByteArray)] (List.length [(⟨#[]⟩ : ByteArray)]) false), .sum [0, 2, 3, 4] [0, 1] (.exit 0) [(2, .os 0 0), (3, .os 1 n21)] [.n 9, .arr 9 l20 n21 false]] (by kernel_rfl) (pc (bs_ob 9 [(⟨#[]⟩ : ByteArray)]) <| pc (k_palingref03_Split_L1 _ _ h22) <| pn)

theorem k_palingref03_Rising_L1 {a1 : List Int} {a2 : Int} {a3 : Int} : LoopOK Tryz.prog UU 0 52 (subC (codeOf Tryz.f138) [1, 1, 0, 1, 0, 0]) (ρ := Unit ⊕ Unit) (palingref03_Rising_L1 a1 a2 a3)
    (fun v6 : Int => ([(0, .sl 3 a1), (1, .j a2), (2, .j a3), (6, .v (.bool false)), (7, .j v6)] : Fr DD)) (fun v6 : Int => ([] : Heap DD)) (fun r => match r with | Sum.inl _ => .ret | Sum.inr _ => .exit 0) (fun r => match r with | Sum.inl _ => [(6, .v (.bool false))] | Sum.inr _ => [(6, .v (.bool false))]) (fun r => match r with | Sum.inl _ => [] | Sum.inr _ => []) := by
  refine loop_sound3 (fun s q h => ?_) (fun r => ?_)
  · replace h : palingref03_Rising_L1 a1 a2 a3 s = some q := h; revert h; revert s; intro v6 h
    unfold palingref03_Rising_L1 at h
    rcases ite_out h with ⟨h7, h⟩ | ⟨h7, h⟩
    · obtain ⟨x8, h9, h⟩ := bind_out h
      rcases ite_out h with ⟨h10, h⟩ | ⟨h10, h⟩
      · injection h with h; subst h; exact rl [6] [] [.dec true, .row (c3 x8), .dec true] (by kernel_rfl) (pc (h7) <| pc (ob3 h9) <| pc (h10) <| pn)
      · obtain ⟨x11, h12, h⟩ := bind_out h
        rcases ite_out h with ⟨h13, h⟩ | ⟨h13, h⟩
        · injection h with h; subst h; exact rl [6] [] [.dec true, .row (c3 x8), .dec false, .row (c3 x11), .dec true] (by kernel_rfl) (pc (h7) <| pc (ob3 h9) <| pc (h10) <| pc (ob3 h12) <| pc (h13) <| pn)
        · rcases ite_out h with ⟨h14, h⟩ | ⟨h14, h⟩
          · obtain ⟨x15, h16, h⟩ := bind_out h
            obtain ⟨x17, h18, h⟩ := bind_out h
            rcases ite_out h with ⟨h19, h⟩ | ⟨h19, h⟩
            · injection h with h; subst h; exact rl [6] [] [.dec true, .row (c3 x8), .dec false, .row (c3 x11), .dec false, .dec true, .row (c3 x15), .row (c3 x17), .dec true] (by kernel_rfl) (pc (h7) <| pc (ob3 h9) <| pc (h10) <| pc (ob3 h12) <| pc (h13) <| pc (h14) <| pc (ob3 h16) <| pc (ob3 h18) <| pc (h19) <| pn)
            · injection h with h; subst h; exact rl [0, 1, 2, 6, 7] [] [.dec true, .row (c3 x8), .dec false, .row (c3 x11), .dec false, .dec true, .row (c3 x15), .row (c3 x17), .dec false] (by kernel_rfl) (pc (h7) <| pc (ob3 h9) <| pc (h10) <| pc (ob3 h12) <| pc (h13) <| pc (h14) <| pc (ob3 h16) <| pc (ob3 h18) <| pc (h19) <| pn)
          · injection h with h; subst h; exact rl [0, 1, 2, 6, 7] [] [.dec true, .row (c3 x8), .dec false, .row (c3 x11), .dec false, .dec false] (by kernel_rfl) (pc (h7) <| pc (ob3 h9) <| pc (h10) <| pc (ob3 h12) <| pc (h13) <| pc (h14) <| pn)
    · injection h with h; subst h; exact rl [6] [] [.dec false] (by kernel_rfl) (pc (h7) <| pn)
  · rcases r with _ | _ <;> exact Ex.noConfusion

theorem k_palingref03_Rising {a1 : List Int} {a2 : Int} {a3 : Int} {r : Bool} (h : palingref03_Rising a1 a2 a3 = some r) :
    CallsOK Tryz.prog UU 138 [.sl 3 a1, .j a2, .j a3] [] (.v (.bool r)) [] := by
  unfold palingref03_Rising at h
  rcases ite_out h with ⟨h4, h⟩ | ⟨h4, h⟩
  · injection h with h; subst h; exact rf Tryz.func138 rfl none [.dec true] (by kernel_rfl) (pc (h4) <| pn)
  · rcases ite_out h with ⟨h5, h⟩ | ⟨h5, h⟩
    · injection h with h; subst h; exact rf Tryz.func138 rfl none [.dec false, .dec true] (by kernel_rfl) (pc (h4) <| pc (h5) <| pn)
    · obtain ⟨r21, h20, h⟩ := bind_out h
      rcases r21 with _ | _
      · injection h with h; subst h; exact rf Tryz.func138 rfl none [.dec false, .dec false, .sum [0, 1, 2, 6, 7] [] .ret [(6, .v (.bool false))] []] (by kernel_rfl) (pc (h4) <| pc (h5) <| pc (k_palingref03_Rising_L1 _ _ h20) <| pn)
      · injection h with h; subst h; exact rf Tryz.func138 rfl none [.dec false, .dec false, .sum [0, 1, 2, 6, 7] [] (.exit 0) [(6, .v (.bool false))] []] (by kernel_rfl) (pc (h4) <| pc (h5) <| pc (k_palingref03_Rising_L1 _ _ h20) <| pn)

theorem k_palingref03_ReadList_L1 {a2 : Int} {a3 : Int} {l6 : List ByteArray} {n7 : Nat} : LoopOK Tryz.prog UU 0 43 (subC (codeOf Tryz.f141) [1, 1, 1, 0, 1, 0, 0]) (fun s : (List Int) × Int => match s with | (l8, v9) => palingref03_ReadList_L1 a2 a3 l6 n7 l8 v9)
    (fun s : (List Int) × Int => (match s with | (l8, v9) => [(1, .j a2), (2, .j a3), (6, .os 0 0), (7, .v (.bool false)), (8, .os 1 n7), (9, .os 2 l8.length), (10, .j v9)] : Fr DD)) (fun s : (List Int) × Int => (match s with | (l8, v9) => [.n 3, .arr 9 l6 n7 false, .arr 3 l8 l8.length false] : Heap DD)) (fun r => match r with | Sum.inl _ => .ret | Sum.inr l23 => .exit 0) (fun r => match r with | Sum.inl _ => [(6, .os 0 0), (7, .v (.bool false))] | Sum.inr l23 => [(1, .j a2), (2, .j a3), (6, .os 0 0), (7, .v (.bool false)), (9, .os 1 l23.length)]) (fun r => match r with | Sum.inl _ => [.n 3] | Sum.inr l23 => [.n 3, .arr 3 l23 l23.length false]) := by
  refine loop_sound3 (fun s q h => ?_) (fun r => ?_)
  · obtain ⟨l8, v9⟩ := s; replace h : palingref03_ReadList_L1 a2 a3 l6 n7 l8 v9 = some q := h
    unfold palingref03_ReadList_L1 at h
    rcases ite_out h with ⟨h10, h⟩ | ⟨h10, h⟩
    · rcases ite_out h with ⟨h11, h⟩ | ⟨h11, h⟩
      · obtain ⟨x12, h13, h⟩ := bind_out h
        obtain ⟨r14, h15, h⟩ := bind_out h
        rcases ite_out h with ⟨h16, h⟩ | ⟨h16, h⟩
        · injection h with h; subst h; exact rl [6, 7] [3] [.dec true, .row (c9 x12), .callv (.tup [.v (.int .i64 r14.1), .v (.bool r14.2)]), .dec true] (by kernel_rfl) (pc ((rn n7)) <| pc (h10) <| pc (an n7 (lin_ob h11)) <| pc (an n7 (obn9 h13)) <| pc (k_palingref03_Read h15) <| pc (h16) <| pn)
        · rcases ite_out h with ⟨h17, h⟩ | ⟨h17, h⟩
          · injection h with h; subst h; exact rl [1, 2, 6, 7, 8, 9, 10] [0, 1, 2] [.dec true, .row (c9 x12), .callv (.tup [.v (.int .i64 r14.1), .v (.bool r14.2)]), .dec false, .obj [] (.arr 3 [r14.1] (List.length [r14.1]) false), .obj [] (.arr 3 (l8 ++ [r14.1]) (List.length (l8 ++ [r14.1])) false)] (by kernel_rfl) (pc ((rn n7)) <| pc (h10) <| pc (an n7 (lin_ob h11)) <| pc (an n7 (obn9 h13)) <| pc (k_palingref03_Read h15) <| pc (h16) <| pc (bs_ob 3 [r14.1]) <| pc (app_ob 3 (n := l8.length) (l := l8) (xs := [r14.1]) h17) <| pc ((rn (List.length [r14.1]))) <| pn)
          · cases h
      · cases h
    · injection h with h; subst h; exact rl [1, 2, 6, 7, 9] [0, 2] [.dec false] (by kernel_rfl) (pc ((rn n7)) <| pc (h10) <| pn)
  · rcases r with _ | _ <;> exact Ex.noConfusion

theorem k_palingref03_ReadList {a1 : ByteArray} {a2 : Int} {a3 : Int} {r : ((List Int) × Bool)} (h : palingref03_ReadList a1 a2 a3 = some r) :
    CallsOK Tryz.prog UU 141 [.v (.string a1), .j a2, .j a3] [] ((fun r => match r with | (l29, v30) => .tup [.os 0 l29.length, .v (.bool v30)]) r) ((fun r => match r with | (l29, v30) => [.arr 3 l29 l29.length false]) r) := by
  unfold palingref03_ReadList at h
  obtain ⟨r4, h5, h⟩ := bind_out h
  obtain ⟨l6, n7⟩ := r4
  obtain ⟨r25, h24, h⟩ := bind_out h
  rcases r25 with _ | l23
  · injection h with h; subst h; exact rf Tryz.func141 rfl (some [0]) [.callo (.os 0 n7) [.arr 9 l6 n7 false], .sum [1, 2, 6, 7, 8, 9, 10] [0, 1, 2] .ret [(6, .os 0 0), (7, .v (.bool false))] [.n 3]] (by kernel_rfl) (pc (k_palingref03_Split h5) <| pc (im9 l6) <| pc (k_palingref03_ReadList_L1 _ _ h24) <| pn)
  · obtain ⟨r26, h27, h⟩ := bind_out h
    rcases ite_out h with ⟨h28, h⟩ | ⟨h28, h⟩
    · injection h with h; subst h; exact rf Tryz.func141 rfl (some [2]) [.callo (.os 0 n7) [.arr 9 l6 n7 false], .sum [1, 2, 6, 7, 8, 9, 10] [0, 1, 2] (.exit 0) [(1, .j a2), (2, .j a3), (6, .os 0 0), (7, .v (.bool false)), (9, .os 1 l23.length)] [.n 3, .arr 3 l23 l23.length false], .callv (.v (.bool r26)), .dec true] (by kernel_rfl) (pc (k_palingref03_Split h5) <| pc (im9 l6) <| pc (k_palingref03_ReadList_L1 _ _ h24) <| pc (k_palingref03_Rising h27) <| pc ((rn l23.length)) <| pc (h28) <| pn)
    · injection h with h; subst h; exact rf Tryz.func141 rfl (some [1]) [.callo (.os 0 n7) [.arr 9 l6 n7 false], .sum [1, 2, 6, 7, 8, 9, 10] [0, 1, 2] (.exit 0) [(1, .j a2), (2, .j a3), (6, .os 0 0), (7, .v (.bool false)), (9, .os 1 l23.length)] [.n 3, .arr 3 l23 l23.length false], .callv (.v (.bool r26)), .dec false] (by kernel_rfl) (pc (k_palingref03_Split h5) <| pc (im9 l6) <| pc (k_palingref03_ReadList_L1 _ _ h24) <| pc (k_palingref03_Rising h27) <| pc ((rn l23.length)) <| pc (h28) <| pn)

theorem k_palingref11_list {a1 : ByteArray} {a2 : Int} {r : ((List Int) × Bool)} (h : palingref11_list a1 a2 = some r) :
    CallsOK Tryz.prog UU 128 [.v (.string a1), .j a2] [] ((fun r => match r with | (l8, v9) => .tup [.os 0 l8.length, .v (.bool v9)]) r) ((fun r => match r with | (l8, v9) => [.arr 3 l8 l8.length false]) r) := by
  unfold palingref11_list at h
  rcases ite_out h with ⟨h3, h⟩ | ⟨h3, h⟩
  · injection h with h; subst h; exact rf Tryz.func128 rfl (some [1]) [.dec true] (by kernel_rfl) (pc (h3) <| pn)
  · obtain ⟨r4, h5, h⟩ := bind_out h
    obtain ⟨l6, v7⟩ := r4
    injection h with h; subst h; exact rf Tryz.func128 rfl (some [1]) [.dec false, .callo (.tup [.os 0 l6.length, .v (.bool v7)]) [.arr 3 l6 l6.length false]] (by kernel_rfl) (pc (h3) <| pc (k_palingref03_ReadList h5) <| pc (im3 l6) <| pn)

theorem k_palingref02_digits_L1 {a1 : ByteArray} : LoopOK Tryz.prog UU 0 42 (subC (codeOf Tryz.f142) [1, 1, 1, 0, 1, 0, 0]) (fun s : Int × Int => match s with | (v4, v5) => palingref02_digits_L1 a1 v4 v5)
    (fun s : Int × Int => (match s with | (v4, v5) => [(0, .v (.string a1)), (2, .z), (3, .j v4), (4, .j v5)] : Fr DD)) (fun s : Int × Int => (match s with | (v4, v5) => [] : Heap DD)) (fun r => match r with | Sum.inl _ => .ret | Sum.inr v11 => .exit 0) (fun r => match r with | Sum.inl _ => [(2, .j 1000)] | Sum.inr v11 => [(0, .v (.string a1)), (2, .z), (3, .j v11)]) (fun r => match r with | Sum.inl _ => [] | Sum.inr v11 => []) := by
  refine loop_sound3 (fun s q h => ?_) (fun r => ?_)
  · obtain ⟨v4, v5⟩ := s; replace h : palingref02_digits_L1 a1 v4 v5 = some q := h
    unfold palingref02_digits_L1 at h
    rcases ite_out h with ⟨h6, h⟩ | ⟨h6, h⟩
    · rcases ite_out h with ⟨h7, h⟩ | ⟨h7, h⟩
      · rcases ite_out h with ⟨h8, h⟩ | ⟨h8, h⟩
        · injection h with h; subst h; exact rl [2] [] [.dec true, .dec true] (by kernel_rfl) (pc (h6) <| pc (of_decide_eq_true h7) <| pc (h8) <| pn)
        · rcases ite_out h with ⟨h9, h⟩ | ⟨h9, h⟩
          · injection h with h; subst h; exact rl [2] [] [.dec true, .dec false, .dec true] (by kernel_rfl) (pc (h6) <| pc (of_decide_eq_true h7) <| pc (h8) <| pc (of_decide_eq_true h7) <| pc (h9) <| pn)
          · injection h with h; subst h; exact rl [0, 2, 3, 4] [] [.dec true, .dec false, .dec false] (by kernel_rfl) (pc (h6) <| pc (of_decide_eq_true h7) <| pc (h8) <| pc (of_decide_eq_true h7) <| pc (h9) <| pc (of_decide_eq_true h7) <| pn)
      · cases h
    · injection h with h; subst h; exact rl [0, 2, 3] [] [.dec false] (by kernel_rfl) (pc (h6) <| pn)
  · rcases r with _ | _ <;> exact Ex.noConfusion

theorem k_palingref02_digits {a1 : ByteArray} {r : Int} (h : palingref02_digits a1 = some r) :
    CallsOK Tryz.prog UU 142 [.v (.string a1)] [] (.j r) [] := by
  unfold palingref02_digits at h
  rcases ite_out h with ⟨h2, h⟩ | ⟨h2, h⟩
  · injection h with h; subst h; exact rf Tryz.func142 rfl none [.dec true] (by kernel_rfl) (pc (h2) <| pn)
  · rcases ite_out h with ⟨h3, h⟩ | ⟨h3, h⟩
    · injection h with h; subst h; exact rf Tryz.func142 rfl none [.dec false, .dec true] (by kernel_rfl) (pc (h2) <| pc (h3) <| pn)
    · obtain ⟨r13, h12, h⟩ := bind_out h
      rcases r13 with _ | v11
      · injection h with h; subst h; exact rf Tryz.func142 rfl none [.dec false, .dec false, .sum [0, 2, 3, 4] [] .ret [(2, .j 1000)] []] (by kernel_rfl) (pc (h2) <| pc (h3) <| pc (k_palingref02_digits_L1 _ _ h12) <| pn)
      · obtain ⟨r14, h15, h⟩ := bind_out h
        rcases ite_out h with ⟨h16, h⟩ | ⟨h16, h⟩
        · injection h with h; subst h; exact rf Tryz.func142 rfl none [.dec false, .dec false, .sum [0, 2, 3, 4] [] (.exit 0) [(0, .v (.string a1)), (2, .z), (3, .j v11)] [], .callv (.v (.string r14)), .dec true] (by kernel_rfl) (pc (h2) <| pc (h3) <| pc (k_palingref02_digits_L1 _ _ h12) <| pc (k_palingref02_number h15) <| pc (h16) <| pn)
        · injection h with h; subst h; exact rf Tryz.func142 rfl none [.dec false, .dec false, .sum [0, 2, 3, 4] [] (.exit 0) [(0, .v (.string a1)), (2, .z), (3, .j v11)] [], .callv (.v (.string r14)), .dec false] (by kernel_rfl) (pc (h2) <| pc (h3) <| pc (k_palingref02_digits_L1 _ _ h12) <| pc (k_palingref02_number h15) <| pc (h16) <| pn)

theorem k_palingref02_Read_J2 {a1 : ByteArray} {v2 : Int} {v3 : Int} {v4 : ByteArray} {v5 : Int} {r : Bool} (h : palingref02_Read_J2 a1 v2 v3 v4 v5 = some r) :
    ExecOK Tryz.prog UU 0 52 (subC (codeOf Tryz.f129) [1, 1, 1, 1, 0, 1, 0, 0, 1, 0, 0, 0, 0]) [(0, .v (.string a1)), (2, .v (.int .u32 0)), (3, .v (.bool false)), (4, .j v2), (5, .j v3), (6, .v (.string v4)), (7, .j v5)] [] ((fun r => match r with | v10 => .nor) r) ((fun r => match r with | v10 => [(0, .v (.string a1)), (2, .v (.int .u32 0)), (3, .v (.bool false)), (4, .j v2), (5, .j v3), (6, .v (.string v4)), (7, .j v5), (23, .v (.bool v10))]) r) ((fun r => match r with | v10 => []) r) := by
  unfold palingref02_Read_J2 at h
  rcases ite_out h with ⟨h7, h⟩ | ⟨h7, h⟩
  · rcases ite_out h with ⟨h8, h⟩ | ⟨h8, h⟩
    · injection h with h; subst h; exact rl [0, 2, 3, 4, 5, 6, 7, 23] [] [.dec true] (by kernel_rfl) (pc (h7) <| pc (of_decide_eq_true h8) <| pn)
    · cases h
  · injection h with h; subst h; exact rl [0, 2, 3, 4, 5, 6, 7, 23] [] [.dec false] (by kernel_rfl) (pc (h7) <| pn)

theorem k_palingref02_Read_L1 {a1 : ByteArray} : LoopOK Tryz.prog UU 0 52 (subC (codeOf Tryz.f129) [1, 1, 1, 1, 0, 1, 0, 0]) (fun s : Int × Int × ByteArray × Int => match s with | (v2, v3, v4, v5) => palingref02_Read_L1 a1 v2 v3 v4 v5)
    (fun s : Int × Int × ByteArray × Int => (match s with | (v2, v3, v4, v5) => [(0, .v (.string a1)), (2, .v (.int .u32 0)), (3, .v (.bool false)), (4, .j v2), (5, .j v3), (6, .v (.string v4)), (7, .j v5)] : Fr DD)) (fun s : Int × Int × ByteArray × Int => (match s with | (v2, v3, v4, v5) => [] : Heap DD)) (fun r => match r with | Sum.inl _ => .ret | Sum.inr (v25, v26) => .exit 0) (fun r => match r with | Sum.inl _ => [(2, .v (.int .u32 0)), (3, .v (.bool false))] | Sum.inr (v25, v26) => [(2, .v (.int .u32 0)), (3, .v (.bool false)), (4, .j v25), (5, .j v26)]) (fun r => match r with | Sum.inl _ => [] | Sum.inr (v25, v26) => []) := by
  refine loop_sound3 (fun s q h => ?_) (fun r => ?_)
  · obtain ⟨v2, v3, v4, v5⟩ := s; replace h : palingref02_Read_L1 a1 v2 v3 v4 v5 = some q := h
    unfold palingref02_Read_L1 at h
    rcases ite_out h with ⟨h6, h⟩ | ⟨h6, h⟩
    · obtain ⟨v10, h11, h⟩ := bind_out h
      rcases ite_out h with ⟨h13, h⟩ | ⟨h13, h⟩
      · rcases ite_out h with ⟨h14, h⟩ | ⟨h14, h⟩
        · rcases ite_out h with ⟨h15, h⟩ | ⟨h15, h⟩
          · rcases ite_out h with ⟨h16, h⟩ | ⟨h16, h⟩
            · injection h with h; subst h; exact rl [2, 3] [] [.dec true, .skp, .skp, .cut [0, 2, 3, 4, 5, 6, 7] [] .nor [(0, .v (.string a1)), (2, .v (.int .u32 0)), (3, .v (.bool false)), (4, .j v2), (5, .j v3), (6, .v (.string v4)), (7, .j v5), (23, .v (.bool v10))] [], .dec true, .dec true] (by kernel_rfl) (pc (h6) <| pc (k_palingref02_Read_J2 h11) <| pc (h13) <| pc (sl_ob h14) <| pc (of_decide_eq_true h15) <| pc (h16) <| pn)
            · injection h with h; subst h; exact rl [0, 2, 3, 4, 5, 6, 7] [] [.dec true, .skp, .skp, .cut [0, 2, 3, 4, 5, 6, 7] [] .nor [(0, .v (.string a1)), (2, .v (.int .u32 0)), (3, .v (.bool false)), (4, .j v2), (5, .j v3), (6, .v (.string v4)), (7, .j v5), (23, .v (.bool v10))] [], .dec true, .dec false] (by kernel_rfl) (pc (h6) <| pc (k_palingref02_Read_J2 h11) <| pc (h13) <| pc (sl_ob h14) <| pc (of_decide_eq_true h15) <| pc (h16) <| pn)
          · cases h
        · cases h
      · obtain ⟨r17, h18, h⟩ := bind_out h
        rcases ite_out h with ⟨h19, h⟩ | ⟨h19, h⟩
        · injection h with h; subst h; exact rl [2, 3] [] [.dec true, .skp, .skp, .cut [0, 2, 3, 4, 5, 6, 7] [] .nor [(0, .v (.string a1)), (2, .v (.int .u32 0)), (3, .v (.bool false)), (4, .j v2), (5, .j v3), (6, .v (.string v4)), (7, .j v5), (23, .v (.bool v10))] [], .dec false, .callv (.j r17), .dec true] (by kernel_rfl) (pc (h6) <| pc (k_palingref02_Read_J2 h11) <| pc (h13) <| pc (k_palingref02_digits h18) <| pc (h19) <| pn)
        · rcases ite_out h with ⟨h20, h⟩ | ⟨h20, h⟩
          · injection h with h; subst h; exact rl [2, 3] [] [.dec true, .skp, .skp, .cut [0, 2, 3, 4, 5, 6, 7] [] .nor [(0, .v (.string a1)), (2, .v (.int .u32 0)), (3, .v (.bool false)), (4, .j v2), (5, .j v3), (6, .v (.string v4)), (7, .j v5), (23, .v (.bool v10))] [], .dec false, .callv (.j r17), .dec false, .dec true] (by kernel_rfl) (pc (h6) <| pc (k_palingref02_Read_J2 h11) <| pc (h13) <| pc (k_palingref02_digits h18) <| pc (h19) <| pc (h20) <| pn)
          · obtain ⟨r21, h22, h⟩ := bind_out h
            injection h with h; subst h; exact rl [0, 2, 3, 4, 5, 6, 7] [] [.dec true, .skp, .skp, .cut [0, 2, 3, 4, 5, 6, 7] [] .nor [(0, .v (.string a1)), (2, .v (.int .u32 0)), (3, .v (.bool false)), (4, .j v2), (5, .j v3), (6, .v (.string v4)), (7, .j v5), (23, .v (.bool v10))] [], .dec false, .callv (.j r17), .dec false, .dec false, .callv (.j r21)] (by kernel_rfl) (pc (h6) <| pc (k_palingref02_Read_J2 h11) <| pc (h13) <| pc (k_palingref02_digits h18) <| pc (h19) <| pc (h20) <| pc (k_palingref02_digits h22) <| pn)
    · injection h with h; subst h; exact rl [2, 3, 4, 5] [] [.dec false] (by kernel_rfl) (pc (h6) <| pn)
  · rcases r with _ | _ <;> exact Ex.noConfusion

theorem k_palingref02_Read {a1 : ByteArray} {r : Int × Bool} (h : palingref02_Read a1 = some r) :
    CallsOK Tryz.prog UU 129 [.v (.string a1)] [] (.tup [.v (.int .u32 r.1), .v (.bool r.2)]) [] := by
  unfold palingref02_Read at h
  obtain ⟨r28, h27, h⟩ := bind_out h
  rcases r28 with _ | ⟨v25, v26⟩
  · injection h with h; subst h; exact rf Tryz.func129 rfl none [.sum [0, 2, 3, 4, 5, 6, 7] [] .ret [(2, .v (.int .u32 0)), (3, .v (.bool false))] []] (by kernel_rfl) (pc (k_palingref02_Read_L1 _ _ h27) <| pn)
  · rcases ite_out h with ⟨h29, h⟩ | ⟨h29, h⟩
    · injection h with h; subst h; exact rf Tryz.func129 rfl none [.sum [0, 2, 3, 4, 5, 6, 7] [] (.exit 0) [(2, .v (.int .u32 0)), (3, .v (.bool false)), (4, .j v25), (5, .j v26)] [], .dec true] (by kernel_rfl) (pc (k_palingref02_Read_L1 _ _ h27) <| pc (h29) <| pn)
    · injection h with h; subst h; exact rf Tryz.func129 rfl none [.sum [0, 2, 3, 4, 5, 6, 7] [] (.exit 0) [(2, .v (.int .u32 0)), (3, .v (.bool false)), (4, .j v25), (5, .j v26)] [], .dec false] (by kernel_rfl) (pc (k_palingref02_Read_L1 _ _ h27) <| pc (h29) <| pn)

end Go.Eng
