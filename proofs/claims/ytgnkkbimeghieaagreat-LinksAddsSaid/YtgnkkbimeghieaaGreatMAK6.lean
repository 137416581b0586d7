/- Part of the proof of LinksAdds: printed mirrors of the functions, or their contracts. No conditions. -/
import Derived.Test.YtgnkkbimeghieaaGreatMAK5
set_option linter.unusedVariables false
set_option maxRecDepth 100000
namespace Go.Eng
open Go Go.Proofs
theorem k_palingref03_ReadAddrs_L1 {l4 : List ByteArray} {n5 : Nat} : LoopOK Tryz.prog UU 0 49 (subC (codeOf Tryz.f130) [1, 1, 1, 0, 1, 0, 0]) (fun s : (List Int) × Int => match s with | (l6, v7) => palingref03_ReadAddrs_L1 l4 n5 l6 v7)
    (fun s : (List Int) × Int => (match s with | (l6, v7) => [(2, .os 0 0), (3, .v (.bool false)), (4, .os 1 n5), (5, .os 2 l6.length), (6, .j v7)] : Fr DD)) (fun s : (List Int) × Int => (match s with | (l6, v7) => [.n 33, .arr 9 l4 n5 false, .arr 33 l6 l6.length false] : Heap DD)) (fun r => match r with | Sum.inl _ => .ret | Sum.inr l26 => .exit 0) (fun r => match r with | Sum.inl _ => [(2, .os 0 0), (3, .v (.bool false))] | Sum.inr l26 => [(2, .os 0 0), (3, .v (.bool false)), (5, .os 1 l26.length)]) (fun r => match r with | Sum.inl _ => [.n 33] | Sum.inr l26 => [.n 33, .arr 33 l26 l26.length false]) := by
  refine loop_sound3 (fun s q h => ?_) (fun r => ?_)
  · obtain ⟨l6, v7⟩ := s; replace h : palingref03_ReadAddrs_L1 l4 n5 l6 v7 = some q := h
    unfold palingref03_ReadAddrs_L1 at h
    rcases ite_out h with ⟨h8, h⟩ | ⟨h8, h⟩
    · rcases ite_out h with ⟨h9, h⟩ | ⟨h9, h⟩
      · obtain ⟨x10, h11, h⟩ := bind_out h
        obtain ⟨r12, h13, h⟩ := bind_out h
        rcases ite_out h with ⟨h14, h⟩ | ⟨h14, h⟩
        · injection h with h; subst h; exact rl [2, 3] [3] [.dec true, .row (c9 x10), .callv (.tup [.v (.int .u32 r12.1), .v (.bool r12.2)]), .dec true] (by kernel_rfl) (pc ((rn n5)) <| pc (h8) <| pc (an n5 (lin_ob h9)) <| pc (an n5 (obn9 h11)) <| pc (k_palingref02_Read h13) <| pc (h14) <| pn)
        · rcases ite_out h with ⟨h15, h⟩ | ⟨h15, h⟩
          · injection h with h; subst h; exact rl [2, 3] [3] [.dec true, .row (c9 x10), .callv (.tup [.v (.int .u32 r12.1), .v (.bool r12.2)]), .dec false, .dec true] (by kernel_rfl) (pc ((rn n5)) <| pc (h8) <| pc (an n5 (lin_ob h9)) <| pc (an n5 (obn9 h11)) <| pc (k_palingref02_Read h13) <| pc (h14) <| pc (h15) <| pn)
          · rcases ite_out h with ⟨h16, h⟩ | ⟨h16, h⟩
            · rcases ite_out h with ⟨h17, h⟩ | ⟨h17, h⟩
              · obtain ⟨x18, h19, h⟩ := bind_out h
                rcases ite_out h with ⟨h20, h⟩ | ⟨h20, h⟩
                · injection h with h; subst h; exact rl [2, 3] [3] [.dec true, .row (c9 x10), .callv (.tup [.v (.int .u32 r12.1), .v (.bool r12.2)]), .dec false, .dec false, .dec true, .row (c33 x18), .dec true] (by kernel_rfl) (pc ((rn n5)) <| pc (h8) <| pc (an n5 (lin_ob h9)) <| pc (an n5 (obn9 h11)) <| pc (k_palingref02_Read h13) <| pc (h14) <| pc (h15) <| pc (h16) <| pc (an l6.length (lin_ob h17)) <| pc (an l6.length (obn33 h19)) <| pc (h20) <| pn)
                · rcases ite_out h with ⟨h21, h⟩ | ⟨h21, h⟩
                  · injection h with h; subst h; exact rl [2, 3, 4, 5, 6] [0, 1, 2] [.dec true, .row (c9 x10), .callv (.tup [.v (.int .u32 r12.1), .v (.bool r12.2)]), .dec false, .dec false, .dec true, .row (c33 x18), .dec false, .obj [] (.arr 33 [r12.1] (List.length [r12.1]) false), .obj [] (.arr 33 (l6 ++ [r12.1]) (List.length (l6 ++ [r12.1])) false)] (by kernel_rfl) (pc ((rn n5)) <| pc (h8) <| pc (an n5 (lin_ob h9)) <| pc (an n5 (obn9 h11)) <| pc (k_palingref02_Read h13) <| pc (h14) <| pc (h15) <| pc (h16) <| pc (an l6.length (lin_ob h17)) <| pc (an l6.length (obn33 h19)) <| pc (h20) <| pc (bs_ob 33 [r12.1]) <| pc (app_ob 33 (n := l6.length) (l := l6) (xs := [r12.1]) h21) <| pc ((rn (List.length [r12.1]))) <| pn)
                  · cases h
              · cases h
            · rcases ite_out h with ⟨h22, h⟩ | ⟨h22, h⟩
              · injection h with h; subst h; exact rl [2, 3, 4, 5, 6] [0, 1, 2] [.dec true, .row (c9 x10), .callv (.tup [.v (.int .u32 r12.1), .v (.bool r12.2)]), .dec false, .dec false, .dec false, .obj [] (.arr 33 [r12.1] (List.length [r12.1]) false), .obj [] (.arr 33 (l6 ++ [r12.1]) (List.length (l6 ++ [r12.1])) false)] (by kernel_rfl) (pc ((rn n5)) <| pc (h8) <| pc (an n5 (lin_ob h9)) <| pc (an n5 (obn9 h11)) <| pc (k_palingref02_Read h13) <| pc (h14) <| pc (h15) <| pc (h16) <| pc (bs_ob 33 [r12.1]) <| pc (app_ob 33 (n := l6.length) (l := l6) (xs := [r12.1]) h22) <| pc ((rn (List.length [r12.1]))) <| pn)
              · cases h
      · cases h
    · injection h with h; subst h; exact rl [2, 3, 5] [0, 2] [.dec false] (by kernel_rfl) (pc ((rn n5)) <| pc (h8) <| pn)
  · rcases r with _ | _ <;> exact Ex.noConfusion

theorem k_palingref03_ReadAddrs {a1 : ByteArray} {r : ((List Int) × Bool)} (h : palingref03_ReadAddrs a1 = some r) :
    CallsOK Tryz.prog UU 130 [.v (.string a1)] [] ((fun r => match r with | (l29, v30) => .tup [.os 0 l29.length, .v (.bool v30)]) r) ((fun r => match r with | (l29, v30) => [.arr 33 l29 l29.length false]) r) := by
  unfold palingref03_ReadAddrs at h
  obtain ⟨r2, h3, h⟩ := bind_out h
  obtain ⟨l4, n5⟩ := r2
  obtain ⟨r28, h27, h⟩ := bind_out h
  rcases r28 with _ | l26
  · injection h with h; subst h; exact rf Tryz.func130 rfl (some [0]) [.callo (.os 0 n5) [.arr 9 l4 n5 false], .sum [2, 3, 4, 5, 6] [0, 1, 2] .ret [(2, .os 0 0), (3, .v (.bool false))] [.n 33]] (by kernel_rfl) (pc (k_palingref03_Split h3) <| pc (im9 l4) <| pc (k_palingref03_ReadAddrs_L1 _ _ h27) <| pn)
  · injection h with h; subst h; exact rf Tryz.func130 rfl (some [1]) [.callo (.os 0 n5) [.arr 9 l4 n5 false], .sum [2, 3, 4, 5, 6] [0, 1, 2] (.exit 0) [(2, .os 0 0), (3, .v (.bool false)), (5, .os 1 l26.length)] [.n 33, .arr 33 l26 l26.length false]] (by kernel_rfl) (pc (k_palingref03_Split h3) <| pc (im9 l4) <| pc (k_palingref03_ReadAddrs_L1 _ _ h27) <| pn)

theorem k_palingref02_ReadPrefix_L1 {a1 : ByteArray} : LoopOK Tryz.prog UU 0 47 (subC (codeOf Tryz.f131) [1, 1, 0, 0, 0]) (ρ := Int) (palingref02_ReadPrefix_L1 a1)
    (fun v2 : Int => ([(0, .v (.string a1)), (2, .op 0 1 0 0), (3, .v (.bool false)), (4, .j v2)] : Fr DD)) (fun v2 : Int => ([.box 99 [.v (.int .u32 0), .z] false] : Heap DD)) (fun r => match r with | v7 => .exit 0) (fun r => match r with | v7 => [(0, .v (.string a1)), (2, .op 0 1 0 0), (3, .v (.bool false)), (4, .j v7)]) (fun r => match r with | v7 => [.box 99 [.v (.int .u32 0), .z] false]) := by
  refine loop_sound3 (fun s q h => ?_) (fun r => ?_)
  · replace h : palingref02_ReadPrefix_L1 a1 s = some q := h; revert h; revert s; intro v2 h
    unfold palingref02_ReadPrefix_L1 at h
    rcases ite_out h with ⟨h3, h⟩ | ⟨h3, h⟩
    · rcases ite_out h with ⟨h4, h⟩ | ⟨h4, h⟩
      · rcases ite_out h with ⟨h5, h⟩ | ⟨h5, h⟩
        · injection h with h; subst h; exact rl [0, 2, 3, 4] [0] [.dec true, .dec true] (by kernel_rfl) (pc (h3) <| pc (of_decide_eq_true h4) <| pc (h5) <| pn)
        · injection h with h; subst h; exact rl [0, 2, 3, 4] [0] [.dec true, .dec false] (by kernel_rfl) (pc (h3) <| pc (of_decide_eq_true h4) <| pc (h5) <| pn)
      · cases h
    · injection h with h; subst h; exact rl [0, 2, 3, 4] [0] [.dec false] (by kernel_rfl) (pc (h3) <| pn)
  · exact Ex.noConfusion

theorem k_palingref02_ReadPrefix {a1 : ByteArray} {r : Api_Prefix × Bool} (h : palingref02_ReadPrefix a1 = some r) :
    CallsOK Tryz.prog UU 131 [.v (.string a1)] [] (.tup [.agg (c99 r.1), .v (.bool r.2)]) [] := by
  unfold palingref02_ReadPrefix at h
  obtain ⟨v7, h8, h⟩ := bind_out h
  rcases ite_out h with ⟨h10, h⟩ | ⟨h10, h⟩
  · injection h with h; subst h; exact rf Tryz.func131 rfl none [.sum [0, 2, 3, 4] [0] (.exit 0) [(0, .v (.string a1)), (2, .op 0 1 0 0), (3, .v (.bool false)), (4, .j v7)] [.box 99 [.v (.int .u32 0), .z] false], .dec true] (by kernel_rfl) (pc (k_palingref02_ReadPrefix_L1 _ _ h8) <| pc (h10) <| pn)
  · rcases ite_out h with ⟨h11, h⟩ | ⟨h11, h⟩
    · obtain ⟨r12, h13, h⟩ := bind_out h
      rcases ite_out h with ⟨h14, h⟩ | ⟨h14, h⟩
      · obtain ⟨r15, h16, h⟩ := bind_out h
        rcases ite_out h with ⟨h17, h⟩ | ⟨h17, h⟩
        · injection h with h; subst h; exact rf Tryz.func131 rfl none [.sum [0, 2, 3, 4] [0] (.exit 0) [(0, .v (.string a1)), (2, .op 0 1 0 0), (3, .v (.bool false)), (4, .j v7)] [.box 99 [.v (.int .u32 0), .z] false], .dec false, .callv (.tup [.v (.int .u32 r12.1), .v (.bool r12.2)]), .callv (.j r15), .dec true] (by kernel_rfl) (pc (k_palingref02_ReadPrefix_L1 _ _ h8) <| pc (h10) <| pc (sl_ob h11) <| pc (k_palingref02_Read h13) <| pc (sl_ob h14) <| pc (k_palingref02_digits h16) <| pc (h17) <| pn)
        · rcases ite_out h with ⟨h18, h⟩ | ⟨h18, h⟩
          · injection h with h; subst h; exact rf Tryz.func131 rfl none [.sum [0, 2, 3, 4] [0] (.exit 0) [(0, .v (.string a1)), (2, .op 0 1 0 0), (3, .v (.bool false)), (4, .j v7)] [.box 99 [.v (.int .u32 0), .z] false], .dec false, .callv (.tup [.v (.int .u32 r12.1), .v (.bool r12.2)]), .callv (.j r15), .dec false, .dec true] (by kernel_rfl) (pc (k_palingref02_ReadPrefix_L1 _ _ h8) <| pc (h10) <| pc (sl_ob h11) <| pc (k_palingref02_Read h13) <| pc (sl_ob h14) <| pc (k_palingref02_digits h16) <| pc (h17) <| pc (h18) <| pn)
          · injection h with h; subst h; exact rf Tryz.func131 rfl none [.sum [0, 2, 3, 4] [0] (.exit 0) [(0, .v (.string a1)), (2, .op 0 1 0 0), (3, .v (.bool false)), (4, .j v7)] [.box 99 [.v (.int .u32 0), .z] false], .dec false, .callv (.tup [.v (.int .u32 r12.1), .v (.bool r12.2)]), .callv (.j r15), .dec false, .dec false] (by kernel_rfl) (pc (k_palingref02_ReadPrefix_L1 _ _ h8) <| pc (h10) <| pc (sl_ob h11) <| pc (k_palingref02_Read h13) <| pc (sl_ob h14) <| pc (k_palingref02_digits h16) <| pc (h17) <| pc (h18) <| pn)
      · cases h
    · cases h

theorem k_palingref02_size_L1 : LoopOK Tryz.prog UU 0 14 (subC (codeOf Tryz.f147) [1, 1, 0, 1, 0, 0]) (fun s : Int × Int => match s with | (v2, v3) => palingref02_size_L1 v2 v3)
    (fun s : Int × Int => (match s with | (v2, v3) => [(2, .z), (3, .j v2), (4, .j v3)] : Fr DD)) (fun s : Int × Int => (match s with | (v2, v3) => [] : Heap DD)) (fun r => match r with | v6 => .exit 0) (fun r => match r with | v6 => [(2, .z), (3, .j v6)]) (fun r => match r with | v6 => []) := by
  refine loop_sound3 (fun s q h => ?_) (fun r => ?_)
  · obtain ⟨v2, v3⟩ := s; replace h : palingref02_size_L1 v2 v3 = some q := h
    unfold palingref02_size_L1 at h
    rcases ite_out h with ⟨h4, h⟩ | ⟨h4, h⟩
    · injection h with h; subst h; exact rl [2, 3, 4] [] [.dec true] (by kernel_rfl) (pc (h4) <| pn)
    · injection h with h; subst h; exact rl [2, 3] [] [.dec false] (by kernel_rfl) (pc (h4) <| pn)
  · exact Ex.noConfusion

theorem k_palingref02_size {a1 : Api_Prefix} {r : Int} (h : palingref02_size a1 = some r) :
    CallsOK Tryz.prog UU 147 [.agg (c99 a1)] [] (.j r) [] := by
  unfold palingref02_size at h
  obtain ⟨v6, h7, h⟩ := bind_out h
  injection h with h; subst h; exact rf Tryz.func147 rfl none [.sum [2, 3, 4] [] (.exit 0) [(2, .z), (3, .j v6)] []] (by kernel_rfl) (pc (k_palingref02_size_L1 _ _ h7) <| pn)

theorem k_palingref02_First {a1 : Api_Prefix} {r : Int} (h : palingref02_First a1 = some r) :
    CallsOK Tryz.prog UU 144 [.agg (c99 a1)] [] (.v (.int .u32 r)) [] := by
  unfold palingref02_First at h
  obtain ⟨r2, h3, h⟩ := bind_out h
  rcases ite_out h with ⟨h4, h⟩ | ⟨h4, h⟩
  · injection h with h; subst h; exact rf Tryz.func144 rfl none [.callv (.v (.bool r2)), .dec true] (by kernel_rfl) (pc (k_palingref02_Right h3) <| pc (h4) <| pn)
  · obtain ⟨r5, h6, h⟩ := bind_out h
    rcases ite_out h with ⟨h7, h⟩ | ⟨h7, h⟩
    · obtain ⟨r8, h9, h⟩ := bind_out h
      injection h with h; subst h; exact rf Tryz.func144 rfl none [.callv (.v (.bool r2)), .dec false, .callv (.j r5), .callv (.j r8)] (by kernel_rfl) (pc (k_palingref02_Right h3) <| pc (h4) <| pc (k_palingref02_size h6) <| pc (ne0_ob h7) <| pc (k_palingref02_size h9) <| pn)
    · cases h

theorem k_palingref02_Last {a1 : Api_Prefix} {r : Int} (h : palingref02_Last a1 = some r) :
    CallsOK Tryz.prog UU 145 [.agg (c99 a1)] [] (.v (.int .u32 r)) [] := by
  unfold palingref02_Last at h
  obtain ⟨r2, h3, h⟩ := bind_out h
  rcases ite_out h with ⟨h4, h⟩ | ⟨h4, h⟩
  · injection h with h; subst h; exact rf Tryz.func145 rfl none [.callv (.v (.bool r2)), .dec true] (by kernel_rfl) (pc (k_palingref02_Right h3) <| pc (h4) <| pn)
  · obtain ⟨r5, h6, h⟩ := bind_out h
    obtain ⟨r7, h8, h⟩ := bind_out h
    injection h with h; subst h; exact rf Tryz.func145 rfl none [.callv (.v (.bool r2)), .dec false, .callv (.v (.int .u32 r5)), .callv (.j r7)] (by kernel_rfl) (pc (k_palingref02_Right h3) <| pc (h4) <| pc (k_palingref02_First h6) <| pc (k_palingref02_size h8) <| pn)

theorem k_palingref11_Subnet {a1 : Api_Prefix} {r : Bool} (h : palingref11_Subnet a1 = some r) :
    CallsOK Tryz.prog UU 132 [.agg (c99 a1)] [] (.v (.bool r)) [] := by
  unfold palingref11_Subnet at h
  rcases ite_out h with ⟨h2, h⟩ | ⟨h2, h⟩
  · rcases ite_out h with ⟨h3, h⟩ | ⟨h3, h⟩
    · obtain ⟨r4, h5, h⟩ := bind_out h
      rcases ite_out h with ⟨h6, h⟩ | ⟨h6, h⟩
      · obtain ⟨r7, h8, h⟩ := bind_out h
        injection h with h; subst h; exact rf Tryz.func132 rfl none [.dec true, .dec true, .callv (.v (.int .u32 r4)), .dec true, .callv (.v (.int .u32 r7))] (by kernel_rfl) (pc (h2) <| pc (h3) <| pc (k_palingref02_First h5) <| pc (h6) <| pc (k_palingref02_Last h8) <| pn)
      · injection h with h; subst h; exact rf Tryz.func132 rfl none [.dec true, .dec true, .callv (.v (.int .u32 r4)), .dec false] (by kernel_rfl) (pc (h2) <| pc (h3) <| pc (k_palingref02_First h5) <| pc (h6) <| pn)
    · injection h with h; subst h; exact rf Tryz.func132 rfl none [.dec true, .dec false] (by kernel_rfl) (pc (h2) <| pc (h3) <| pn)
  · injection h with h; subst h; exact rf Tryz.func132 rfl none [.dec false] (by kernel_rfl) (pc (h2) <| pn)

theorem k_palingref11_word_own {a1 : Int} {a2 : ByteArray} {a3 : Int} {a4 : Int} {a5 : Int} {a6 : ByteArray} {a7 : ByteArray} {a8 : ByteArray} {a9 : ByteArray} {a10 : ByteArray} {a11 : Int} {a12 : Int} {a13 : Int} {a14 : Int} {a15 : Int} {a16 : Int} {a17 : List Int} {a18 : List Int} {a19 : List Int} {a20 : List Int} {r : (ByteArray × ByteArray × ByteArray × ByteArray × ByteArray × Int × Int × Int × Int × Int × Int × Int) ⊕ ((List Int) × Int) ⊕ ((List Int) × Int) ⊕ ((List Int) × Int)} (h : palingref11_word_own a1 a2 a3 a4 a5 a6 a7 a8 a9 a10 a11 a12 a13 a14 a15 a16 a17 a18 a19 a20 = some r) :
    CallsOK Tryz.prog UU 107 [.v (.int .u8 a1), .v (.string a2), .j a3, .op 0 1 0 0] [.box 37 [.j a4, .j a5, .v (.string a6), .v (.string a7), .v (.string a8), .v (.string a9), .v (.string a10), .v (.int .u64 a11), .v (.int .u32 a12), .j a13, .j a14, .j a15, .j a16, .os 1 a17.length, .os 2 a18.length, .os 3 a19.length, .os 4 a20.length] false, .arr 3 a17 a17.length false, .arr 3 a18 a18.length false, .arr 3 a19 a19.length false, .arr 33 a20 a20.length false] ((fun r => match r with | Sum.inl (v97, v98, v99, v100, v101, v102, v103, v104, v105, v106, v107, v108) => .j v108 | Sum.inr (Sum.inl (l109, v110)) => .j v110 | Sum.inr (Sum.inr (Sum.inl (l111, v112))) => .j v112 | Sum.inr (Sum.inr (Sum.inr (l113, v114))) => .j v114) r) ((fun r => match r with | Sum.inl (v97, v98, v99, v100, v101, v102, v103, v104, v105, v106, v107, v108) => [.box 37 [.j a4, .j a5, .v (.string v97), .v (.string v98), .v (.string v99), .v (.string v100), .v (.string v101), .v (.int .u64 v102), .v (.int .u32 v103), .j v104, .j v105, .j v106, .j v107, .os 1 a17.length, .os 2 a18.length, .os 3 a19.length, .os 4 a20.length] false, .arr 3 a17 a17.length false, .arr 3 a18 a18.length false, .arr 3 a19 a19.length false, .arr 33 a20 a20.length false] | Sum.inr (Sum.inl (l109, v110)) => [.box 37 [.j a4, .j a5, .v (.string a6), .v (.string a7), .v (.string a8), .v (.string a9), .v (.string a10), .v (.int .u64 a11), .v (.int .u32 a12), .j a13, .j a14, .j a15, .j a16, .os 5 l109.length, .os 2 a18.length, .os 3 a19.length, .os 4 a20.length] false, .arr 3 a17 a17.length false, .arr 3 a18 a18.length false, .arr 3 a19 a19.length false, .arr 33 a20 a20.length false, .arr 3 l109 l109.length false] | Sum.inr (Sum.inr (Sum.inl (l111, v112))) => [.box 37 [.j a4, .j a5, .v (.string a6), .v (.string a7), .v (.string a8), .v (.string a9), .v (.string a10), .v (.int .u64 a11), .v (.int .u32 a12), .j a13, .j a14, .j a15, .j a16, .os 1 a17.length, .os 2 a18.length, .os 3 a19.length, .os 5 l111.length] false, .arr 3 a17 a17.length false, .arr 3 a18 a18.length false, .arr 3 a19 a19.length false, .arr 33 a20 a20.length false, .arr 33 l111 l111.length false] | Sum.inr (Sum.inr (Sum.inr (l113, v114))) => [.box 37 [.j a4, .j a5, .v (.string a6), .v (.string a7), .v (.string a8), .v (.string a9), .v (.string a10), .v (.int .u64 a11), .v (.int .u32 a12), .j a13, .j a14, .j a15, .j a16, .os 1 a17.length, .os 3 a19.length, .os 5 l113.length, .os 4 a20.length] false, .arr 3 a17 a17.length false, .arr 3 a18 a18.length false, .arr 3 a19 a19.length false, .arr 33 a20 a20.length false, .arr 3 l113 l113.length false]) r) := by
  unfold palingref11_word_own at h
  rcases ite_out h with ⟨h21, h⟩ | ⟨h21, h⟩
  · obtain ⟨r22, h23, h⟩ := bind_out h
    rcases ite_out h with ⟨h24, h⟩ | ⟨h24, h⟩
    · injection h with h; subst h; exact rf Tryz.func107 rfl (some [0, 1, 2, 3, 4]) [.dec true, .callv (.v (.bool r22)), .dec true] (by kernel_rfl) (pc (h21) <| pc (k_palingref03_Name h23) <| pc (h24) <| pn)
    · obtain ⟨r25, h26, h⟩ := bind_out h
      obtain ⟨v27, v28, v29, v30, v31⟩ := r25
      injection h with h; subst h; exact rf Tryz.func107 rfl (some [0, 1, 2, 3, 4]) [.dec true, .callv (.v (.bool r22)), .dec false, .callm [0, 1, 2, 3, 4] (.tup []) [.box 37 [.j a4, .j a5, .v (.string v27), .v (.string v28), .v (.string v29), .v (.string v30), .v (.string v31), .v (.int .u64 a11), .v (.int .u32 a12), .j a13, .j a14, .j a15, .j a16, .os 1 a17.length, .os 2 a18.length, .os 3 a19.length, .os 4 a20.length] false, .arr 3 a17 a17.length false, .arr 3 a18 a18.length false, .arr 3 a19 a19.length false, .arr 33 a20 a20.length false]] (by kernel_rfl) (pc (h21) <| pc (k_palingref03_Name h23) <| pc (h24) <| pc (k_palingref11_name_own h26) <| pn)
  · rcases ite_out h with ⟨h32, h⟩ | ⟨h32, h⟩
    · rcases ite_out h with ⟨h33, h⟩ | ⟨h33, h⟩
      · rcases ite_out h with ⟨h34, h⟩ | ⟨h34, h⟩
        · injection h with h; subst h; exact rf Tryz.func107 rfl (some [0, 1, 2, 3, 4]) [.dec false, .dec true, .dec true, .dec true] (by kernel_rfl) (pc (h21) <| pc (h32) <| pc (h33) <| pc (h34) <| pn)
        · injection h with h; subst h; exact rf Tryz.func107 rfl (some [0, 1, 2, 3, 4]) [.dec false, .dec true, .dec true, .dec false] (by kernel_rfl) (pc (h21) <| pc (h32) <| pc (h33) <| pc (h34) <| pn)
      · injection h with h; subst h; exact rf Tryz.func107 rfl (some [0, 1, 2, 3, 4]) [.dec false, .dec true, .dec false] (by kernel_rfl) (pc (h21) <| pc (h32) <| pc (h33) <| pn)
    · rcases ite_out h with ⟨h35, h⟩ | ⟨h35, h⟩
      · obtain ⟨r36, h37, h⟩ := bind_out h
        rcases ite_out h with ⟨h38, h⟩ | ⟨h38, h⟩
        · injection h with h; subst h; exact rf Tryz.func107 rfl (some [0, 1, 2, 3, 4]) [.dec false, .dec false, .dec true, .callv (.tup [.v (.int .i64 r36.1), .v (.bool r36.2)]), .dec true] (by kernel_rfl) (pc (h21) <| pc (h32) <| pc (h35) <| pc (k_palingref03_Read h37) <| pc (h38) <| pn)
        · injection h with h; subst h; exact rf Tryz.func107 rfl (some [0, 1, 2, 3, 4]) [.dec false, .dec false, .dec true, .callv (.tup [.v (.int .i64 r36.1), .v (.bool r36.2)]), .dec false] (by kernel_rfl) (pc (h21) <| pc (h32) <| pc (h35) <| pc (k_palingref03_Read h37) <| pc (h38) <| pn)
      · rcases ite_out h with ⟨h39, h⟩ | ⟨h39, h⟩
        · obtain ⟨r40, h41, h⟩ := bind_out h
          rcases ite_out h with ⟨h42, h⟩ | ⟨h42, h⟩
          · injection h with h; subst h; exact rf Tryz.func107 rfl (some [0, 1, 2, 3, 4]) [.dec false, .dec false, .dec false, .dec true, .callv (.tup [.v (.int .i64 r40.1), .v (.bool r40.2)]), .dec true] (by kernel_rfl) (pc (h21) <| pc (h32) <| pc (h35) <| pc (h39) <| pc (k_palingref03_Read h41) <| pc (h42) <| pn)
          · injection h with h; subst h; exact rf Tryz.func107 rfl (some [0, 1, 2, 3, 4]) [.dec false, .dec false, .dec false, .dec true, .callv (.tup [.v (.int .i64 r40.1), .v (.bool r40.2)]), .dec false] (by kernel_rfl) (pc (h21) <| pc (h32) <| pc (h35) <| pc (h39) <| pc (k_palingref03_Read h41) <| pc (h42) <| pn)
        · rcases ite_out h with ⟨h43, h⟩ | ⟨h43, h⟩
          · obtain ⟨r44, h45, h⟩ := bind_out h
            rcases ite_out h with ⟨h46, h⟩ | ⟨h46, h⟩
            · obtain ⟨r47, h48, h⟩ := bind_out h
              rcases ite_out h with ⟨h49, h⟩ | ⟨h49, h⟩
              · injection h with h; subst h; exact rf Tryz.func107 rfl (some [0, 1, 2, 3, 4]) [.dec false, .dec false, .dec false, .dec false, .dec true, .callv (.tup [.v (.int .u64 r44.1), .v (.bool r44.2)]), .dec true, .callv (.v (.bool r47)), .dec true] (by kernel_rfl) (pc (h21) <| pc (h32) <| pc (h35) <| pc (h39) <| pc (h43) <| pc (k_palingref01_Read h45) <| pc (h46) <| pc (k_palingref11_Station h48) <| pc (h49) <| pn)
              · injection h with h; subst h; exact rf Tryz.func107 rfl (some [0, 1, 2, 3, 4]) [.dec false, .dec false, .dec false, .dec false, .dec true, .callv (.tup [.v (.int .u64 r44.1), .v (.bool r44.2)]), .dec true, .callv (.v (.bool r47)), .dec false] (by kernel_rfl) (pc (h21) <| pc (h32) <| pc (h35) <| pc (h39) <| pc (h43) <| pc (k_palingref01_Read h45) <| pc (h46) <| pc (k_palingref11_Station h48) <| pc (h49) <| pn)
            · injection h with h; subst h; exact rf Tryz.func107 rfl (some [0, 1, 2, 3, 4]) [.dec false, .dec false, .dec false, .dec false, .dec true, .callv (.tup [.v (.int .u64 r44.1), .v (.bool r44.2)]), .dec false, .dec true] (by kernel_rfl) (pc (h21) <| pc (h32) <| pc (h35) <| pc (h39) <| pc (h43) <| pc (k_palingref01_Read h45) <| pc (h46) <| pc ((rfl : (!false) = true)) <| pn)
          · rcases ite_out h with ⟨h50, h⟩ | ⟨h50, h⟩
            · obtain ⟨r51, h52, h⟩ := bind_out h
              rcases ite_out h with ⟨h53, h⟩ | ⟨h53, h⟩
              · injection h with h; subst h; exact rf Tryz.func107 rfl (some [0, 1, 2, 3, 4]) [.dec false, .dec false, .dec false, .dec false, .dec false, .dec true, .callv (.tup [.v (.int .i64 r51.1), .v (.bool r51.2)]), .dec true] (by kernel_rfl) (pc (h21) <| pc (h32) <| pc (h35) <| pc (h39) <| pc (h43) <| pc (h50) <| pc (k_palingref03_Read h52) <| pc (h53) <| pn)
              · injection h with h; subst h; exact rf Tryz.func107 rfl (some [0, 1, 2, 3, 4]) [.dec false, .dec false, .dec false, .dec false, .dec false, .dec true, .callv (.tup [.v (.int .i64 r51.1), .v (.bool r51.2)]), .dec false] (by kernel_rfl) (pc (h21) <| pc (h32) <| pc (h35) <| pc (h39) <| pc (h43) <| pc (h50) <| pc (k_palingref03_Read h52) <| pc (h53) <| pn)
            · rcases ite_out h with ⟨h54, h⟩ | ⟨h54, h⟩
              · obtain ⟨r55, h56, h⟩ := bind_out h
                rcases ite_out h with ⟨h57, h⟩ | ⟨h57, h⟩
                · injection h with h; subst h; exact rf Tryz.func107 rfl (some [0, 1, 2, 3, 4]) [.dec false, .dec false, .dec false, .dec false, .dec false, .dec false, .dec true, .callv (.tup [.v (.int .i64 r55.1), .v (.bool r55.2)]), .dec true, .dec false] (by kernel_rfl) (pc (h21) <| pc (h32) <| pc (h35) <| pc (h39) <| pc (h43) <| pc (h50) <| pc (h54) <| pc (k_palingref03_Read h56) <| pc (h57) <| pc ((rfl : (!true) = false)) <| pn)
                · rcases ite_out h with ⟨h58, h⟩ | ⟨h58, h⟩
                  · injection h with h; subst h; exact rf Tryz.func107 rfl (some [0, 1, 2, 3, 4]) [.dec false, .dec false, .dec false, .dec false, .dec false, .dec false, .dec true, .callv (.tup [.v (.int .i64 r55.1), .v (.bool r55.2)]), .dec false, .dec true] (by kernel_rfl) (pc (h21) <| pc (h32) <| pc (h35) <| pc (h39) <| pc (h43) <| pc (h50) <| pc (h54) <| pc (k_palingref03_Read h56) <| pc (h57) <| pc (h58) <| pn)
                  · injection h with h; subst h; exact rf Tryz.func107 rfl (some [0, 1, 2, 3, 4]) [.dec false, .dec false, .dec false, .dec false, .dec false, .dec false, .dec true, .callv (.tup [.v (.int .i64 r55.1), .v (.bool r55.2)]), .dec false, .dec false] (by kernel_rfl) (pc (h21) <| pc (h32) <| pc (h35) <| pc (h39) <| pc (h43) <| pc (h50) <| pc (h54) <| pc (k_palingref03_Read h56) <| pc (h57) <| pc (h58) <| pn)
              · rcases ite_out h with ⟨h59, h⟩ | ⟨h59, h⟩
                · obtain ⟨r60, h61, h⟩ := bind_out h
                  obtain ⟨l62, v63⟩ := r60
                  rcases ite_out h with ⟨h64, h⟩ | ⟨h64, h⟩
                  · injection h with h; subst h; exact rf Tryz.func107 rfl (some [0, 1, 2, 3, 4, 5]) [.dec false, .dec false, .dec false, .dec false, .dec false, .dec false, .dec false, .dec true, .callo (.tup [.os 0 l62.length, .v (.bool v63)]) [.arr 3 l62 l62.length false], .dec true] (by kernel_rfl) (pc (h21) <| pc (h32) <| pc (h35) <| pc (h39) <| pc (h43) <| pc (h50) <| pc (h54) <| pc (h59) <| pc (k_palingref11_list h61) <| pc (im3 l62) <| pc (h64) <| pn)
                  · injection h with h; subst h; exact rf Tryz.func107 rfl (some [0, 1, 2, 3, 4, 5]) [.dec false, .dec false, .dec false, .dec false, .dec false, .dec false, .dec false, .dec true, .callo (.tup [.os 0 l62.length, .v (.bool v63)]) [.arr 3 l62 l62.length false], .dec false] (by kernel_rfl) (pc (h21) <| pc (h32) <| pc (h35) <| pc (h39) <| pc (h43) <| pc (h50) <| pc (h54) <| pc (h59) <| pc (k_palingref11_list h61) <| pc (im3 l62) <| pc (h64) <| pn)
                · rcases ite_out h with ⟨h65, h⟩ | ⟨h65, h⟩
                  · obtain ⟨r66, h67, h⟩ := bind_out h
                    rcases ite_out h with ⟨h68, h⟩ | ⟨h68, h⟩
                    · injection h with h; subst h; exact rf Tryz.func107 rfl (some [0, 1, 2, 3, 4]) [.dec false, .dec false, .dec false, .dec false, .dec false, .dec false, .dec false, .dec false, .dec true, .callv (.tup [.v (.int .i64 r66.1), .v (.bool r66.2)]), .dec true] (by kernel_rfl) (pc (h21) <| pc (h32) <| pc (h35) <| pc (h39) <| pc (h43) <| pc (h50) <| pc (h54) <| pc (h59) <| pc (h65) <| pc (k_palingref03_Read h67) <| pc (h68) <| pn)
                    · injection h with h; subst h; exact rf Tryz.func107 rfl (some [0, 1, 2, 3, 4]) [.dec false, .dec false, .dec false, .dec false, .dec false, .dec false, .dec false, .dec false, .dec true, .callv (.tup [.v (.int .i64 r66.1), .v (.bool r66.2)]), .dec false] (by kernel_rfl) (pc (h21) <| pc (h32) <| pc (h35) <| pc (h39) <| pc (h43) <| pc (h50) <| pc (h54) <| pc (h59) <| pc (h65) <| pc (k_palingref03_Read h67) <| pc (h68) <| pn)
                  · rcases ite_out h with ⟨h69, h⟩ | ⟨h69, h⟩
                    · obtain ⟨r70, h71, h⟩ := bind_out h
                      rcases ite_out h with ⟨h72, h⟩ | ⟨h72, h⟩
                      · rcases ite_out h with ⟨h73, h⟩ | ⟨h73, h⟩
                        · injection h with h; subst h; exact rf Tryz.func107 rfl (some [0, 1, 2, 3, 4]) [.dec false, .dec false, .dec false, .dec false, .dec false, .dec false, .dec false, .dec false, .dec false, .dec true, .callv (.tup [.v (.int .u32 r70.1), .v (.bool r70.2)]), .dec true, .dec true] (by kernel_rfl) (pc (h21) <| pc (h32) <| pc (h35) <| pc (h39) <| pc (h43) <| pc (h50) <| pc (h54) <| pc (h59) <| pc (h65) <| pc (h69) <| pc (k_palingref02_Read h71) <| pc (h72) <| pc (h73) <| pn)
                        · injection h with h; subst h; exact rf Tryz.func107 rfl (some [0, 1, 2, 3, 4]) [.dec false, .dec false, .dec false, .dec false, .dec false, .dec false, .dec false, .dec false, .dec false, .dec true, .callv (.tup [.v (.int .u32 r70.1), .v (.bool r70.2)]), .dec true, .dec false] (by kernel_rfl) (pc (h21) <| pc (h32) <| pc (h35) <| pc (h39) <| pc (h43) <| pc (h50) <| pc (h54) <| pc (h59) <| pc (h65) <| pc (h69) <| pc (k_palingref02_Read h71) <| pc (h72) <| pc (h73) <| pn)
                      · injection h with h; subst h; exact rf Tryz.func107 rfl (some [0, 1, 2, 3, 4]) [.dec false, .dec false, .dec false, .dec false, .dec false, .dec false, .dec false, .dec false, .dec false, .dec true, .callv (.tup [.v (.int .u32 r70.1), .v (.bool r70.2)]), .dec false, .dec true] (by kernel_rfl) (pc (h21) <| pc (h32) <| pc (h35) <| pc (h39) <| pc (h43) <| pc (h50) <| pc (h54) <| pc (h59) <| pc (h65) <| pc (h69) <| pc (k_palingref02_Read h71) <| pc (h72) <| pc ((rfl : (!false) = true)) <| pn)
                    · rcases ite_out h with ⟨h74, h⟩ | ⟨h74, h⟩
                      · obtain ⟨r75, h76, h⟩ := bind_out h
                        obtain ⟨l77, v78⟩ := r75
                        rcases ite_out h with ⟨h79, h⟩ | ⟨h79, h⟩
                        · rcases ite_out h with ⟨h80, h⟩ | ⟨h80, h⟩
                          · obtain ⟨x81, h82, h⟩ := bind_out h
                            rcases ite_out h with ⟨h83, h⟩ | ⟨h83, h⟩
                            · injection h with h; subst h; exact rf Tryz.func107 rfl (some [0, 1, 2, 3, 4, 5]) [.dec false, .dec false, .dec false, .dec false, .dec false, .dec false, .dec false, .dec false, .dec false, .dec false, .dec true, .callo (.tup [.os 0 l77.length, .v (.bool v78)]) [.arr 33 l77 l77.length false], .dec true, .row (c33 x81), .dec true] (by kernel_rfl) (pc (h21) <| pc (h32) <| pc (h35) <| pc (h39) <| pc (h43) <| pc (h50) <| pc (h54) <| pc (h59) <| pc (h65) <| pc (h69) <| pc (h74) <| pc (k_palingref03_ReadAddrs h76) <| pc (im33 l77) <| pc (h79) <| pc (an l77.length (lin_ob h80)) <| pc (an l77.length (obn33 h82)) <| pc (h83) <| pn)
                            · injection h with h; subst h; exact rf Tryz.func107 rfl (some [0, 1, 2, 3, 4, 5]) [.dec false, .dec false, .dec false, .dec false, .dec false, .dec false, .dec false, .dec false, .dec false, .dec false, .dec true, .callo (.tup [.os 0 l77.length, .v (.bool v78)]) [.arr 33 l77 l77.length false], .dec true, .row (c33 x81), .dec false] (by kernel_rfl) (pc (h21) <| pc (h32) <| pc (h35) <| pc (h39) <| pc (h43) <| pc (h50) <| pc (h54) <| pc (h59) <| pc (h65) <| pc (h69) <| pc (h74) <| pc (k_palingref03_ReadAddrs h76) <| pc (im33 l77) <| pc (h79) <| pc (an l77.length (lin_ob h80)) <| pc (an l77.length (obn33 h82)) <| pc (h83) <| pn)
                          · cases h
                        · injection h with h; subst h; exact rf Tryz.func107 rfl (some [0, 1, 2, 3, 4, 5]) [.dec false, .dec false, .dec false, .dec false, .dec false, .dec false, .dec false, .dec false, .dec false, .dec false, .dec true, .callo (.tup [.os 0 l77.length, .v (.bool v78)]) [.arr 33 l77 l77.length false], .dec false, .dec true] (by kernel_rfl) (pc (h21) <| pc (h32) <| pc (h35) <| pc (h39) <| pc (h43) <| pc (h50) <| pc (h54) <| pc (h59) <| pc (h65) <| pc (h69) <| pc (h74) <| pc (k_palingref03_ReadAddrs h76) <| pc (im33 l77) <| pc (h79) <| pc ((rfl : (!false) = true)) <| pn)
                      · rcases ite_out h with ⟨h84, h⟩ | ⟨h84, h⟩
                        · obtain ⟨r85, h86, h⟩ := bind_out h
                          obtain ⟨l87, v88⟩ := r85
                          rcases ite_out h with ⟨h89, h⟩ | ⟨h89, h⟩
                          · injection h with h; subst h; exact rf Tryz.func107 rfl (some [0, 1, 2, 3, 4, 5]) [.dec false, .dec false, .dec false, .dec false, .dec false, .dec false, .dec false, .dec false, .dec false, .dec false, .dec false, .dec true, .callo (.tup [.os 0 l87.length, .v (.bool v88)]) [.arr 3 l87 l87.length false], .dec true] (by kernel_rfl) (pc (h21) <| pc (h32) <| pc (h35) <| pc (h39) <| pc (h43) <| pc (h50) <| pc (h54) <| pc (h59) <| pc (h65) <| pc (h69) <| pc (h74) <| pc (h84) <| pc (k_palingref11_list h86) <| pc (im3 l87) <| pc (h89) <| pn)
                          · injection h with h; subst h; exact rf Tryz.func107 rfl (some [0, 1, 2, 3, 4, 5]) [.dec false, .dec false, .dec false, .dec false, .dec false, .dec false, .dec false, .dec false, .dec false, .dec false, .dec false, .dec true, .callo (.tup [.os 0 l87.length, .v (.bool v88)]) [.arr 3 l87 l87.length false], .dec false] (by kernel_rfl) (pc (h21) <| pc (h32) <| pc (h35) <| pc (h39) <| pc (h43) <| pc (h50) <| pc (h54) <| pc (h59) <| pc (h65) <| pc (h69) <| pc (h74) <| pc (h84) <| pc (k_palingref11_list h86) <| pc (im3 l87) <| pc (h89) <| pn)
                        · rcases ite_out h with ⟨h90, h⟩ | ⟨h90, h⟩
                          · obtain ⟨r91, h92, h⟩ := bind_out h
                            rcases ite_out h with ⟨h93, h⟩ | ⟨h93, h⟩
                            · obtain ⟨r94, h95, h⟩ := bind_out h
                              rcases ite_out h with ⟨h96, h⟩ | ⟨h96, h⟩
                              · injection h with h; subst h; exact rf Tryz.func107 rfl (some [0, 1, 2, 3, 4]) [.dec false, .dec false, .dec false, .dec false, .dec false, .dec false, .dec false, .dec false, .dec false, .dec false, .dec false, .dec false, .dec true, .callv (.tup [.agg (c99 r91.1), .v (.bool r91.2)]), .dec true, .callv (.v (.bool r94)), .dec true] (by kernel_rfl) (pc (h21) <| pc (h32) <| pc (h35) <| pc (h39) <| pc (h43) <| pc (h50) <| pc (h54) <| pc (h59) <| pc (h65) <| pc (h69) <| pc (h74) <| pc (h84) <| pc (h90) <| pc (k_palingref02_ReadPrefix h92) <| pc (h93) <| pc (k_palingref11_Subnet h95) <| pc (h96) <| pn)
                              · injection h with h; subst h; exact rf Tryz.func107 rfl (some [0, 1, 2, 3, 4]) [.dec false, .dec false, .dec false, .dec false, .dec false, .dec false, .dec false, .dec false, .dec false, .dec false, .dec false, .dec false, .dec true, .callv (.tup [.agg (c99 r91.1), .v (.bool r91.2)]), .dec true, .callv (.v (.bool r94)), .dec false] (by kernel_rfl) (pc (h21) <| pc (h32) <| pc (h35) <| pc (h39) <| pc (h43) <| pc (h50) <| pc (h54) <| pc (h59) <| pc (h65) <| pc (h69) <| pc (h74) <| pc (h84) <| pc (h90) <| pc (k_palingref02_ReadPrefix h92) <| pc (h93) <| pc (k_palingref11_Subnet h95) <| pc (h96) <| pn)
                            · injection h with h; subst h; exact rf Tryz.func107 rfl (some [0, 1, 2, 3, 4]) [.dec false, .dec false, .dec false, .dec false, .dec false, .dec false, .dec false, .dec false, .dec false, .dec false, .dec false, .dec false, .dec true, .callv (.tup [.agg (c99 r91.1), .v (.bool r91.2)]), .dec false, .dec true] (by kernel_rfl) (pc (h21) <| pc (h32) <| pc (h35) <| pc (h39) <| pc (h43) <| pc (h50) <| pc (h54) <| pc (h59) <| pc (h65) <| pc (h69) <| pc (h74) <| pc (h84) <| pc (h90) <| pc (k_palingref02_ReadPrefix h92) <| pc (h93) <| pc ((rfl : (!false) = true)) <| pn)
                          · injection h with h; subst h; exact rf Tryz.func107 rfl (some [0, 1, 2, 3, 4]) [.dec false, .dec false, .dec false, .dec false, .dec false, .dec false, .dec false, .dec false, .dec false, .dec false, .dec false, .dec false, .dec false] (by kernel_rfl) (pc (h21) <| pc (h32) <| pc (h35) <| pc (h39) <| pc (h43) <| pc (h50) <| pc (h54) <| pc (h59) <| pc (h65) <| pc (h69) <| pc (h74) <| pc (h84) <| pc (h90) <| pn)

theorem k_palingref11_members_L1 {a1 : Api_Line} : LoopOK Tryz.prog UU 0 28 (subC (codeOf Tryz.f108) [1, 0, 1, 0, 0]) (ρ := Unit ⊕ Unit) (palingref11_members_L1 a1)
    (fun v2 : Int => ([(1, .op 0 1 0 0), (2, .v (.bool false)), (3, .j v2)] : Fr DD)) (fun v2 : Int => ([.box 37 (c37 a1) false] : Heap DD)) (fun r => match r with | Sum.inl _ => .ret | Sum.inr _ => .exit 0) (fun r => match r with | Sum.inl _ => [(2, .v (.bool false))] | Sum.inr _ => [(1, .op 0 1 0 0), (2, .v (.bool false))]) (fun r => match r with | Sum.inl _ => [] | Sum.inr _ => [.box 37 (c37 a1) false]) := by
  refine loop_sound3 (fun s q h => ?_) (fun r => ?_)
  · replace h : palingref11_members_L1 a1 s = some q := h; revert h; revert s; intro v2 h
    unfold palingref11_members_L1 at h
    rcases ite_out h with ⟨h3, h⟩ | ⟨h3, h⟩
    · obtain ⟨x4, h5, h⟩ := bind_out h
      rcases ite_out h with ⟨h6, h⟩ | ⟨h6, h⟩
      · injection h with h; subst h; exact rl [2] [] [.dec true, .row (c3 x4), .dec true] (by kernel_rfl) (pc (h3) <| pc (ob3 h5) <| pc (h6) <| pn)
      · injection h with h; subst h; exact rl [1, 2, 3] [0] [.dec true, .row (c3 x4), .dec false] (by kernel_rfl) (pc (h3) <| pc (ob3 h5) <| pc (h6) <| pn)
    · injection h with h; subst h; exact rl [1, 2] [0] [.dec false] (by kernel_rfl) (pc (h3) <| pn)
  · rcases r with _ | _ <;> exact Ex.noConfusion

theorem k_palingref11_members {a1 : Api_Line} {r : Bool} (h : palingref11_members a1 = some r) :
    CallsOK Tryz.prog UU 108 [.agg (c37 a1)] [] (.v (.bool r)) [] := by
  unfold palingref11_members at h
  obtain ⟨r8, h7, h⟩ := bind_out h
  rcases r8 with _ | _
  · injection h with h; subst h; exact rf Tryz.func108 rfl none [.sum [1, 2, 3] [0] .ret [(2, .v (.bool false))] []] (by kernel_rfl) (pc (k_palingref11_members_L1 _ _ h7) <| pn)
  · rcases ite_out h with ⟨h9, h⟩ | ⟨h9, h⟩
    · injection h with h; subst h; exact rf Tryz.func108 rfl none [.sum [1, 2, 3] [0] (.exit 0) [(1, .op 0 1 0 0), (2, .v (.bool false))] [.box 37 (c37 a1) false], .dec true] (by kernel_rfl) (pc (k_palingref11_members_L1 _ _ h7) <| pc (h9) <| pn)
    · injection h with h; subst h; exact rf Tryz.func108 rfl none [.sum [1, 2, 3] [0] (.exit 0) [(1, .op 0 1 0 0), (2, .v (.bool false))] [.box 37 (c37 a1) false], .dec false] (by kernel_rfl) (pc (k_palingref11_members_L1 _ _ h7) <| pc (h9) <| pn)

theorem k_palingref11_Read_J2 {a1 : List ByteArray} {a2 : Int} {r3 : ByteArray} {r : Bool} (h : palingref11_Read_J2 a1 a2 r3 = some r) :
    ExecOK Tryz.prog UU 0 97 (subC (codeOf Tryz.f89) [1, 1, 0, 0]) [(0, .sl 9 a1), (1, .j a2), (4, .op 0 1 0 0), (5, .z), (6, .v (.string r3))] [.box 37 [.z, .z, .e, .e, .e, .e, .e, .v (.int .u64 0), .v (.int .u32 0), .z, .z, .z, .z, .os 1 0, .os 2 0, .os 3 0, .os 4 0] false, .n 3, .n 3, .n 3, .n 33] ((fun r => match r with | v7 => .nor) r) ((fun r => match r with | v7 => [(0, .sl 9 a1), (1, .j a2), (4, .op 0 1 0 0), (5, .z), (6, .v (.string r3)), (22, .v (.bool v7))]) r) ((fun r => match r with | v7 => [.box 37 [.z, .z, .e, .e, .e, .e, .e, .v (.int .u64 0), .v (.int .u32 0), .z, .z, .z, .z, .os 1 0, .os 2 0, .os 3 0, .os 4 0] false, .n 3, .n 3, .n 3, .n 33]) r) := by
  unfold palingref11_Read_J2 at h
  rcases ite_out h with ⟨h5, h⟩ | ⟨h5, h⟩
  · injection h with h; subst h; exact rl [0, 1, 4, 5, 6, 22] [0, 1, 2, 3, 4] [.dec true] (by kernel_rfl) (pc (h5) <| pn)
  · injection h with h; subst h; exact rl [0, 1, 4, 5, 6, 22] [0, 1, 2, 3, 4] [.dec false] (by kernel_rfl) (pc (h5) <| pn)

def b0_k_palingref11_Read_J1 : List (AObj DD) := [.box 37 [.z, .z, .e, .e, .e, .e, .e, .v (.int .u64 0), .v (.int .u32 0), .z, .z, .z, .z, .os 1 0, .os 2 0, .os 3 0, .os 4 0] false, .n 3, .n 3, .n 3, .n 33]
def b1_k_palingref11_Read_J1 : AObj DD := .box 37 [.z, .z, .e, .e, .e, .e, .e, .v (.int .u64 0), .v (.int .u32 0), .z, .z, .z, .z, .os 1 0, .os 2 0, .os 3 0, .os 4 0] false
theorem k_palingref11_Read_J1 {a1 : List ByteArray} {a2 : Int} {r3 : ByteArray} {r : ByteArray ⊕ Unit} (h : palingref11_Read_J1 a1 a2 r3 = some r) :
    ExecOK Tryz.prog UU 0 97 (subC (codeOf Tryz.f89) [1, 1, 0]) [(0, .sl 9 a1), (1, .j a2), (4, .op 0 1 0 0), (5, .z), (6, .v (.string r3))] b0_k_palingref11_Read_J1 ((fun r => match r with | Sum.inl v24 => .nor | Sum.inr _ => .ret) r) ((fun r => match r with | Sum.inl v24 => [(0, .sl 9 a1), (1, .j a2), (4, .op 0 1 0 0), (5, .z), (6, .v (.string v24))] | Sum.inr _ => [(4, .op 0 1 0 0), (5, .j 22)]) r) ((fun r => match r with | Sum.inl v24 => b0_k_palingref11_Read_J1 | Sum.inr _ => b0_k_palingref11_Read_J1) r) := by
  unfold palingref11_Read_J1 at h
  obtain ⟨v7, h8, h⟩ := bind_out h
  rcases ite_out h with ⟨h10, h⟩ | ⟨h10, h⟩
  · rcases ite_out h with ⟨h11, h⟩ | ⟨h11, h⟩
    · obtain ⟨x12, h13, h⟩ := bind_out h
      rcases ite_out h with ⟨h14, h⟩ | ⟨h14, h⟩
      · rcases ite_out h with ⟨h15, h⟩ | ⟨h15, h⟩
        · rcases ite_out h with ⟨h16, h⟩ | ⟨h16, h⟩
          · obtain ⟨x17, h18, h⟩ := bind_out h
            rcases ite_out h with ⟨h19, h⟩ | ⟨h19, h⟩
            · obtain ⟨x20, h21, h⟩ := bind_out h
              rcases ite_out h with ⟨h22, h⟩ | ⟨h22, h⟩
              · injection h with h; subst h; exact rl [0, 1, 4, 5, 6] [0, 1, 2, 3, 4] [.cut [0, 1, 4, 5, 6] [0, 1, 2, 3, 4] .nor [(0, .sl 9 a1), (1, .j a2), (4, .op 0 1 0 0), (5, .z), (6, .v (.string r3)), (22, .v (.bool v7))] b0_k_palingref11_Read_J1, .dec true, .dec true, .row (c9 x12), .dec true, .dec true, .dec true, .row (c9 x17), .dec true, .row (c9 x20), .dec true] (by kernel_rfl) (pc (k_palingref11_Read_J2 h8) <| pc (h10) <| pc (h11) <| pc (ob9 h13) <| pc (h14) <| pc (h15) <| pc (h16) <| pc (ob9 h18) <| pc (h19) <| pc (ob9 h21) <| pc (h22) <| pn)
              · injection h with h; subst h; exact rl [4, 5] [0, 5, 6, 7, 8] [.cut [0, 1, 4, 5, 6] [0, 1, 2, 3, 4] .nor [(0, .sl 9 a1), (1, .j a2), (4, .op 0 1 0 0), (5, .z), (6, .v (.string r3)), (22, .v (.bool v7))] b0_k_palingref11_Read_J1, .dec true, .dec true, .row (c9 x12), .dec true, .dec true, .dec true, .row (c9 x17), .dec true, .row (c9 x20), .dec false] (by kernel_rfl) (pc (k_palingref11_Read_J2 h8) <| pc (h10) <| pc (h11) <| pc (ob9 h13) <| pc (h14) <| pc (h15) <| pc (h16) <| pc (ob9 h18) <| pc (h19) <| pc (ob9 h21) <| pc (h22) <| pn)
            · injection h with h; subst h; exact rl [4, 5] [0, 5, 6, 7, 8] [.cut [0, 1, 4, 5, 6] [0, 1, 2, 3, 4] .nor [(0, .sl 9 a1), (1, .j a2), (4, .op 0 1 0 0), (5, .z), (6, .v (.string r3)), (22, .v (.bool v7))] b0_k_palingref11_Read_J1, .dec true, .dec true, .row (c9 x12), .dec true, .dec true, .dec true, .row (c9 x17), .dec false] (by kernel_rfl) (pc (k_palingref11_Read_J2 h8) <| pc (h10) <| pc (h11) <| pc (ob9 h13) <| pc (h14) <| pc (h15) <| pc (h16) <| pc (ob9 h18) <| pc (h19) <| pn)
          · injection h with h; subst h; exact rl [4, 5] [0, 5, 6, 7, 8] [.cut [0, 1, 4, 5, 6] [0, 1, 2, 3, 4] .nor [(0, .sl 9 a1), (1, .j a2), (4, .op 0 1 0 0), (5, .z), (6, .v (.string r3)), (22, .v (.bool v7))] b0_k_palingref11_Read_J1, .dec true, .dec true, .row (c9 x12), .dec true, .dec true, .dec false] (by kernel_rfl) (pc (k_palingref11_Read_J2 h8) <| pc (h10) <| pc (h11) <| pc (ob9 h13) <| pc (h14) <| pc (h15) <| pc (h16) <| pn)
        · injection h with h; subst h; exact rl [4, 5] [0, 5, 6, 7, 8] [.cut [0, 1, 4, 5, 6] [0, 1, 2, 3, 4] .nor [(0, .sl 9 a1), (1, .j a2), (4, .op 0 1 0 0), (5, .z), (6, .v (.string r3)), (22, .v (.bool v7))] b0_k_palingref11_Read_J1, .dec true, .dec true, .row (c9 x12), .dec true, .dec false] (by kernel_rfl) (pc (k_palingref11_Read_J2 h8) <| pc (h10) <| pc (h11) <| pc (ob9 h13) <| pc (h14) <| pc (h15) <| pn)
      · injection h with h; subst h; exact rl [4, 5] [0, 5, 6, 7, 8] [.cut [0, 1, 4, 5, 6] [0, 1, 2, 3, 4] .nor [(0, .sl 9 a1), (1, .j a2), (4, .op 0 1 0 0), (5, .z), (6, .v (.string r3)), (22, .v (.bool v7))] b0_k_palingref11_Read_J1, .dec true, .dec true, .row (c9 x12), .dec false] (by kernel_rfl) (pc (k_palingref11_Read_J2 h8) <| pc (h10) <| pc (h11) <| pc (ob9 h13) <| pc (h14) <| pn)
    · injection h with h; subst h; exact rl [4, 5] [0, 5, 6, 7, 8] [.cut [0, 1, 4, 5, 6] [0, 1, 2, 3, 4] .nor [(0, .sl 9 a1), (1, .j a2), (4, .op 0 1 0 0), (5, .z), (6, .v (.string r3)), (22, .v (.bool v7))] b0_k_palingref11_Read_J1, .dec true, .dec false] (by kernel_rfl) (pc (k_palingref11_Read_J2 h8) <| pc (h10) <| pc (h11) <| pn)
  · injection h with h; subst h; exact rl [0, 1, 4, 5, 6] [0, 1, 2, 3, 4] [.cut [0, 1, 4, 5, 6] [0, 1, 2, 3, 4] .nor [(0, .sl 9 a1), (1, .j a2), (4, .op 0 1 0 0), (5, .z), (6, .v (.string r3)), (22, .v (.bool v7))] b0_k_palingref11_Read_J1, .dec false] (by kernel_rfl) (pc (k_palingref11_Read_J2 h8) <| pc (h10) <| pn)

theorem k_palingref11_Read_J4 {a1 : List ByteArray} {a2 : Int} {v24 : ByteArray} {r29 : Int} {l31 : List Int} {l32 : List Int} {l33 : List Int} {v34 : ByteArray} {v35 : ByteArray} {v36 : ByteArray} {v37 : ByteArray} {v38 : ByteArray} {v39 : Int} {v40 : Int} {v41 : Int} {v42 : Int} {v43 : Int} {v44 : Int} {v45 : Int} {v46 : Int} {l47 : List Int} {r : ((List Int) × (List Int) × (List Int) × (List Int) × ByteArray × ByteArray × ByteArray × ByteArray × ByteArray × Int × Int × Int × Int × Int × Int × Int)} (h : palingref11_Read_J4 a1 a2 v24 r29 l31 l32 l33 v34 v35 v36 v37 v38 v39 v40 v41 v42 v43 v44 v45 v46 l47 = some r) :
    ExecOK Tryz.prog UU 0 97 (subC (codeOf Tryz.f89) [1, 1, 1, 1, 1, 0, 1, 0, 0, 1, 0, 0, 0]) [(0, .sl 9 a1), (4, .op 0 1 0 0), (5, .z), (6, .v (.string v24)), (7, .op 5 1 0 0), (8, .j v45), (9, .j v46)] [.box 37 [.z, .z, .e, .e, .e, .e, .e, .v (.int .u64 0), .v (.int .u32 0), .z, .z, .z, .z, .os 1 0, .os 2 0, .os 3 0, .os 4 0] false, .n 3, .n 3, .n 3, .n 33, .box 37 [.j a2, .j r29, .v (.string v34), .v (.string v35), .v (.string v36), .v (.string v37), .v (.string v38), .v (.int .u64 v39), .v (.int .u32 v40), .j v41, .j v42, .j v43, .j v44, .os 6 l31.length, .os 7 l47.length, .os 8 l32.length, .os 9 l33.length] false, .arr 3 l31 l31.length false, .arr 3 l47 l47.length false, .arr 3 l32 l32.length false, .arr 33 l33 l33.length false] ((fun r => match r with | (l193, l194, l195, l196, v197, v198, v199, v200, v201, v202, v203, v204, v205, v206, v207, v208) => .nor) r) ((fun r => match r with | (l193, l194, l195, l196, v197, v198, v199, v200, v201, v202, v203, v204, v205, v206, v207, v208) => [(0, .sl 9 a1), (4, .op 0 1 0 0), (5, .z), (6, .v (.string v24)), (7, .op 5 1 0 0), (8, .j v45), (9, .j v46), (10, .j v208)]) r) ((fun r => match r with | (l193, l194, l195, l196, v197, v198, v199, v200, v201, v202, v203, v204, v205, v206, v207, v208) => [.box 37 [.z, .z, .e, .e, .e, .e, .e, .v (.int .u64 0), .v (.int .u32 0), .z, .z, .z, .z, .os 1 0, .os 2 0, .os 3 0, .os 4 0] false, .n 3, .n 3, .n 3, .n 33, .box 37 [.j a2, .j r29, .v (.string v197), .v (.string v198), .v (.string v199), .v (.string v200), .v (.string v201), .v (.int .u64 v202), .v (.int .u32 v203), .j v204, .j v205, .j v206, .j v207, .os 6 l193.length, .os 7 l194.length, .os 8 l195.length, .os 9 l196.length] false, .arr 3 l193 l193.length false, .arr 3 l194 l194.length false, .arr 3 l195 l195.length false, .arr 33 l196 l196.length false]) r) := by
  unfold palingref11_Read_J4 at h
  rcases ite_out h with ⟨h49, h⟩ | ⟨h49, h⟩
  · obtain ⟨x50, h51, h⟩ := bind_out h
    obtain ⟨r52, h53, h⟩ := bind_out h
    rcases r52 with ⟨v54, v55, v56, v57, v58, v59, v60, v61, v62, v63, v64, v65⟩ | ⟨l66, v67⟩ | ⟨l68, v69⟩ | ⟨l70, v71⟩
    · injection h with h; subst h; exact rl [0, 4, 5, 6, 7, 8, 9, 10] [0, 1, 2, 3, 4, 5, 6, 7, 8, 9] [.row (c9 x50), .callm [5, 6, 7, 8, 9] (.j v65) [.box 37 [.j a2, .j r29, .v (.string v54), .v (.string v55), .v (.string v56), .v (.string v57), .v (.string v58), .v (.int .u64 v59), .v (.int .u32 v60), .j v61, .j v62, .j v63, .j v64, .os 1 l31.length, .os 2 l47.length, .os 3 l32.length, .os 4 l33.length] false, .arr 3 l31 l31.length false, .arr 3 l47 l47.length false, .arr 3 l32 l32.length false, .arr 33 l33 l33.length false]] (by kernel_rfl) (pc (of_decide_eq_true h49) <| pc (ob9 h51) <| pc (k_palingref11_word_own h53) <| pn)
    · injection h with h; subst h; exact rl [0, 4, 5, 6, 7, 8, 9, 10] [0, 1, 2, 3, 4, 5, 10, 7, 8, 9] [.row (c9 x50), .callm [5, 6, 7, 8, 9] (.j v67) [.box 37 [.j a2, .j r29, .v (.string v34), .v (.string v35), .v (.string v36), .v (.string v37), .v (.string v38), .v (.int .u64 v39), .v (.int .u32 v40), .j v41, .j v42, .j v43, .j v44, .os 5 l66.length, .os 2 l47.length, .os 3 l32.length, .os 4 l33.length] false, .arr 3 l31 l31.length false, .arr 3 l47 l47.length false, .arr 3 l32 l32.length false, .arr 33 l33 l33.length false, .arr 3 l66 l66.length false]] (by kernel_rfl) (pc (of_decide_eq_true h49) <| pc (ob9 h51) <| pc (k_palingref11_word_own h53) <| pn)
    · injection h with h; subst h; exact rl [0, 4, 5, 6, 7, 8, 9, 10] [0, 1, 2, 3, 4, 5, 6, 7, 8, 10] [.row (c9 x50), .callm [5, 6, 7, 8, 9] (.j v69) [.box 37 [.j a2, .j r29, .v (.string v34), .v (.string v35), .v (.string v36), .v (.string v37), .v (.string v38), .v (.int .u64 v39), .v (.int .u32 v40), .j v41, .j v42, .j v43, .j v44, .os 1 l31.length, .os 2 l47.length, .os 3 l32.length, .os 5 l68.length] false, .arr 3 l31 l31.length false, .arr 3 l47 l47.length false, .arr 3 l32 l32.length false, .arr 33 l33 l33.length false, .arr 33 l68 l68.length false]] (by kernel_rfl) (pc (of_decide_eq_true h49) <| pc (ob9 h51) <| pc (k_palingref11_word_own h53) <| pn)
    · injection h with h; subst h; exact rl [0, 4, 5, 6, 7, 8, 9, 10] [0, 1, 2, 3, 4, 5, 6, 8, 10, 9] [.row (c9 x50), .callm [5, 6, 7, 8, 9] (.j v71) [.box 37 [.j a2, .j r29, .v (.string v34), .v (.string v35), .v (.string v36), .v (.string v37), .v (.string v38), .v (.int .u64 v39), .v (.int .u32 v40), .j v41, .j v42, .j v43, .j v44, .os 1 l31.length, .os 3 l32.length, .os 5 l70.length, .os 4 l33.length] false, .arr 3 l31 l31.length false, .arr 3 l47 l47.length false, .arr 3 l32 l32.length false, .arr 33 l33 l33.length false, .arr 3 l70 l70.length false]] (by kernel_rfl) (pc (of_decide_eq_true h49) <| pc (ob9 h51) <| pc (k_palingref11_word_own h53) <| pn)
  · cases h

def b0_k_palingref11_Read_L3 : AObj DD := .box 37 [.z, .z, .e, .e, .e, .e, .e, .v (.int .u64 0), .v (.int .u32 0), .z, .z, .z, .z, .os 1 0, .os 2 0, .os 3 0, .os 4 0] false
theorem k_palingref11_Read_L3 {a1 : List ByteArray} {a2 : Int} {v24 : ByteArray} {r29 : Int} : LoopOK Tryz.prog UU 0 97 (subC (codeOf Tryz.f89) [1, 1, 1, 1, 1, 0, 1, 0, 0]) (fun s : (List Int) × (List Int) × (List Int) × ByteArray × ByteArray × ByteArray × ByteArray × ByteArray × Int × Int × Int × Int × Int × Int × Int × Int × (List Int) => match s with | (l31, l32, l33, v34, v35, v36, v37, v38, v39, v40, v41, v42, v43, v44, v45, v46, l47) => palingref11_Read_L3 a1 a2 v24 r29 l31 l32 l33 v34 v35 v36 v37 v38 v39 v40 v41 v42 v43 v44 v45 v46 l47)
    (fun s : (List Int) × (List Int) × (List Int) × ByteArray × ByteArray × ByteArray × ByteArray × ByteArray × Int × Int × Int × Int × Int × Int × Int × Int × (List Int) => (match s with | (l31, l32, l33, v34, v35, v36, v37, v38, v39, v40, v41, v42, v43, v44, v45, v46, l47) => [(0, .sl 9 a1), (4, .op 0 1 0 0), (5, .z), (6, .v (.string v24)), (7, .op 5 1 0 0), (8, .j v45), (9, .j v46)] : Fr DD)) (fun s : (List Int) × (List Int) × (List Int) × ByteArray × ByteArray × ByteArray × ByteArray × ByteArray × Int × Int × Int × Int × Int × Int × Int × Int × (List Int) => (match s with | (l31, l32, l33, v34, v35, v36, v37, v38, v39, v40, v41, v42, v43, v44, v45, v46, l47) => [b0_k_palingref11_Read_L3, .n 3, .n 3, .n 3, .n 33, .box 37 [.j a2, .j r29, .v (.string v34), .v (.string v35), .v (.string v36), .v (.string v37), .v (.string v38), .v (.int .u64 v39), .v (.int .u32 v40), .j v41, .j v42, .j v43, .j v44, .os 6 l31.length, .os 7 l47.length, .os 8 l32.length, .os 9 l33.length] false, .arr 3 l31 l31.length false, .arr 3 l47 l47.length false, .arr 3 l32 l32.length false, .arr 33 l33 l33.length false] : Heap DD)) (fun r => match r with | Sum.inl v215 => .ret | Sum.inr (l261, l262, l263, l264, v265, v266, v267, v268, v269, v270, v271, v272, v273, v274, v275) => .exit 0) (fun r => match r with | Sum.inl v215 => [(4, .op 0 1 0 0), (5, .j v215)] | Sum.inr (l261, l262, l263, l264, v265, v266, v267, v268, v269, v270, v271, v272, v273, v274, v275) => [(4, .op 0 1 0 0), (5, .z), (7, .op 5 1 0 0)]) (fun r => match r with | Sum.inl v215 => [b0_k_palingref11_Read_L3, .n 3, .n 3, .n 3, .n 33] | Sum.inr (l261, l262, l263, l264, v265, v266, v267, v268, v269, v270, v271, v272, v273, v274, v275) => [b0_k_palingref11_Read_L3, .n 3, .n 3, .n 3, .n 33, .box 37 [.j a2, .j r29, .v (.string v265), .v (.string v266), .v (.string v267), .v (.string v268), .v (.string v269), .v (.int .u64 v270), .v (.int .u32 v271), .j v272, .j v273, .j v274, .j v275, .os 6 l261.length, .os 7 l262.length, .os 8 l263.length, .os 9 l264.length] false, .arr 3 l261 l261.length false, .arr 3 l262 l262.length false, .arr 3 l263 l263.length false, .arr 33 l264 l264.length false]) := by
  refine loop_sound3 (fun s q h => ?_) (fun r => ?_)
  · obtain ⟨l31, l32, l33, v34, v35, v36, v37, v38, v39, v40, v41, v42, v43, v44, v45, v46, l47⟩ := s; replace h : palingref11_Read_L3 a1 a2 v24 r29 l31 l32 l33 v34 v35 v36 v37 v38 v39 v40 v41 v42 v43 v44 v45 v46 l47 = some q := h
    unfold palingref11_Read_L3 at h
    rcases ite_out h with ⟨h48, h⟩ | ⟨h48, h⟩
    · obtain ⟨r210, h209, h⟩ := bind_out h
      obtain ⟨l193, l194, l195, l196, v197, v198, v199, v200, v201, v202, v203, v204, v205, v206, v207, v208⟩ := r210
      rcases ite_out h with ⟨h211, h⟩ | ⟨h211, h⟩
      · injection h with h; subst h; exact rl [4, 5] [0, 10, 11, 12, 13] [.dec true, .skp, .cut [0, 4, 5, 6, 7, 8, 9] [0, 1, 2, 3, 4, 5, 6, 7, 8, 9] .nor [(0, .sl 9 a1), (4, .op 0 1 0 0), (5, .z), (6, .v (.string v24)), (7, .op 5 1 0 0), (8, .j v45), (9, .j v46), (10, .j v208)] [b0_k_palingref11_Read_L3, .n 3, .n 3, .n 3, .n 33, .box 37 [.j a2, .j r29, .v (.string v197), .v (.string v198), .v (.string v199), .v (.string v200), .v (.string v201), .v (.int .u64 v202), .v (.int .u32 v203), .j v204, .j v205, .j v206, .j v207, .os 6 l193.length, .os 7 l194.length, .os 8 l195.length, .os 9 l196.length] false, .arr 3 l193 l193.length false, .arr 3 l194 l194.length false, .arr 3 l195 l195.length false, .arr 33 l196 l196.length false], .dec true] (by kernel_rfl) (pc (h48) <| pc (k_palingref11_Read_J4 h209) <| pc (h211) <| pn)
      · rcases ite_out h with ⟨h212, h⟩ | ⟨h212, h⟩
        · rcases ite_out h with ⟨h213, h⟩ | ⟨h213, h⟩
          · injection h with h; subst h; exact rl [0, 4, 5, 6, 7, 8, 9] [0, 1, 2, 3, 4, 5, 6, 7, 8, 9] [.dec true, .skp, .cut [0, 4, 5, 6, 7, 8, 9] [0, 1, 2, 3, 4, 5, 6, 7, 8, 9] .nor [(0, .sl 9 a1), (4, .op 0 1 0 0), (5, .z), (6, .v (.string v24)), (7, .op 5 1 0 0), (8, .j v45), (9, .j v46), (10, .j v208)] [b0_k_palingref11_Read_L3, .n 3, .n 3, .n 3, .n 33, .box 37 [.j a2, .j r29, .v (.string v197), .v (.string v198), .v (.string v199), .v (.string v200), .v (.string v201), .v (.int .u64 v202), .v (.int .u32 v203), .j v204, .j v205, .j v206, .j v207, .os 6 l193.length, .os 7 l194.length, .os 8 l195.length, .os 9 l196.length] false, .arr 3 l193 l193.length false, .arr 3 l194 l194.length false, .arr 3 l195 l195.length false, .arr 33 l196 l196.length false], .dec false, .dec true] (by kernel_rfl) (pc (h48) <| pc (k_palingref11_Read_J4 h209) <| pc (h211) <| pc (of_decide_eq_true h212) <| pc (h213) <| pn)
          · injection h with h; subst h; exact rl [0, 4, 5, 6, 7, 8, 9] [0, 1, 2, 3, 4, 5, 6, 7, 8, 9] [.dec true, .skp, .cut [0, 4, 5, 6, 7, 8, 9] [0, 1, 2, 3, 4, 5, 6, 7, 8, 9] .nor [(0, .sl 9 a1), (4, .op 0 1 0 0), (5, .z), (6, .v (.string v24)), (7, .op 5 1 0 0), (8, .j v45), (9, .j v46), (10, .j v208)] [b0_k_palingref11_Read_L3, .n 3, .n 3, .n 3, .n 33, .box 37 [.j a2, .j r29, .v (.string v197), .v (.string v198), .v (.string v199), .v (.string v200), .v (.string v201), .v (.int .u64 v202), .v (.int .u32 v203), .j v204, .j v205, .j v206, .j v207, .os 6 l193.length, .os 7 l194.length, .os 8 l195.length, .os 9 l196.length] false, .arr 3 l193 l193.length false, .arr 3 l194 l194.length false, .arr 3 l195 l195.length false, .arr 33 l196 l196.length false], .dec false, .dec false] (by kernel_rfl) (pc (h48) <| pc (k_palingref11_Read_J4 h209) <| pc (h211) <| pc (of_decide_eq_true h212) <| pc (h213) <| pn)
        · cases h
    · injection h with h; subst h; exact rl [4, 5, 7] [0, 1, 2, 3, 4, 5, 6, 7, 8, 9] [.dec false] (by kernel_rfl) (pc (h48) <| pn)
  · rcases r with _ | _ <;> exact Ex.noConfusion

def b0_k_palingref11_Read : List (AObj DD) := [.box 37 [.z, .z, .e, .e, .e, .e, .e, .v (.int .u64 0), .v (.int .u32 0), .z, .z, .z, .z, .os 1 0, .os 2 0, .os 3 0, .os 4 0] false, .n 3, .n 3, .n 3, .n 33]
def b1_k_palingref11_Read : AObj DD := .box 37 [.z, .z, .e, .e, .e, .e, .e, .v (.int .u64 0), .v (.int .u32 0), .z, .z, .z, .z, .os 1 0, .os 2 0, .os 3 0, .os 4 0] false
theorem k_palingref11_Read {a1 : List ByteArray} {a2 : Int} {r : ((List Int) × (List Int) × (List Int) × (List Int) × Int × Int × ByteArray × ByteArray × ByteArray × ByteArray × ByteArray × Int × Int × Int × Int × Int × Int × Int)} (h : palingref11_Read a1 a2 = some r) :
    CallsOK Tryz.prog UU 89 [.sl 9 a1, .j a2] [] ((fun r => match r with | (l282, l283, l284, l285, v286, v287, v288, v289, v290, v291, v292, v293, v294, v295, v296, v297, v298, v299) => .tup [.agg [.j v286, .j v287, .v (.string v288), .v (.string v289), .v (.string v290), .v (.string v291), .v (.string v292), .v (.int .u64 v293), .v (.int .u32 v294), .j v295, .j v296, .j v297, .j v298, .os 0 l282.length, .os 1 l283.length, .os 2 l284.length, .os 3 l285.length], .j v299]) r) ((fun r => match r with | (l282, l283, l284, l285, v286, v287, v288, v289, v290, v291, v292, v293, v294, v295, v296, v297, v298, v299) => [.arr 3 l282 l282.length false, .arr 3 l283 l283.length false, .arr 3 l284 l284.length false, .arr 33 l285 l285.length false]) r) := by
  unfold palingref11_Read at h
  obtain ⟨r3, h4, h⟩ := bind_out h
  obtain ⟨r26, h25, h⟩ := bind_out h
  rcases r26 with v24 | _
  · obtain ⟨x27, h28, h⟩ := bind_out h
    obtain ⟨r29, h30, h⟩ := bind_out h
    obtain ⟨r277, h276, h⟩ := bind_out h
    rcases r277 with v215 | ⟨l261, l262, l263, l264, v265, v266, v267, v268, v269, v270, v271, v272, v273, v274, v275⟩
    · injection h with h; subst h; exact rf Tryz.func89 rfl (some [1, 2, 3, 4]) [.callv (.v (.string r3)), .cut [0, 1, 4, 5, 6] [4, 0, 1, 2, 3] .nor [(0, .sl 9 a1), (1, .j a2), (4, .op 0 1 0 0), (5, .z), (6, .v (.string v24))] b0_k_palingref11_Read, .row (c9 x27), .callv (.j r29), .sum [0, 4, 5, 6, 7, 8, 9] [0, 1, 2, 3, 4, 9, 10, 11, 12, 13] .ret [(4, .op 0 1 0 0), (5, .j v215)] b0_k_palingref11_Read] (by kernel_rfl) (pc (k_palingref11_form h4) <| pc (k_palingref11_Read_J1 h25) <| pc (ob9 h28) <| pc (k_palingref11_kind h30) <| pc (k_palingref11_Read_L3 _ _ h276) <| pn)
    · rcases ite_out h with ⟨h278, h⟩ | ⟨h278, h⟩
      · obtain ⟨r279, h280, h⟩ := bind_out h
        rcases ite_out h with ⟨h281, h⟩ | ⟨h281, h⟩
        · injection h with h; subst h; exact rf Tryz.func89 rfl (some [10, 11, 12, 13]) [.callv (.v (.string r3)), .cut [0, 1, 4, 5, 6] [4, 0, 1, 2, 3] .nor [(0, .sl 9 a1), (1, .j a2), (4, .op 0 1 0 0), (5, .z), (6, .v (.string v24))] b0_k_palingref11_Read, .row (c9 x27), .callv (.j r29), .sum [0, 4, 5, 6, 7, 8, 9] [0, 1, 2, 3, 4, 9, 10, 11, 12, 13] (.exit 0) [(4, .op 0 1 0 0), (5, .z), (7, .op 5 1 0 0)] [b1_k_palingref11_Read, .n 3, .n 3, .n 3, .n 33, .box 37 [.j a2, .j r29, .v (.string v265), .v (.string v266), .v (.string v267), .v (.string v268), .v (.string v269), .v (.int .u64 v270), .v (.int .u32 v271), .j v272, .j v273, .j v274, .j v275, .os 6 l261.length, .os 7 l262.length, .os 8 l263.length, .os 9 l264.length] false, .arr 3 l261 l261.length false, .arr 3 l262 l262.length false, .arr 3 l263 l263.length false, .arr 33 l264 l264.length false], .dec true, .callv (.v (.bool r279)), .dec true] (by kernel_rfl) (pc (k_palingref11_form h4) <| pc (k_palingref11_Read_J1 h25) <| pc (ob9 h28) <| pc (k_palingref11_kind h30) <| pc (k_palingref11_Read_L3 _ _ h276) <| pc (h278) <| pc (k_palingref11_members h280) <| pc ((rn l261.length)) <| pc ((rn l262.length)) <| pc ((rn l263.length)) <| pc ((rn l264.length)) <| pc (h281) <| pn)
        · injection h with h; subst h; exact rf Tryz.func89 rfl (some [6, 7, 8, 9]) [.callv (.v (.string r3)), .cut [0, 1, 4, 5, 6] [4, 0, 1, 2, 3] .nor [(0, .sl 9 a1), (1, .j a2), (4, .op 0 1 0 0), (5, .z), (6, .v (.string v24))] b0_k_palingref11_Read, .row (c9 x27), .callv (.j r29), .sum [0, 4, 5, 6, 7, 8, 9] [0, 1, 2, 3, 4, 9, 10, 11, 12, 13] (.exit 0) [(4, .op 0 1 0 0), (5, .z), (7, .op 5 1 0 0)] [b1_k_palingref11_Read, .n 3, .n 3, .n 3, .n 33, .box 37 [.j a2, .j r29, .v (.string v265), .v (.string v266), .v (.string v267), .v (.string v268), .v (.string v269), .v (.int .u64 v270), .v (.int .u32 v271), .j v272, .j v273, .j v274, .j v275, .os 6 l261.length, .os 7 l262.length, .os 8 l263.length, .os 9 l264.length] false, .arr 3 l261 l261.length false, .arr 3 l262 l262.length false, .arr 3 l263 l263.length false, .arr 33 l264 l264.length false], .dec true, .callv (.v (.bool r279)), .dec false] (by kernel_rfl) (pc (k_palingref11_form h4) <| pc (k_palingref11_Read_J1 h25) <| pc (ob9 h28) <| pc (k_palingref11_kind h30) <| pc (k_palingref11_Read_L3 _ _ h276) <| pc (h278) <| pc (k_palingref11_members h280) <| pc ((rn l261.length)) <| pc ((rn l262.length)) <| pc ((rn l263.length)) <| pc ((rn l264.length)) <| pc (h281) <| pn)
      · injection h with h; subst h; exact rf Tryz.func89 rfl (some [6, 7, 8, 9]) [.callv (.v (.string r3)), .cut [0, 1, 4, 5, 6] [4, 0, 1, 2, 3] .nor [(0, .sl 9 a1), (1, .j a2), (4, .op 0 1 0 0), (5, .z), (6, .v (.string v24))] b0_k_palingref11_Read, .row (c9 x27), .callv (.j r29), .sum [0, 4, 5, 6, 7, 8, 9] [0, 1, 2, 3, 4, 9, 10, 11, 12, 13] (.exit 0) [(4, .op 0 1 0 0), (5, .z), (7, .op 5 1 0 0)] [b1_k_palingref11_Read, .n 3, .n 3, .n 3, .n 33, .box 37 [.j a2, .j r29, .v (.string v265), .v (.string v266), .v (.string v267), .v (.string v268), .v (.string v269), .v (.int .u64 v270), .v (.int .u32 v271), .j v272, .j v273, .j v274, .j v275, .os 6 l261.length, .os 7 l262.length, .os 8 l263.length, .os 9 l264.length] false, .arr 3 l261 l261.length false, .arr 3 l262 l262.length false, .arr 3 l263 l263.length false, .arr 33 l264 l264.length false], .dec false] (by kernel_rfl) (pc (k_palingref11_form h4) <| pc (k_palingref11_Read_J1 h25) <| pc (ob9 h28) <| pc (k_palingref11_kind h30) <| pc (k_palingref11_Read_L3 _ _ h276) <| pc (h278) <| pn)
  · injection h with h; subst h; exact rf Tryz.func89 rfl (some [1, 2, 3, 4]) [.callv (.v (.string r3)), .cut [0, 1, 4, 5, 6] [4, 0, 1, 2, 3] .ret [(4, .op 0 1 0 0), (5, .j 22)] b0_k_palingref11_Read] (by kernel_rfl) (pc (k_palingref11_form h4) <| pc (k_palingref11_Read_J1 h25) <| pn)

theorem k_palingref03_Ints_L1 {a1 : List Int} {a2 : List Int} : LoopOK Tryz.prog UU 0 26 (subC (codeOf Tryz.f22) [1, 1, 0, 1, 0, 0]) (ρ := Unit ⊕ Unit) (palingref03_Ints_L1 a1 a2)
    (fun v4 : Int => ([(0, .sl 3 a1), (1, .sl 3 a2), (4, .v (.bool false)), (5, .j v4)] : Fr DD)) (fun v4 : Int => ([] : Heap DD)) (fun r => match r with | Sum.inl _ => .ret | Sum.inr _ => .exit 0) (fun r => match r with | Sum.inl _ => [(4, .v (.bool false))] | Sum.inr _ => [(4, .v (.bool false))]) (fun r => match r with | Sum.inl _ => [] | Sum.inr _ => []) := by
  refine loop_sound3 (fun s q h => ?_) (fun r => ?_)
  · replace h : palingref03_Ints_L1 a1 a2 s = some q := h; revert h; revert s; intro v4 h
    unfold palingref03_Ints_L1 at h
    rcases ite_out h with ⟨h5, h⟩ | ⟨h5, h⟩
    · obtain ⟨x6, h7, h⟩ := bind_out h
      obtain ⟨x8, h9, h⟩ := bind_out h
      rcases ite_out h with ⟨h10, h⟩ | ⟨h10, h⟩
      · injection h with h; subst h; exact rl [4] [] [.dec true, .row (c3 x6), .row (c3 x8), .dec true] (by kernel_rfl) (pc (h5) <| pc (ob3 h7) <| pc (ob3 h9) <| pc (h10) <| pn)
      · injection h with h; subst h; exact rl [0, 1, 4, 5] [] [.dec true, .row (c3 x6), .row (c3 x8), .dec false] (by kernel_rfl) (pc (h5) <| pc (ob3 h7) <| pc (ob3 h9) <| pc (h10) <| pn)
    · injection h with h; subst h; exact rl [4] [] [.dec false] (by kernel_rfl) (pc (h5) <| pn)
  · rcases r with _ | _ <;> exact Ex.noConfusion

theorem k_palingref03_Ints {a1 : List Int} {a2 : List Int} {r : Bool} (h : palingref03_Ints a1 a2 = some r) :
    CallsOK Tryz.prog UU 22 [.sl 3 a1, .sl 3 a2] [] (.v (.bool r)) [] := by
  unfold palingref03_Ints at h
  rcases ite_out h with ⟨h3, h⟩ | ⟨h3, h⟩
  · injection h with h; subst h; exact rf Tryz.func22 rfl none [.dec true] (by kernel_rfl) (pc (h3) <| pn)
  · obtain ⟨r12, h11, h⟩ := bind_out h
    rcases r12 with _ | _
    · injection h with h; subst h; exact rf Tryz.func22 rfl none [.dec false, .sum [0, 1, 4, 5] [] .ret [(4, .v (.bool false))] []] (by kernel_rfl) (pc (h3) <| pc (k_palingref03_Ints_L1 _ _ h11) <| pn)
    · injection h with h; subst h; exact rf Tryz.func22 rfl none [.dec false, .sum [0, 1, 4, 5] [] (.exit 0) [(4, .v (.bool false))] []] (by kernel_rfl) (pc (h3) <| pc (k_palingref03_Ints_L1 _ _ h11) <| pn)

theorem k_palingref03_Addrs_L1 {a1 : List Int} {a2 : List Int} : LoopOK Tryz.prog UU 0 26 (subC (codeOf Tryz.f23) [1, 1, 0, 1, 0, 0]) (ρ := Unit ⊕ Unit) (palingref03_Addrs_L1 a1 a2)
    (fun v4 : Int => ([(0, .sl 33 a1), (1, .sl 33 a2), (4, .v (.bool false)), (5, .j v4)] : Fr DD)) (fun v4 : Int => ([] : Heap DD)) (fun r => match r with | Sum.inl _ => .ret | Sum.inr _ => .exit 0) (fun r => match r with | Sum.inl _ => [(4, .v (.bool false))] | Sum.inr _ => [(4, .v (.bool false))]) (fun r => match r with | Sum.inl _ => [] | Sum.inr _ => []) := by
  refine loop_sound3 (fun s q h => ?_) (fun r => ?_)
  · replace h : palingref03_Addrs_L1 a1 a2 s = some q := h; revert h; revert s; intro v4 h
    unfold palingref03_Addrs_L1 at h
    rcases ite_out h with ⟨h5, h⟩ | ⟨h5, h⟩
    · obtain ⟨x6, h7, h⟩ := bind_out h
      obtain ⟨x8, h9, h⟩ := bind_out h
      rcases ite_out h with ⟨h10, h⟩ | ⟨h10, h⟩
      · injection h with h; subst h; exact rl [4] [] [.dec true, .row (c33 x6), .row (c33 x8), .dec true] (by kernel_rfl) (pc (h5) <| pc (ob33 h7) <| pc (ob33 h9) <| pc (h10) <| pn)
      · injection h with h; subst h; exact rl [0, 1, 4, 5] [] [.dec true, .row (c33 x6), .row (c33 x8), .dec false] (by kernel_rfl) (pc (h5) <| pc (ob33 h7) <| pc (ob33 h9) <| pc (h10) <| pn)
    · injection h with h; subst h; exact rl [4] [] [.dec false] (by kernel_rfl) (pc (h5) <| pn)
  · rcases r with _ | _ <;> exact Ex.noConfusion

theorem k_palingref03_Addrs {a1 : List Int} {a2 : List Int} {r : Bool} (h : palingref03_Addrs a1 a2 = some r) :
    CallsOK Tryz.prog UU 23 [.sl 33 a1, .sl 33 a2] [] (.v (.bool r)) [] := by
  unfold palingref03_Addrs at h
  rcases ite_out h with ⟨h3, h⟩ | ⟨h3, h⟩
  · injection h with h; subst h; exact rf Tryz.func23 rfl none [.dec true] (by kernel_rfl) (pc (h3) <| pn)
  · obtain ⟨r12, h11, h⟩ := bind_out h
    rcases r12 with _ | _
    · injection h with h; subst h; exact rf Tryz.func23 rfl none [.dec false, .sum [0, 1, 4, 5] [] .ret [(4, .v (.bool false))] []] (by kernel_rfl) (pc (h3) <| pc (k_palingref03_Addrs_L1 _ _ h11) <| pn)
    · injection h with h; subst h; exact rf Tryz.func23 rfl none [.dec false, .sum [0, 1, 4, 5] [] (.exit 0) [(4, .v (.bool false))] []] (by kernel_rfl) (pc (h3) <| pc (k_palingref03_Addrs_L1 _ _ h11) <| pn)

theorem k_palingref11_Same {a1 : Api_Line} {a2 : Api_Line} {r : Bool} (h : palingref11_Same a1 a2 = some r) :
    CallsOK Tryz.prog UU 91 [.agg (c37 a1), .agg (c37 a2)] [] (.v (.bool r)) [] := by
  unfold palingref11_Same at h
  rcases ite_out h with ⟨h3, h⟩ | ⟨h3, h⟩
  · rcases ite_out h with ⟨h4, h⟩ | ⟨h4, h⟩
    · rcases ite_out h with ⟨h5, h⟩ | ⟨h5, h⟩
      · rcases ite_out h with ⟨h6, h⟩ | ⟨h6, h⟩
        · rcases ite_out h with ⟨h7, h⟩ | ⟨h7, h⟩
          · rcases ite_out h with ⟨h8, h⟩ | ⟨h8, h⟩
            · rcases ite_out h with ⟨h9, h⟩ | ⟨h9, h⟩
              · rcases ite_out h with ⟨h10, h⟩ | ⟨h10, h⟩
                · rcases ite_out h with ⟨h11, h⟩ | ⟨h11, h⟩
                  · rcases ite_out h with ⟨h12, h⟩ | ⟨h12, h⟩
                    · rcases ite_out h with ⟨h13, h⟩ | ⟨h13, h⟩
                      · rcases ite_out h with ⟨h14, h⟩ | ⟨h14, h⟩
                        · rcases ite_out h with ⟨h15, h⟩ | ⟨h15, h⟩
                          · obtain ⟨r16, h17, h⟩ := bind_out h
                            rcases ite_out h with ⟨h18, h⟩ | ⟨h18, h⟩
                            · obtain ⟨r19, h20, h⟩ := bind_out h
                              rcases ite_out h with ⟨h21, h⟩ | ⟨h21, h⟩
                              · obtain ⟨r22, h23, h⟩ := bind_out h
                                rcases ite_out h with ⟨h24, h⟩ | ⟨h24, h⟩
                                · obtain ⟨r25, h26, h⟩ := bind_out h
                                  injection h with h; subst h; exact rf Tryz.func91 rfl none [.dec true, .dec true, .dec true, .dec true, .dec true, .dec true, .dec true, .dec true, .dec true, .dec true, .dec true, .dec true, .dec true, .callv (.v (.bool r16)), .dec true, .callv (.v (.bool r19)), .dec true, .callv (.v (.bool r22)), .dec true, .callv (.v (.bool r25))] (by kernel_rfl) (pc (h3) <| pc (h4) <| pc (h5) <| pc (h6) <| pc (h7) <| pc (h8) <| pc (h9) <| pc (h10) <| pc (h11) <| pc (h12) <| pc (h13) <| pc (h14) <| pc (h15) <| pc (k_palingref03_Ints h17) <| pc (h18) <| pc (k_palingref03_Ints h20) <| pc (h21) <| pc (k_palingref03_Ints h23) <| pc (h24) <| pc (k_palingref03_Addrs h26) <| pn)
                                · injection h with h; subst h; exact rf Tryz.func91 rfl none [.dec true, .dec true, .dec true, .dec true, .dec true, .dec true, .dec true, .dec true, .dec true, .dec true, .dec true, .dec true, .dec true, .callv (.v (.bool r16)), .dec true, .callv (.v (.bool r19)), .dec true, .callv (.v (.bool r22)), .dec false] (by kernel_rfl) (pc (h3) <| pc (h4) <| pc (h5) <| pc (h6) <| pc (h7) <| pc (h8) <| pc (h9) <| pc (h10) <| pc (h11) <| pc (h12) <| pc (h13) <| pc (h14) <| pc (h15) <| pc (k_palingref03_Ints h17) <| pc (h18) <| pc (k_palingref03_Ints h20) <| pc (h21) <| pc (k_palingref03_Ints h23) <| pc (h24) <| pn)
                              · injection h with h; subst h; exact rf Tryz.func91 rfl none [.dec true, .dec true, .dec true, .dec true, .dec true, .dec true, .dec true, .dec true, .dec true, .dec true, .dec true, .dec true, .dec true, .callv (.v (.bool r16)), .dec true, .callv (.v (.bool r19)), .dec false] (by kernel_rfl) (pc (h3) <| pc (h4) <| pc (h5) <| pc (h6) <| pc (h7) <| pc (h8) <| pc (h9) <| pc (h10) <| pc (h11) <| pc (h12) <| pc (h13) <| pc (h14) <| pc (h15) <| pc (k_palingref03_Ints h17) <| pc (h18) <| pc (k_palingref03_Ints h20) <| pc (h21) <| pn)
                            · injection h with h; subst h; exact rf Tryz.func91 rfl none [.dec true, .dec true, .dec true, .dec true, .dec true, .dec true, .dec true, .dec true, .dec true, .dec true, .dec true, .dec true, .dec true, .callv (.v (.bool r16)), .dec false] (by kernel_rfl) (pc (h3) <| pc (h4) <| pc (h5) <| pc (h6) <| pc (h7) <| pc (h8) <| pc (h9) <| pc (h10) <| pc (h11) <| pc (h12) <| pc (h13) <| pc (h14) <| pc (h15) <| pc (k_palingref03_Ints h17) <| pc (h18) <| pn)
                          · injection h with h; subst h; exact rf Tryz.func91 rfl none [.dec true, .dec true, .dec true, .dec true, .dec true, .dec true, .dec true, .dec true, .dec true, .dec true, .dec true, .dec true, .dec false] (by kernel_rfl) (pc (h3) <| pc (h4) <| pc (h5) <| pc (h6) <| pc (h7) <| pc (h8) <| pc (h9) <| pc (h10) <| pc (h11) <| pc (h12) <| pc (h13) <| pc (h14) <| pc (h15) <| pn)
                        · injection h with h; subst h; exact rf Tryz.func91 rfl none [.dec true, .dec true, .dec true, .dec true, .dec true, .dec true, .dec true, .dec true, .dec true, .dec true, .dec true, .dec false] (by kernel_rfl) (pc (h3) <| pc (h4) <| pc (h5) <| pc (h6) <| pc (h7) <| pc (h8) <| pc (h9) <| pc (h10) <| pc (h11) <| pc (h12) <| pc (h13) <| pc (h14) <| pn)
                      · injection h with h; subst h; exact rf Tryz.func91 rfl none [.dec true, .dec true, .dec true, .dec true, .dec true, .dec true, .dec true, .dec true, .dec true, .dec true, .dec false] (by kernel_rfl) (pc (h3) <| pc (h4) <| pc (h5) <| pc (h6) <| pc (h7) <| pc (h8) <| pc (h9) <| pc (h10) <| pc (h11) <| pc (h12) <| pc (h13) <| pn)
                    · injection h with h; subst h; exact rf Tryz.func91 rfl none [.dec true, .dec true, .dec true, .dec true, .dec true, .dec true, .dec true, .dec true, .dec true, .dec false] (by kernel_rfl) (pc (h3) <| pc (h4) <| pc (h5) <| pc (h6) <| pc (h7) <| pc (h8) <| pc (h9) <| pc (h10) <| pc (h11) <| pc (h12) <| pn)
                  · injection h with h; subst h; exact rf Tryz.func91 rfl none [.dec true, .dec true, .dec true, .dec true, .dec true, .dec true, .dec true, .dec true, .dec false] (by kernel_rfl) (pc (h3) <| pc (h4) <| pc (h5) <| pc (h6) <| pc (h7) <| pc (h8) <| pc (h9) <| pc (h10) <| pc (h11) <| pn)
                · injection h with h; subst h; exact rf Tryz.func91 rfl none [.dec true, .dec true, .dec true, .dec true, .dec true, .dec true, .dec true, .dec false] (by kernel_rfl) (pc (h3) <| pc (h4) <| pc (h5) <| pc (h6) <| pc (h7) <| pc (h8) <| pc (h9) <| pc (h10) <| pn)
              · injection h with h; subst h; exact rf Tryz.func91 rfl none [.dec true, .dec true, .dec true, .dec true, .dec true, .dec true, .dec false] (by kernel_rfl) (pc (h3) <| pc (h4) <| pc (h5) <| pc (h6) <| pc (h7) <| pc (h8) <| pc (h9) <| pn)
            · injection h with h; subst h; exact rf Tryz.func91 rfl none [.dec true, .dec true, .dec true, .dec true, .dec true, .dec false] (by kernel_rfl) (pc (h3) <| pc (h4) <| pc (h5) <| pc (h6) <| pc (h7) <| pc (h8) <| pn)
          · injection h with h; subst h; exact rf Tryz.func91 rfl none [.dec true, .dec true, .dec true, .dec true, .dec false] (by kernel_rfl) (pc (h3) <| pc (h4) <| pc (h5) <| pc (h6) <| pc (h7) <| pn)
        · injection h with h; subst h; exact rf Tryz.func91 rfl none [.dec true, .dec true, .dec true, .dec false] (by kernel_rfl) (pc (h3) <| pc (h4) <| pc (h5) <| pc (h6) <| pn)
      · injection h with h; subst h; exact rf Tryz.func91 rfl none [.dec true, .dec true, .dec false] (by kernel_rfl) (pc (h3) <| pc (h4) <| pc (h5) <| pn)
    · injection h with h; subst h; exact rf Tryz.func91 rfl none [.dec true, .dec false] (by kernel_rfl) (pc (h3) <| pc (h4) <| pn)
  · injection h with h; subst h; exact rf Tryz.func91 rfl none [.dec false] (by kernel_rfl) (pc (h3) <| pn)

theorem k_palingref11_Right {a1 : Api_Line} {r : Bool} (h : palingref11_Right a1 = some r) :
    CallsOK Tryz.prog UU 60 [.agg (c37 a1)] [] (.v (.bool r)) [] := by
  unfold palingref11_Right at h
  rcases ite_out h with ⟨h2, h⟩ | ⟨h2, h⟩
  · injection h with h; subst h; exact rf Tryz.func60 rfl none [.dec true] (by kernel_rfl) (pc (h2) <| pn)
  · rcases ite_out h with ⟨h3, h⟩ | ⟨h3, h⟩
    · injection h with h; subst h; exact rf Tryz.func60 rfl none [.dec false, .dec true] (by kernel_rfl) (pc (h2) <| pc (h3) <| pn)
    · rcases ite_out h with ⟨h4, h⟩ | ⟨h4, h⟩
      · injection h with h; subst h; exact rf Tryz.func60 rfl none [.dec false, .dec false, .dec true] (by kernel_rfl) (pc (h2) <| pc (h3) <| pc (h4) <| pn)
      · rcases ite_out h with ⟨h5, h⟩ | ⟨h5, h⟩
        · injection h with h; subst h; exact rf Tryz.func60 rfl none [.dec false, .dec false, .dec false, .dec true] (by kernel_rfl) (pc (h2) <| pc (h3) <| pc (h4) <| pc (h5) <| pn)
        · obtain ⟨l8, h7, h⟩ := bind_out h
          obtain ⟨r9, h10, h⟩ := bind_out h
          obtain ⟨l11, l12, l13, l14, v15, v16, v17, v18, v19, v20, v21, v22, v23, v24, v25, v26, v27, v28⟩ := r9
          rcases ite_out h with ⟨h29, h⟩ | ⟨h29, h⟩
          · obtain ⟨r30, h31, h⟩ := bind_out h
            injection h with h; subst h; exact rf Tryz.func60 rfl none [.dec false, .dec false, .dec false, .dec false, .sum [1] [] .nor [] [.box 37 (c37 a1) false, .arr 9 l8 l8.length false], .sum [4] [] .nor [] [.box 37 (c37 a1) false, .arr 9 l8 l8.length false, .arr 3 l11 l11.length false, .arr 3 l12 l12.length false, .arr 3 l13 l13.length false, .arr 33 l14 l14.length false], .callo (.os 0 l8.length) [.arr 9 l8 l8.length false], .callo (.tup [.agg [.j v15, .j v16, .v (.string v17), .v (.string v18), .v (.string v19), .v (.string v20), .v (.string v21), .v (.int .u64 v22), .v (.int .u32 v23), .j v24, .j v25, .j v26, .j v27, .os 0 l11.length, .os 1 l12.length, .os 2 l13.length, .os 3 l14.length], .j v28]) [.arr 3 l11 l11.length false, .arr 3 l12 l12.length false, .arr 3 l13 l13.length false, .arr 33 l14 l14.length false], .dec true, .callv (.v (.bool r30))] (by kernel_rfl) (pc (h2) <| pc (h3) <| pc (h4) <| pc (h5) <| pc ((rfl : ([.box 37 (c37 a1) false, .arr 9 l8 l8.length false] : Heap DD) = [.box 37 (c37 a1) false, .arr 9 l8 l8.length false])) <| pc (k_palingref11_Words h7) <| pc (im9 l8) <| pc ((rfl : (.op 0 1 0 0 : AV DD) = .op 0 1 0 0)) <| pc ((rfl : (.v (.int .i64 a1.row) : AV DD) = .v (.int .i64 a1.row))) <| pc ((rfl : ([.box 37 (c37 a1) false, .arr 9 l8 l8.length false, .arr 3 l11 l11.length false, .arr 3 l12 l12.length false, .arr 3 l13 l13.length false, .arr 33 l14 l14.length false] : Heap DD) = [.box 37 (c37 a1) false, .arr 9 l8 l8.length false, .arr 3 l11 l11.length false, .arr 3 l12 l12.length false, .arr 3 l13 l13.length false, .arr 33 l14 l14.length false])) <| pc (k_palingref11_Read h10) <| pc (im3 l11) <| pc (im3 l12) <| pc (im3 l13) <| pc (im33 l14) <| pc ((rn l8.length)) <| pc (h29) <| pc (k_palingref11_Same h31) <| pc ((rn l11.length)) <| pc ((rn l12.length)) <| pc ((rn l13.length)) <| pc ((rn l14.length)) <| pn)
          · injection h with h; subst h; exact rf Tryz.func60 rfl none [.dec false, .dec false, .dec false, .dec false, .sum [1] [] .nor [] [.box 37 (c37 a1) false, .arr 9 l8 l8.length false], .sum [4] [] .nor [] [.box 37 (c37 a1) false, .arr 9 l8 l8.length false, .arr 3 l11 l11.length false, .arr 3 l12 l12.length false, .arr 3 l13 l13.length false, .arr 33 l14 l14.length false], .callo (.os 0 l8.length) [.arr 9 l8 l8.length false], .callo (.tup [.agg [.j v15, .j v16, .v (.string v17), .v (.string v18), .v (.string v19), .v (.string v20), .v (.string v21), .v (.int .u64 v22), .v (.int .u32 v23), .j v24, .j v25, .j v26, .j v27, .os 0 l11.length, .os 1 l12.length, .os 2 l13.length, .os 3 l14.length], .j v28]) [.arr 3 l11 l11.length false, .arr 3 l12 l12.length false, .arr 3 l13 l13.length false, .arr 33 l14 l14.length false], .dec false] (by kernel_rfl) (pc (h2) <| pc (h3) <| pc (h4) <| pc (h5) <| pc ((rfl : ([.box 37 (c37 a1) false, .arr 9 l8 l8.length false] : Heap DD) = [.box 37 (c37 a1) false, .arr 9 l8 l8.length false])) <| pc (k_palingref11_Words h7) <| pc (im9 l8) <| pc ((rfl : (.op 0 1 0 0 : AV DD) = .op 0 1 0 0)) <| pc ((rfl : (.v (.int .i64 a1.row) : AV DD) = .v (.int .i64 a1.row))) <| pc ((rfl : ([.box 37 (c37 a1) false, .arr 9 l8 l8.length false, .arr 3 l11 l11.length false, .arr 3 l12 l12.length false, .arr 3 l13 l13.length false, .arr 33 l14 l14.length false] : Heap DD) = [.box 37 (c37 a1) false, .arr 9 l8 l8.length false, .arr 3 l11 l11.length false, .arr 3 l12 l12.length false, .arr 3 l13 l13.length false, .arr 33 l14 l14.length false])) <| pc (k_palingref11_Read h10) <| pc (im3 l11) <| pc (im3 l12) <| pc (im3 l13) <| pc (im33 l14) <| pc ((rn l8.length)) <| pc (h29) <| pn)

theorem k_palingref15_Place {a1 : Int} {a2 : Int} {r : Bool} (h : palingref15_Place a1 a2 = some r) :
    CallsOK Tryz.prog UU 115 [.j a1, .j a2] [] (.v (.bool r)) [] := by
  unfold palingref15_Place at h
  rcases ite_out h with ⟨h3, h⟩ | ⟨h3, h⟩
  · injection h with h; subst h; exact rf Tryz.func115 rfl none [.dec true] (by kernel_rfl) (pc (h3) <| pn)
  · injection h with h; subst h; exact rf Tryz.func115 rfl none [.dec false] (by kernel_rfl) (pc (h3) <| pn)

theorem k_palingref15_At_L1 {a1 : Api_Net} {a2 : Int} {a3 : Int} : LoopOK Tryz.prog UU 0 34 (subC (codeOf Tryz.f116) [1, 0, 1, 0, 0]) (ρ := Int ⊕ Unit) (palingref15_At_L1 a1 a2 a3)
    (fun v4 : Int => ([(1, .j a2), (2, .j a3), (3, .op 0 1 0 0), (6, .z), (7, .j v4)] : Fr DD)) (fun v4 : Int => ([.box 31 (c31 a1) false] : Heap DD)) (fun r => match r with | Sum.inl v13 => .ret | Sum.inr _ => .exit 0) (fun r => match r with | Sum.inl v13 => [(6, .j v13)] | Sum.inr _ => [(6, .z)]) (fun r => match r with | Sum.inl v13 => [] | Sum.inr _ => []) := by
  refine loop_sound3 (fun s q h => ?_) (fun r => ?_)
  · replace h : palingref15_At_L1 a1 a2 a3 s = some q := h; revert h; revert s; intro v4 h
    unfold palingref15_At_L1 at h
    rcases ite_out h with ⟨h5, h⟩ | ⟨h5, h⟩
    · obtain ⟨x6, h7, h⟩ := bind_out h
      rcases ite_out h with ⟨h8, h⟩ | ⟨h8, h⟩
      · obtain ⟨x9, h10, h⟩ := bind_out h
        rcases ite_out h with ⟨h11, h⟩ | ⟨h11, h⟩
        · injection h with h; subst h; exact rl [6] [] [.dec true, .row (c56 x6), .dec true, .row (c56 x9), .dec true] (by kernel_rfl) (pc (h5) <| pc (ob56 h7) <| pc (h8) <| pc (ob56 h10) <| pc (h11) <| pn)
        · injection h with h; subst h; exact rl [1, 2, 3, 6, 7] [0] [.dec true, .row (c56 x6), .dec true, .row (c56 x9), .dec false] (by kernel_rfl) (pc (h5) <| pc (ob56 h7) <| pc (h8) <| pc (ob56 h10) <| pc (h11) <| pn)
      · injection h with h; subst h; exact rl [1, 2, 3, 6, 7] [0] [.dec true, .row (c56 x6), .dec false] (by kernel_rfl) (pc (h5) <| pc (ob56 h7) <| pc (h8) <| pn)
    · injection h with h; subst h; exact rl [6] [] [.dec false] (by kernel_rfl) (pc (h5) <| pn)
  · rcases r with _ | _ <;> exact Ex.noConfusion

theorem k_palingref15_At {a1 : Api_Net} {a2 : Int} {a3 : Int} {r : Int} (h : palingref15_At a1 a2 a3 = some r) :
    CallsOK Tryz.prog UU 116 [.agg (c31 a1), .j a2, .j a3] [] (.j r) [] := by
  unfold palingref15_At at h
  obtain ⟨r15, h14, h⟩ := bind_out h
  rcases r15 with v13 | _
  · injection h with h; subst h; exact rf Tryz.func116 rfl none [.sum [1, 2, 3, 6, 7] [0] .ret [(6, .j v13)] []] (by kernel_rfl) (pc (k_palingref15_At_L1 _ _ h14) <| pn)
  · injection h with h; subst h; exact rf Tryz.func116 rfl none [.sum [1, 2, 3, 6, 7] [0] (.exit 0) [(6, .z)] []] (by kernel_rfl) (pc (k_palingref15_At_L1 _ _ h14) <| pn)

theorem k_palingref15_In_L1 {a1 : List Int} {a2 : Int} : LoopOK Tryz.prog UU 0 18 (subC (codeOf Tryz.f118) [1, 0, 1, 0, 0]) (ρ := Unit ⊕ Unit) (palingref15_In_L1 a1 a2)
    (fun v3 : Int => ([(0, .sl 3 a1), (1, .j a2), (4, .v (.bool false)), (5, .j v3)] : Fr DD)) (fun v3 : Int => ([] : Heap DD)) (fun r => match r with | Sum.inl _ => .ret | Sum.inr _ => .exit 0) (fun r => match r with | Sum.inl _ => [(4, .v (.bool true))] | Sum.inr _ => [(4, .v (.bool false))]) (fun r => match r with | Sum.inl _ => [] | Sum.inr _ => []) := by
  refine loop_sound3 (fun s q h => ?_) (fun r => ?_)
  · replace h : palingref15_In_L1 a1 a2 s = some q := h; revert h; revert s; intro v3 h
    unfold palingref15_In_L1 at h
    rcases ite_out h with ⟨h4, h⟩ | ⟨h4, h⟩
    · obtain ⟨x5, h6, h⟩ := bind_out h
      rcases ite_out h with ⟨h7, h⟩ | ⟨h7, h⟩
      · injection h with h; subst h; exact rl [4] [] [.dec true, .row (c3 x5), .dec true] (by kernel_rfl) (pc (h4) <| pc (ob3 h6) <| pc (h7) <| pn)
      · injection h with h; subst h; exact rl [0, 1, 4, 5] [] [.dec true, .row (c3 x5), .dec false] (by kernel_rfl) (pc (h4) <| pc (ob3 h6) <| pc (h7) <| pn)
    · injection h with h; subst h; exact rl [4] [] [.dec false] (by kernel_rfl) (pc (h4) <| pn)
  · rcases r with _ | _ <;> exact Ex.noConfusion

theorem k_palingref15_In {a1 : List Int} {a2 : Int} {r : Bool} (h : palingref15_In a1 a2 = some r) :
    CallsOK Tryz.prog UU 118 [.sl 3 a1, .j a2] [] (.v (.bool r)) [] := by
  unfold palingref15_In at h
  obtain ⟨r9, h8, h⟩ := bind_out h
  rcases r9 with _ | _
  · injection h with h; subst h; exact rf Tryz.func118 rfl none [.sum [0, 1, 4, 5] [] .ret [(4, .v (.bool true))] []] (by kernel_rfl) (pc (k_palingref15_In_L1 _ _ h8) <| pn)
  · injection h with h; subst h; exact rf Tryz.func118 rfl none [.sum [0, 1, 4, 5] [] (.exit 0) [(4, .v (.bool false))] []] (by kernel_rfl) (pc (k_palingref15_In_L1 _ _ h8) <| pn)

theorem k_palingref15_peer {a1 : Api_Net} {a2 : Int} {a3 : Int} {r : Bool} (h : palingref15_peer a1 a2 a3 = some r) :
    CallsOK Tryz.prog UU 117 [.agg (c31 a1), .j a2, .j a3] [] (.v (.bool r)) [] := by
  unfold palingref15_peer at h
  obtain ⟨r4, h5, h⟩ := bind_out h
  rcases ite_out h with ⟨h6, h⟩ | ⟨h6, h⟩
  · injection h with h; subst h; exact rf Tryz.func117 rfl none [.callv (.v (.bool r4)), .dec true] (by kernel_rfl) (pc (k_palingref15_Place h5) <| pc (h6) <| pn)
  · rcases ite_out h with ⟨h7, h⟩ | ⟨h7, h⟩
    · injection h with h; subst h; exact rf Tryz.func117 rfl none [.callv (.v (.bool r4)), .dec false, .dec true] (by kernel_rfl) (pc (k_palingref15_Place h5) <| pc (h6) <| pc (h7) <| pn)
    · obtain ⟨x8, h9, h⟩ := bind_out h
      obtain ⟨x10, h11, h⟩ := bind_out h
      rcases ite_out h with ⟨h12, h⟩ | ⟨h12, h⟩
      · rcases ite_out h with ⟨h13, h⟩ | ⟨h13, h⟩
        · rcases ite_out h with ⟨h14, h⟩ | ⟨h14, h⟩
          · obtain ⟨x15, h16, h⟩ := bind_out h
            rcases ite_out h with ⟨h17, h⟩ | ⟨h17, h⟩
            · obtain ⟨x18, h19, h⟩ := bind_out h
              rcases ite_out h with ⟨h20, h⟩ | ⟨h20, h⟩
              · obtain ⟨r21, h22, h⟩ := bind_out h
                injection h with h; subst h; exact rf Tryz.func117 rfl none [.callv (.v (.bool r4)), .dec false, .dec false, .row (c56 x8), .row (c56 x10), .dec true, .dec true, .dec true, .row (c50 x15), .dec true, .row (c50 x18), .dec true, .callv (.v (.bool r21))] (by kernel_rfl) (pc (k_palingref15_Place h5) <| pc (h6) <| pc (h7) <| pc (ob56 h9) <| pc (ob56 h11) <| pc (h12) <| pc (h13) <| pc (h14) <| pc (ob50 h16) <| pc (h17) <| pc (ob50 h19) <| pc (h20) <| pc (k_palingref15_In h22) <| pn)
              · injection h with h; subst h; exact rf Tryz.func117 rfl none [.callv (.v (.bool r4)), .dec false, .dec false, .row (c56 x8), .row (c56 x10), .dec true, .dec true, .dec true, .row (c50 x15), .dec true, .row (c50 x18), .dec false] (by kernel_rfl) (pc (k_palingref15_Place h5) <| pc (h6) <| pc (h7) <| pc (ob56 h9) <| pc (ob56 h11) <| pc (h12) <| pc (h13) <| pc (h14) <| pc (ob50 h16) <| pc (h17) <| pc (ob50 h19) <| pc (h20) <| pn)
            · injection h with h; subst h; exact rf Tryz.func117 rfl none [.callv (.v (.bool r4)), .dec false, .dec false, .row (c56 x8), .row (c56 x10), .dec true, .dec true, .dec true, .row (c50 x15), .dec false] (by kernel_rfl) (pc (k_palingref15_Place h5) <| pc (h6) <| pc (h7) <| pc (ob56 h9) <| pc (ob56 h11) <| pc (h12) <| pc (h13) <| pc (h14) <| pc (ob50 h16) <| pc (h17) <| pn)
          · injection h with h; subst h; exact rf Tryz.func117 rfl none [.callv (.v (.bool r4)), .dec false, .dec false, .row (c56 x8), .row (c56 x10), .dec true, .dec true, .dec false] (by kernel_rfl) (pc (k_palingref15_Place h5) <| pc (h6) <| pc (h7) <| pc (ob56 h9) <| pc (ob56 h11) <| pc (h12) <| pc (h13) <| pc (h14) <| pn)
        · injection h with h; subst h; exact rf Tryz.func117 rfl none [.callv (.v (.bool r4)), .dec false, .dec false, .row (c56 x8), .row (c56 x10), .dec true, .dec false] (by kernel_rfl) (pc (k_palingref15_Place h5) <| pc (h6) <| pc (h7) <| pc (ob56 h9) <| pc (ob56 h11) <| pc (h12) <| pc (h13) <| pn)
      · injection h with h; subst h; exact rf Tryz.func117 rfl none [.callv (.v (.bool r4)), .dec false, .dec false, .row (c56 x8), .row (c56 x10), .dec false] (by kernel_rfl) (pc (k_palingref15_Place h5) <| pc (h6) <| pc (h7) <| pc (ob56 h9) <| pc (ob56 h11) <| pc (h12) <| pn)

end Go.Eng
