/- Part of the proof of DomainsStatics: printed mirrors of the functions, or their contracts. No conditions. -/
import Derived.Test.YtngflgclljfmjaaGreatMAK5
set_option linter.unusedVariables false
set_option maxRecDepth 100000
namespace Go.Eng
open Go Go.Proofs
theorem k_palingref01_number_L1 {a1 : List Int} : LoopOK Tryz.prog UU 0 20 (subC (codeOf Tryz.f299) [1, 1, 0, 1, 0, 0]) (fun s : Int × Int => match s with | (v2, v3) => palingref01_number_L1 a1 v2 v3)
    (fun s : Int × Int => (match s with | (v2, v3) => [(0, .sl 5 a1), (2, .v (.int .u64 0)), (3, .v (.int .u64 v2)), (4, .j v3)] : Fr DD)) (fun s : Int × Int => (match s with | (v2, v3) => [] : Heap DD)) (fun r => match r with | v8 => .exit 0) (fun r => match r with | v8 => [(2, .v (.int .u64 0)), (3, .v (.int .u64 v8))]) (fun r => match r with | v8 => []) := by
  refine loop_sound3 (fun s q h => ?_) (fun r => ?_)
  · obtain ⟨v2, v3⟩ := s; replace h : palingref01_number_L1 a1 v2 v3 = some q := h
    unfold palingref01_number_L1 at h
    obtain ⟨h4, h⟩|⟨h4, h⟩ := ite_out h
    · obtain ⟨x5, h6, h⟩ := bo h
      injection h with h; subst h; exact rl [0, 2, 3, 4] [] [.t, .row (c5 x5)] (pc h4<|pc (ob5 h6)<|pn)
    · injection h with h; subst h; exact rl [2, 3] [] [.f] (pc h4<|pn)
  · exact Ex.noConfusion

theorem k_palingref01_number {a1 : List Int} {r : Int} (h : palingref01_number a1 = some r) :
    CallsOK Tryz.prog UU 299 [.sl 5 a1] [] (.v (.int .u64 r)) [] := by
  unfold palingref01_number at h
  obtain ⟨v8, h9, h⟩ := bo h
  injection h with h; subst h; exact rf Tryz.func299 none [.sum [0, 2, 3, 4] [] (.exit 0) [(2, .v (.int .u64 0)), (3, .v (.int .u64 v8))] []] (pc (k_palingref01_number_L1 _ _ h9)<|pn)

theorem k_palingref01_IsHost {a1 : Int} {r : Int × Bool} (h : palingref01_IsHost a1 = some r) :
    CallsOK Tryz.prog UU 294 [.v (.int .u64 a1)] [] (.tup [.v (.int .u32 r.1), .v (.bool r.2)]) [] := by
  unfold palingref01_IsHost at h
  obtain ⟨l4, h3, h⟩ := bo h
  obtain ⟨h5, h⟩|⟨h5, h⟩ := ite_out h
  · obtain ⟨x6, h7, h⟩ := bo h
    obtain ⟨h8, h⟩|⟨h8, h⟩ := ite_out h
    · injection h with h; subst h; exact rf Tryz.func294 none [.callo (.os 0 l4.length) [.arr 5 l4 l4.length false], .row (c5 x6), .t] (pc (k_palingref01_Bytes h3)<|pc (im5 l4)<|pc (an l4.length (lin_ob h5))<|pc (an l4.length (obn5 h7))<|pc h8<|pn)
    · obtain ⟨h9, h⟩|⟨h9, h⟩ := ite_out h
      · obtain ⟨x10, h11, h⟩ := bo h
        obtain ⟨h12, h⟩|⟨h12, h⟩ := ite_out h
        · injection h with h; subst h; exact rf Tryz.func294 none [.callo (.os 0 l4.length) [.arr 5 l4 l4.length false], .row (c5 x6), .f, .row (c5 x10), .t] (pc (k_palingref01_Bytes h3)<|pc (im5 l4)<|pc (an l4.length (lin_ob h5))<|pc (an l4.length (obn5 h7))<|pc h8<|pc (an l4.length (lin_ob h9))<|pc (an l4.length (obn5 h11))<|pc h12<|pn)
        · obtain ⟨h13, h⟩|⟨h13, h⟩ := ite_out h
          · obtain ⟨r14, h15, h⟩ := bo h
            injection h with h; subst h; exact rf Tryz.func294 none [.callo (.os 0 l4.length) [.arr 5 l4 l4.length false], .row (c5 x6), .f, .row (c5 x10), .f, .callv (.v (.int .u64 r14))] (pc (k_palingref01_Bytes h3)<|pc (im5 l4)<|pc (an l4.length (lin_ob h5))<|pc (an l4.length (obn5 h7))<|pc h8<|pc (an l4.length (lin_ob h9))<|pc (an l4.length (obn5 h11))<|pc h12<|pc (rn l4.length)<|pc (sl_ob h13)<|pc (k_palingref01_number h15)<|pc (rn l4.length)<|pn)
          · cases h
      · cases h
  · cases h

theorem k_palingref01_Group {a1 : Int} {r : Bool} (h : palingref01_Group a1 = some r) :
    CallsOK Tryz.prog UU 194 [.v (.int .u64 a1)] [] (.v (.bool r)) [] := by
  unfold palingref01_Group at h
  obtain ⟨l4, h3, h⟩ := bo h
  obtain ⟨h5, h⟩|⟨h5, h⟩ := ite_out h
  · obtain ⟨x6, h7, h⟩ := bo h
    injection h with h; subst h; exact rf Tryz.func194 none [.callo (.os 0 l4.length) [.arr 5 l4 l4.length false], .row (c5 x6)] (pc (k_palingref01_Bytes h3)<|pc (im5 l4)<|pc (an l4.length (lin_ob h5))<|pc (an l4.length (obn5 h7))<|pc ((show (2 : Int) ≠ 0 from by decide))<|pn)
  · cases h

theorem k_palingref11_Station {a1 : Int} {r : Bool} (h : palingref11_Station a1 = some r) :
    CallsOK Tryz.prog UU 280 [.v (.int .u64 a1)] [] (.v (.bool r)) [] := by
  unfold palingref11_Station at h
  obtain ⟨r2, h3, h⟩ := bo h
  obtain ⟨h4, h⟩|⟨h4, h⟩ := ite_out h
  · obtain ⟨h5, h⟩|⟨h5, h⟩ := ite_out h
    · obtain ⟨r6, h7, h⟩ := bo h
      injection h with h; subst h; exact rf Tryz.func280 none [.callv (.tup [.v (.int .u32 r2.1), .v (.bool r2.2)]), .t, .t, .b r6] (pc (k_palingref01_IsHost h3)<|pc h4<|pc h5<|pc (k_palingref01_Group h7)<|pn)
    · injection h with h; subst h; exact rf Tryz.func280 none [.callv (.tup [.v (.int .u32 r2.1), .v (.bool r2.2)]), .t, .f] (pc (k_palingref01_IsHost h3)<|pc h4<|pc h5<|pn)
  · injection h with h; subst h; exact rf Tryz.func280 none [.callv (.tup [.v (.int .u32 r2.1), .v (.bool r2.2)]), .f] (pc (k_palingref01_IsHost h3)<|pc h4<|pn)

theorem k_palingref03_Split_L1 {a1 : ByteArray} : LoopOK Tryz.prog UU 0 37 (subC (codeOf Tryz.f297) [1, 1, 0, 1, 0, 0]) (fun s : (List ByteArray) × Nat × Int => match s with | (l2, n3, v4) => palingref03_Split_L1 a1 l2 n3 v4)
    (fun s : (List ByteArray) × Nat × Int => (match s with | (l2, n3, v4) => [(0, .v (.string a1)), (2, .os 0 0), (3, .os 1 n3), (4, .j v4)] : Fr DD)) (fun s : (List ByteArray) × Nat × Int => (match s with | (l2, n3, v4) => [.n 9, .arr 9 l2 n3 false] : Heap DD)) (fun r => match r with | (l20, n21) => .exit 0) (fun r => match r with | (l20, n21) => [(2, .os 0 0), (3, .os 1 n21)]) (fun r => match r with | (l20, n21) => [.n 9, .arr 9 l20 n21 false]) := by
  refine loop_sound3 (fun s q h => ?_) (fun r => ?_)
  · obtain ⟨l2, n3, v4⟩ := s; replace h : palingref03_Split_L1 a1 l2 n3 v4 = some q := h
    unfold palingref03_Split_L1 at h
    obtain ⟨h5, h⟩|⟨h5, h⟩ := ite_out h
    · obtain ⟨h6, h⟩|⟨h6, h⟩ := ite_out h
      · obtain ⟨h7, h⟩|⟨h7, h⟩ := ite_out h
        · obtain ⟨h8, h⟩|⟨h8, h⟩ := ite_out h
          · injection h with h; subst h; exact rl [0, 2, 3, 4] [0, 1] [.t, .t, .obj [] (.arr 9 [(⟨#[]⟩ : ByteArray)] (List.length [(⟨#[]⟩ : ByteArray)]) false), .obj [] (.arr 9 (l2 ++ [(⟨#[]⟩ : ByteArray)]) (List.length (l2 ++ [(⟨#[]⟩ : ByteArray)])) false)] (pc h5<|pc (of_decide_eq_true h6)<|pc h7<|pc (bs_ob 9 [(⟨#[]⟩ : ByteArray)])<|pc (app_ob 9 (n := n3) (l := l2) (xs := [(⟨#[]⟩ : ByteArray)]) h8)<|pc ((rn (List.length [(⟨#[]⟩ : ByteArray)])))<|pn)
          · cases h
        · obtain ⟨h9, h⟩|⟨h9, h⟩ := ite_out h
          · obtain ⟨x10, h11, h⟩ := bo h
            obtain ⟨h12, h⟩|⟨h12, h⟩ := ite_out h
            · obtain ⟨h13, h⟩|⟨h13, h⟩ := ite_out h
              · obtain ⟨x14, h15, h⟩ := bo h
                injection h with h; subst h; exact rl [0, 2, 3, 4] [0, 1] [.t, .f, .row (c9 x10), .row (c9 x14), .obj [] (.arr 9 (List.set l2 (Int.toNat (wr_i64 ((n3 : Int) - 1))) (x10 ++ (ByteArray.extract a1 v4.toNat (Int.toNat (wr_i64 (v4 + 1)))))) n3 false)] (pc h5<|pc (of_decide_eq_true h6)<|pc h7<|pc (rn n3)<|pc (rn n3)<|pc (an n3 (lin_ob h9))<|pc (an n3 (obn9 h11))<|pc (sl_ob h12)<|pc (of_decide_eq_true h13)<|pc (an n3 (lin_ob h9))<|pc (st_ob (e := 9) (n := n3) (l := l2) (i := (Int.toNat (wr_i64 ((n3 : Int) - 1)))) (x10 ++ (ByteArray.extract a1 v4.toNat (Int.toNat (wr_i64 (v4 + 1))))) [.v (.string (x10 ++ (ByteArray.extract a1 v4.toNat (Int.toNat (wr_i64 (v4 + 1))))))] (obn9 h15) rfl)<|pn)
              · cases h
            · cases h
          · cases h
      · cases h
    · injection h with h; subst h; exact rl [2, 3] [0, 1] [.f] (pc h5<|pn)
  · exact Ex.noConfusion

theorem k_palingref03_Split {a1 : ByteArray} {r : ((List ByteArray) × Nat)} (h : palingref03_Split a1 = some r) :
    CallsOK Tryz.prog UU 297 [.v (.string a1)] [] ((fun r => match r with | (l24, n25) => .os 0 n25) r) ((fun r => match r with | (l24, n25) => [.arr 9 l24 n25 false]) r) := by
  unfold palingref03_Split at h
  obtain ⟨r23, h22, h⟩ := bo h
  obtain ⟨l20, n21⟩ := r23
  injection h with h; subst h; exact rf Tryz.func297 (some [1]) [.obj [] (.arr 9 [(⟨#[]⟩ : ByteArray)] (List.length [(⟨#[]⟩ : ByteArray)]) false), .sum [0, 2, 3, 4] [0, 1] (.exit 0) [(2, .os 0 0), (3, .os 1 n21)] [.n 9, .arr 9 l20 n21 false]] (pc (bs_ob 9 [(⟨#[]⟩ : ByteArray)])<|pc (k_palingref03_Split_L1 _ _ h22)<|pn)

theorem k_palingref03_Rising_L1 {a1 : List Int} {a2 : Int} {a3 : Int} : LoopOK Tryz.prog UU 0 52 (subC (codeOf Tryz.f220) [1, 1, 0, 1, 0, 0]) (ρ := Unit ⊕ Unit) (palingref03_Rising_L1 a1 a2 a3)
    (fun v6 : Int => ([(0, .sl 3 a1), (1, .j a2), (2, .j a3), (6, .v (.bool false)), (7, .j v6)] : Fr DD)) (fun v6 : Int => ([] : Heap DD)) (fun r => match r with | Sum.inl _ => .ret | Sum.inr _ => .exit 0) (fun r => match r with | Sum.inl _ => [(6, .v (.bool false))] | Sum.inr _ => [(6, .v (.bool false))]) (fun r => match r with | Sum.inl _ => [] | Sum.inr _ => []) := by
  refine loop_sound3 (fun s q h => ?_) (fun r => ?_)
  · replace h : palingref03_Rising_L1 a1 a2 a3 s = some q := h; revert h; revert s; intro v6 h
    unfold palingref03_Rising_L1 at h
    obtain ⟨h7, h⟩|⟨h7, h⟩ := ite_out h
    · obtain ⟨x8, h9, h⟩ := bo h
      obtain ⟨h10, h⟩|⟨h10, h⟩ := ite_out h
      · injection h with h; subst h; exact rl [6] [] [.t, .row (c3 x8), .t] (pc h7<|pc (ob3 h9)<|pc h10<|pn)
      · obtain ⟨x11, h12, h⟩ := bo h
        obtain ⟨h13, h⟩|⟨h13, h⟩ := ite_out h
        · injection h with h; subst h; exact rl [6] [] [.t, .row (c3 x8), .f, .row (c3 x11), .t] (pc h7<|pc (ob3 h9)<|pc h10<|pc (ob3 h12)<|pc h13<|pn)
        · obtain ⟨h14, h⟩|⟨h14, h⟩ := ite_out h
          · obtain ⟨x15, h16, h⟩ := bo h
            obtain ⟨x17, h18, h⟩ := bo h
            obtain ⟨h19, h⟩|⟨h19, h⟩ := ite_out h
            · injection h with h; subst h; exact rl [6] [] [.t, .row (c3 x8), .f, .row (c3 x11), .f, .t, .row (c3 x15), .row (c3 x17), .t] (pc h7<|pc (ob3 h9)<|pc h10<|pc (ob3 h12)<|pc h13<|pc h14<|pc (ob3 h16)<|pc (ob3 h18)<|pc h19<|pn)
            · injection h with h; subst h; exact rl [0, 1, 2, 6, 7] [] [.t, .row (c3 x8), .f, .row (c3 x11), .f, .t, .row (c3 x15), .row (c3 x17), .f] (pc h7<|pc (ob3 h9)<|pc h10<|pc (ob3 h12)<|pc h13<|pc h14<|pc (ob3 h16)<|pc (ob3 h18)<|pc h19<|pn)
          · injection h with h; subst h; exact rl [0, 1, 2, 6, 7] [] [.t, .row (c3 x8), .f, .row (c3 x11), .f, .f] (pc h7<|pc (ob3 h9)<|pc h10<|pc (ob3 h12)<|pc h13<|pc h14<|pn)
    · injection h with h; subst h; exact rl [6] [] [.f] (pc h7<|pn)
  · rcases r with _ | _ <;> exact Ex.noConfusion

theorem k_palingref03_Rising {a1 : List Int} {a2 : Int} {a3 : Int} {r : Bool} (h : palingref03_Rising a1 a2 a3 = some r) :
    CallsOK Tryz.prog UU 220 [.sl 3 a1, .j a2, .j a3] [] (.v (.bool r)) [] := by
  unfold palingref03_Rising at h
  obtain ⟨h4, h⟩|⟨h4, h⟩ := ite_out h
  · injection h with h; subst h; exact rf Tryz.func220 none [.t] (pc h4<|pn)
  · obtain ⟨h5, h⟩|⟨h5, h⟩ := ite_out h
    · injection h with h; subst h; exact rf Tryz.func220 none [.f, .t] (pc h4<|pc h5<|pn)
    · obtain ⟨r21, h20, h⟩ := bo h
      rcases r21 with _ | _
      · injection h with h; subst h; exact rf Tryz.func220 none [.f, .f, .sum [0, 1, 2, 6, 7] [] .ret [(6, .v (.bool false))] []] (pc h4<|pc h5<|pc (k_palingref03_Rising_L1 _ _ h20)<|pn)
      · injection h with h; subst h; exact rf Tryz.func220 none [.f, .f, .sum [0, 1, 2, 6, 7] [] (.exit 0) [(6, .v (.bool false))] []] (pc h4<|pc h5<|pc (k_palingref03_Rising_L1 _ _ h20)<|pn)

theorem k_palingref03_ReadList_L1 {a2 : Int} {a3 : Int} {l6 : List ByteArray} {n7 : Nat} : LoopOK Tryz.prog UU 0 43 (subC (codeOf Tryz.f295) [1, 1, 1, 0, 1, 0, 0]) (fun s : (List Int) × Int => match s with | (l8, v9) => palingref03_ReadList_L1 a2 a3 l6 n7 l8 v9)
    (fun s : (List Int) × Int => (match s with | (l8, v9) => [(1, .j a2), (2, .j a3), (6, .os 0 0), (7, .v (.bool false)), (8, .os 1 n7), (9, .os 2 l8.length), (10, .j v9)] : Fr DD)) (fun s : (List Int) × Int => (match s with | (l8, v9) => [.n 3, .arr 9 l6 n7 false, .arr 3 l8 l8.length false] : Heap DD)) (fun r => match r with | Sum.inl _ => .ret | Sum.inr l23 => .exit 0) (fun r => match r with | Sum.inl _ => [(6, .os 0 0), (7, .v (.bool false))] | Sum.inr l23 => [(1, .j a2), (2, .j a3), (6, .os 0 0), (7, .v (.bool false)), (9, .os 1 l23.length)]) (fun r => match r with | Sum.inl _ => [.n 3] | Sum.inr l23 => [.n 3, .arr 3 l23 l23.length false]) := by
  refine loop_sound3 (fun s q h => ?_) (fun r => ?_)
  · obtain ⟨l8, v9⟩ := s; replace h : palingref03_ReadList_L1 a2 a3 l6 n7 l8 v9 = some q := h
    unfold palingref03_ReadList_L1 at h
    obtain ⟨h10, h⟩|⟨h10, h⟩ := ite_out h
    · obtain ⟨h11, h⟩|⟨h11, h⟩ := ite_out h
      · obtain ⟨x12, h13, h⟩ := bo h
        obtain ⟨r14, h15, h⟩ := bo h
        obtain ⟨h16, h⟩|⟨h16, h⟩ := ite_out h
        · injection h with h; subst h; exact rl [6, 7] [3] [.t, .row (c9 x12), .callv (.tup [.v (.int .i64 r14.1), .v (.bool r14.2)]), .t] (pc (rn n7)<|pc h10<|pc (an n7 (lin_ob h11))<|pc (an n7 (obn9 h13))<|pc (k_palingref03_Read h15)<|pc h16<|pn)
        · obtain ⟨h17, h⟩|⟨h17, h⟩ := ite_out h
          · injection h with h; subst h; exact rl [1, 2, 6, 7, 8, 9, 10] [0, 1, 2] [.t, .row (c9 x12), .callv (.tup [.v (.int .i64 r14.1), .v (.bool r14.2)]), .f, .obj [] (.arr 3 [r14.1] (List.length [r14.1]) false), .obj [] (.arr 3 (l8 ++ [r14.1]) (List.length (l8 ++ [r14.1])) false)] (pc (rn n7)<|pc h10<|pc (an n7 (lin_ob h11))<|pc (an n7 (obn9 h13))<|pc (k_palingref03_Read h15)<|pc h16<|pc (bs_ob 3 [r14.1])<|pc (app_ob 3 (n := l8.length) (l := l8) (xs := [r14.1]) h17)<|pc ((rn (List.length [r14.1])))<|pn)
          · cases h
      · cases h
    · injection h with h; subst h; exact rl [1, 2, 6, 7, 9] [0, 2] [.f] (pc (rn n7)<|pc h10<|pn)
  · rcases r with _ | _ <;> exact Ex.noConfusion

theorem k_palingref03_ReadList {a1 : ByteArray} {a2 : Int} {a3 : Int} {r : ((List Int) × Bool)} (h : palingref03_ReadList a1 a2 a3 = some r) :
    CallsOK Tryz.prog UU 295 [.v (.string a1), .j a2, .j a3] [] ((fun r => match r with | (l29, v30) => .tup [.os 0 l29.length, .v (.bool v30)]) r) ((fun r => match r with | (l29, v30) => [.arr 3 l29 l29.length false]) r) := by
  unfold palingref03_ReadList at h
  obtain ⟨r4, h5, h⟩ := bo h
  obtain ⟨l6, n7⟩ := r4
  obtain ⟨r25, h24, h⟩ := bo h
  rcases r25 with _ | l23
  · injection h with h; subst h; exact rf Tryz.func295 (some [0]) [.callo (.os 0 n7) [.arr 9 l6 n7 false], .sum [1, 2, 6, 7, 8, 9, 10] [0, 1, 2] .ret [(6, .os 0 0), (7, .v (.bool false))] [.n 3]] (pc (k_palingref03_Split h5)<|pc (im9 l6)<|pc (k_palingref03_ReadList_L1 _ _ h24)<|pn)
  · obtain ⟨r26, h27, h⟩ := bo h
    obtain ⟨h28, h⟩|⟨h28, h⟩ := ite_out h
    · injection h with h; subst h; exact rf Tryz.func295 (some [2]) [.callo (.os 0 n7) [.arr 9 l6 n7 false], .sum [1, 2, 6, 7, 8, 9, 10] [0, 1, 2] (.exit 0) [(1, .j a2), (2, .j a3), (6, .os 0 0), (7, .v (.bool false)), (9, .os 1 l23.length)] [.n 3, .arr 3 l23 l23.length false], .b r26, .t] (pc (k_palingref03_Split h5)<|pc (im9 l6)<|pc (k_palingref03_ReadList_L1 _ _ h24)<|pc (k_palingref03_Rising h27)<|pc (rn l23.length)<|pc h28<|pn)
    · injection h with h; subst h; exact rf Tryz.func295 (some [1]) [.callo (.os 0 n7) [.arr 9 l6 n7 false], .sum [1, 2, 6, 7, 8, 9, 10] [0, 1, 2] (.exit 0) [(1, .j a2), (2, .j a3), (6, .os 0 0), (7, .v (.bool false)), (9, .os 1 l23.length)] [.n 3, .arr 3 l23 l23.length false], .b r26, .f] (pc (k_palingref03_Split h5)<|pc (im9 l6)<|pc (k_palingref03_ReadList_L1 _ _ h24)<|pc (k_palingref03_Rising h27)<|pc (rn l23.length)<|pc h28<|pn)

theorem k_palingref11_list {a1 : ByteArray} {a2 : Int} {r : ((List Int) × Bool)} (h : palingref11_list a1 a2 = some r) :
    CallsOK Tryz.prog UU 281 [.v (.string a1), .j a2] [] ((fun r => match r with | (l8, v9) => .tup [.os 0 l8.length, .v (.bool v9)]) r) ((fun r => match r with | (l8, v9) => [.arr 3 l8 l8.length false]) r) := by
  unfold palingref11_list at h
  obtain ⟨h3, h⟩|⟨h3, h⟩ := ite_out h
  · injection h with h; subst h; exact rf Tryz.func281 (some [1]) [.t] (pc h3<|pn)
  · obtain ⟨r4, h5, h⟩ := bo h
    obtain ⟨l6, v7⟩ := r4
    injection h with h; subst h; exact rf Tryz.func281 (some [1]) [.f, .callo (.tup [.os 0 l6.length, .v (.bool v7)]) [.arr 3 l6 l6.length false]] (pc h3<|pc (k_palingref03_ReadList h5)<|pc (im3 l6)<|pn)

theorem k_palingref02_digits_L1 {a1 : ByteArray} : LoopOK Tryz.prog UU 0 42 (subC (codeOf Tryz.f296) [1, 1, 1, 0, 1, 0, 0]) (fun s : Int × Int => match s with | (v4, v5) => palingref02_digits_L1 a1 v4 v5)
    (fun s : Int × Int => (match s with | (v4, v5) => [(0, .v (.string a1)), (2, .z), (3, .j v4), (4, .j v5)] : Fr DD)) (fun s : Int × Int => (match s with | (v4, v5) => [] : Heap DD)) (fun r => match r with | Sum.inl _ => .ret | Sum.inr v11 => .exit 0) (fun r => match r with | Sum.inl _ => [(2, .j 1000)] | Sum.inr v11 => [(0, .v (.string a1)), (2, .z), (3, .j v11)]) (fun r => match r with | Sum.inl _ => [] | Sum.inr v11 => []) := by
  refine loop_sound3 (fun s q h => ?_) (fun r => ?_)
  · obtain ⟨v4, v5⟩ := s; replace h : palingref02_digits_L1 a1 v4 v5 = some q := h
    unfold palingref02_digits_L1 at h
    obtain ⟨h6, h⟩|⟨h6, h⟩ := ite_out h
    · obtain ⟨h7, h⟩|⟨h7, h⟩ := ite_out h
      · obtain ⟨h8, h⟩|⟨h8, h⟩ := ite_out h
        · injection h with h; subst h; exact rl [2] [] [.t, .t] (pc h6<|pc (of_decide_eq_true h7)<|pc h8<|pn)
        · obtain ⟨h9, h⟩|⟨h9, h⟩ := ite_out h
          · injection h with h; subst h; exact rl [2] [] [.t, .f, .t] (pc h6<|pc (of_decide_eq_true h7)<|pc h8<|pc (of_decide_eq_true h7)<|pc h9<|pn)
          · injection h with h; subst h; exact rl [0, 2, 3, 4] [] [.t, .f, .f] (pc h6<|pc (of_decide_eq_true h7)<|pc h8<|pc (of_decide_eq_true h7)<|pc h9<|pc (of_decide_eq_true h7)<|pn)
      · cases h
    · injection h with h; subst h; exact rl [0, 2, 3] [] [.f] (pc h6<|pn)
  · rcases r with _ | _ <;> exact Ex.noConfusion

theorem k_palingref02_digits {a1 : ByteArray} {r : Int} (h : palingref02_digits a1 = some r) :
    CallsOK Tryz.prog UU 296 [.v (.string a1)] [] (.j r) [] := by
  unfold palingref02_digits at h
  obtain ⟨h2, h⟩|⟨h2, h⟩ := ite_out h
  · injection h with h; subst h; exact rf Tryz.func296 none [.t] (pc h2<|pn)
  · obtain ⟨h3, h⟩|⟨h3, h⟩ := ite_out h
    · injection h with h; subst h; exact rf Tryz.func296 none [.f, .t] (pc h2<|pc h3<|pn)
    · obtain ⟨r13, h12, h⟩ := bo h
      rcases r13 with _ | v11
      · injection h with h; subst h; exact rf Tryz.func296 none [.f, .f, .sum [0, 2, 3, 4] [] .ret [(2, .j 1000)] []] (pc h2<|pc h3<|pc (k_palingref02_digits_L1 _ _ h12)<|pn)
      · obtain ⟨r14, h15, h⟩ := bo h
        obtain ⟨h16, h⟩|⟨h16, h⟩ := ite_out h
        · injection h with h; subst h; exact rf Tryz.func296 none [.f, .f, .sum [0, 2, 3, 4] [] (.exit 0) [(0, .v (.string a1)), (2, .z), (3, .j v11)] [], .callv (.v (.string r14)), .t] (pc h2<|pc h3<|pc (k_palingref02_digits_L1 _ _ h12)<|pc (k_palingref02_number h15)<|pc h16<|pn)
        · injection h with h; subst h; exact rf Tryz.func296 none [.f, .f, .sum [0, 2, 3, 4] [] (.exit 0) [(0, .v (.string a1)), (2, .z), (3, .j v11)] [], .callv (.v (.string r14)), .f] (pc h2<|pc h3<|pc (k_palingref02_digits_L1 _ _ h12)<|pc (k_palingref02_number h15)<|pc h16<|pn)

theorem k_palingref02_Read_J2 {a1 : ByteArray} {v2 : Int} {v3 : Int} {v4 : ByteArray} {v5 : Int} {r : Bool} (h : palingref02_Read_J2 a1 v2 v3 v4 v5 = some r) :
    ExecOK Tryz.prog UU 0 52 (subC (codeOf Tryz.f282) [1, 1, 1, 1, 0, 1, 0, 0, 1, 0, 0, 0, 0]) [(0, .v (.string a1)), (2, .v (.int .u32 0)), (3, .v (.bool false)), (4, .j v2), (5, .j v3), (6, .v (.string v4)), (7, .j v5)] [] ((fun r => match r with | v10 => .nor) r) ((fun r => match r with | v10 => [(0, .v (.string a1)), (2, .v (.int .u32 0)), (3, .v (.bool false)), (4, .j v2), (5, .j v3), (6, .v (.string v4)), (7, .j v5), (23, .v (.bool v10))]) r) ((fun r => match r with | v10 => []) r) := by
  unfold palingref02_Read_J2 at h
  obtain ⟨h7, h⟩|⟨h7, h⟩ := ite_out h
  · obtain ⟨h8, h⟩|⟨h8, h⟩ := ite_out h
    · injection h with h; subst h; exact rl [0, 2, 3, 4, 5, 6, 7, 23] [] [.t] (pc h7<|pc (of_decide_eq_true h8)<|pn)
    · cases h
  · injection h with h; subst h; exact rl [0, 2, 3, 4, 5, 6, 7, 23] [] [.f] (pc h7<|pn)

theorem k_palingref02_Read_L1 {a1 : ByteArray} : LoopOK Tryz.prog UU 0 52 (subC (codeOf Tryz.f282) [1, 1, 1, 1, 0, 1, 0, 0]) (fun s : Int × Int × ByteArray × Int => match s with | (v2, v3, v4, v5) => palingref02_Read_L1 a1 v2 v3 v4 v5)
    (fun s : Int × Int × ByteArray × Int => (match s with | (v2, v3, v4, v5) => [(0, .v (.string a1)), (2, .v (.int .u32 0)), (3, .v (.bool false)), (4, .j v2), (5, .j v3), (6, .v (.string v4)), (7, .j v5)] : Fr DD)) (fun s : Int × Int × ByteArray × Int => (match s with | (v2, v3, v4, v5) => [] : Heap DD)) (fun r => match r with | Sum.inl _ => .ret | Sum.inr (v25, v26) => .exit 0) (fun r => match r with | Sum.inl _ => [(2, .v (.int .u32 0)), (3, .v (.bool false))] | Sum.inr (v25, v26) => [(2, .v (.int .u32 0)), (3, .v (.bool false)), (4, .j v25), (5, .j v26)]) (fun r => match r with | Sum.inl _ => [] | Sum.inr (v25, v26) => []) := by
  refine loop_sound3 (fun s q h => ?_) (fun r => ?_)
  · obtain ⟨v2, v3, v4, v5⟩ := s; replace h : palingref02_Read_L1 a1 v2 v3 v4 v5 = some q := h
    unfold palingref02_Read_L1 at h
    obtain ⟨h6, h⟩|⟨h6, h⟩ := ite_out h
    · obtain ⟨v10, h11, h⟩ := bo h
      obtain ⟨h13, h⟩|⟨h13, h⟩ := ite_out h
      · obtain ⟨h14, h⟩|⟨h14, h⟩ := ite_out h
        · obtain ⟨h15, h⟩|⟨h15, h⟩ := ite_out h
          · obtain ⟨h16, h⟩|⟨h16, h⟩ := ite_out h
            · injection h with h; subst h; exact rl [2, 3] [] [.t, .skp, .skp, .cut [0, 2, 3, 4, 5, 6, 7] [] .nor [(0, .v (.string a1)), (2, .v (.int .u32 0)), (3, .v (.bool false)), (4, .j v2), (5, .j v3), (6, .v (.string v4)), (7, .j v5), (23, .v (.bool v10))] [], .t, .t] (pc h6<|pc (k_palingref02_Read_J2 h11)<|pc h13<|pc (sl_ob h14)<|pc (of_decide_eq_true h15)<|pc h16<|pn)
            · injection h with h; subst h; exact rl [0, 2, 3, 4, 5, 6, 7] [] [.t, .skp, .skp, .cut [0, 2, 3, 4, 5, 6, 7] [] .nor [(0, .v (.string a1)), (2, .v (.int .u32 0)), (3, .v (.bool false)), (4, .j v2), (5, .j v3), (6, .v (.string v4)), (7, .j v5), (23, .v (.bool v10))] [], .t, .f] (pc h6<|pc (k_palingref02_Read_J2 h11)<|pc h13<|pc (sl_ob h14)<|pc (of_decide_eq_true h15)<|pc h16<|pn)
          · cases h
        · cases h
      · obtain ⟨r17, h18, h⟩ := bo h
        obtain ⟨h19, h⟩|⟨h19, h⟩ := ite_out h
        · injection h with h; subst h; exact rl [2, 3] [] [.t, .skp, .skp, .cut [0, 2, 3, 4, 5, 6, 7] [] .nor [(0, .v (.string a1)), (2, .v (.int .u32 0)), (3, .v (.bool false)), (4, .j v2), (5, .j v3), (6, .v (.string v4)), (7, .j v5), (23, .v (.bool v10))] [], .f, .callv (.j r17), .t] (pc h6<|pc (k_palingref02_Read_J2 h11)<|pc h13<|pc (k_palingref02_digits h18)<|pc h19<|pn)
        · obtain ⟨h20, h⟩|⟨h20, h⟩ := ite_out h
          · injection h with h; subst h; exact rl [2, 3] [] [.t, .skp, .skp, .cut [0, 2, 3, 4, 5, 6, 7] [] .nor [(0, .v (.string a1)), (2, .v (.int .u32 0)), (3, .v (.bool false)), (4, .j v2), (5, .j v3), (6, .v (.string v4)), (7, .j v5), (23, .v (.bool v10))] [], .f, .callv (.j r17), .f, .t] (pc h6<|pc (k_palingref02_Read_J2 h11)<|pc h13<|pc (k_palingref02_digits h18)<|pc h19<|pc h20<|pn)
          · obtain ⟨r21, h22, h⟩ := bo h
            injection h with h; subst h; exact rl [0, 2, 3, 4, 5, 6, 7] [] [.t, .skp, .skp, .cut [0, 2, 3, 4, 5, 6, 7] [] .nor [(0, .v (.string a1)), (2, .v (.int .u32 0)), (3, .v (.bool false)), (4, .j v2), (5, .j v3), (6, .v (.string v4)), (7, .j v5), (23, .v (.bool v10))] [], .f, .callv (.j r17), .f, .f, .callv (.j r21)] (pc h6<|pc (k_palingref02_Read_J2 h11)<|pc h13<|pc (k_palingref02_digits h18)<|pc h19<|pc h20<|pc (k_palingref02_digits h22)<|pn)
    · injection h with h; subst h; exact rl [2, 3, 4, 5] [] [.f] (pc h6<|pn)
  · rcases r with _ | _ <;> exact Ex.noConfusion

theorem k_palingref02_Read {a1 : ByteArray} {r : Int × Bool} (h : palingref02_Read a1 = some r) :
    CallsOK Tryz.prog UU 282 [.v (.string a1)] [] (.tup [.v (.int .u32 r.1), .v (.bool r.2)]) [] := by
  unfold palingref02_Read at h
  obtain ⟨r28, h27, h⟩ := bo h
  rcases r28 with _ | ⟨v25, v26⟩
  · injection h with h; subst h; exact rf Tryz.func282 none [.sum [0, 2, 3, 4, 5, 6, 7] [] .ret [(2, .v (.int .u32 0)), (3, .v (.bool false))] []] (pc (k_palingref02_Read_L1 _ _ h27)<|pn)
  · obtain ⟨h29, h⟩|⟨h29, h⟩ := ite_out h
    · injection h with h; subst h; exact rf Tryz.func282 none [.sum [0, 2, 3, 4, 5, 6, 7] [] (.exit 0) [(2, .v (.int .u32 0)), (3, .v (.bool false)), (4, .j v25), (5, .j v26)] [], .t] (pc (k_palingref02_Read_L1 _ _ h27)<|pc h29<|pn)
    · injection h with h; subst h; exact rf Tryz.func282 none [.sum [0, 2, 3, 4, 5, 6, 7] [] (.exit 0) [(2, .v (.int .u32 0)), (3, .v (.bool false)), (4, .j v25), (5, .j v26)] [], .f] (pc (k_palingref02_Read_L1 _ _ h27)<|pc h29<|pn)

theorem k_palingref03_ReadAddrs_L1 {l4 : List ByteArray} {n5 : Nat} : LoopOK Tryz.prog UU 0 49 (subC (codeOf Tryz.f283) [1, 1, 1, 0, 1, 0, 0]) (fun s : (List Int) × Int => match s with | (l6, v7) => palingref03_ReadAddrs_L1 l4 n5 l6 v7)
    (fun s : (List Int) × Int => (match s with | (l6, v7) => [(2, .os 0 0), (3, .v (.bool false)), (4, .os 1 n5), (5, .os 2 l6.length), (6, .j v7)] : Fr DD)) (fun s : (List Int) × Int => (match s with | (l6, v7) => [.n 33, .arr 9 l4 n5 false, .arr 33 l6 l6.length false] : Heap DD)) (fun r => match r with | Sum.inl _ => .ret | Sum.inr l26 => .exit 0) (fun r => match r with | Sum.inl _ => [(2, .os 0 0), (3, .v (.bool false))] | Sum.inr l26 => [(2, .os 0 0), (3, .v (.bool false)), (5, .os 1 l26.length)]) (fun r => match r with | Sum.inl _ => [.n 33] | Sum.inr l26 => [.n 33, .arr 33 l26 l26.length false]) := by
  refine loop_sound3 (fun s q h => ?_) (fun r => ?_)
  · obtain ⟨l6, v7⟩ := s; replace h : palingref03_ReadAddrs_L1 l4 n5 l6 v7 = some q := h
    unfold palingref03_ReadAddrs_L1 at h
    obtain ⟨h8, h⟩|⟨h8, h⟩ := ite_out h
    · obtain ⟨h9, h⟩|⟨h9, h⟩ := ite_out h
      · obtain ⟨x10, h11, h⟩ := bo h
        obtain ⟨r12, h13, h⟩ := bo h
        obtain ⟨h14, h⟩|⟨h14, h⟩ := ite_out h
        · injection h with h; subst h; exact rl [2, 3] [3] [.t, .row (c9 x10), .callv (.tup [.v (.int .u32 r12.1), .v (.bool r12.2)]), .t] (pc (rn n5)<|pc h8<|pc (an n5 (lin_ob h9))<|pc (an n5 (obn9 h11))<|pc (k_palingref02_Read h13)<|pc h14<|pn)
        · obtain ⟨h15, h⟩|⟨h15, h⟩ := ite_out h
          · injection h with h; subst h; exact rl [2, 3] [3] [.t, .row (c9 x10), .callv (.tup [.v (.int .u32 r12.1), .v (.bool r12.2)]), .f, .t] (pc (rn n5)<|pc h8<|pc (an n5 (lin_ob h9))<|pc (an n5 (obn9 h11))<|pc (k_palingref02_Read h13)<|pc h14<|pc h15<|pn)
          · obtain ⟨h16, h⟩|⟨h16, h⟩ := ite_out h
            · obtain ⟨h17, h⟩|⟨h17, h⟩ := ite_out h
              · obtain ⟨x18, h19, h⟩ := bo h
                obtain ⟨h20, h⟩|⟨h20, h⟩ := ite_out h
                · injection h with h; subst h; exact rl [2, 3] [3] [.t, .row (c9 x10), .callv (.tup [.v (.int .u32 r12.1), .v (.bool r12.2)]), .f, .f, .t, .row (c33 x18), .t] (pc (rn n5)<|pc h8<|pc (an n5 (lin_ob h9))<|pc (an n5 (obn9 h11))<|pc (k_palingref02_Read h13)<|pc h14<|pc h15<|pc h16<|pc (an l6.length (lin_ob h17))<|pc (an l6.length (obn33 h19))<|pc h20<|pn)
                · obtain ⟨h21, h⟩|⟨h21, h⟩ := ite_out h
                  · injection h with h; subst h; exact rl [2, 3, 4, 5, 6] [0, 1, 2] [.t, .row (c9 x10), .callv (.tup [.v (.int .u32 r12.1), .v (.bool r12.2)]), .f, .f, .t, .row (c33 x18), .f, .obj [] (.arr 33 [r12.1] (List.length [r12.1]) false), .obj [] (.arr 33 (l6 ++ [r12.1]) (List.length (l6 ++ [r12.1])) false)] (pc (rn n5)<|pc h8<|pc (an n5 (lin_ob h9))<|pc (an n5 (obn9 h11))<|pc (k_palingref02_Read h13)<|pc h14<|pc h15<|pc h16<|pc (an l6.length (lin_ob h17))<|pc (an l6.length (obn33 h19))<|pc h20<|pc (bs_ob 33 [r12.1])<|pc (app_ob 33 (n := l6.length) (l := l6) (xs := [r12.1]) h21)<|pc ((rn (List.length [r12.1])))<|pn)
                  · cases h
              · cases h
            · obtain ⟨h22, h⟩|⟨h22, h⟩ := ite_out h
              · injection h with h; subst h; exact rl [2, 3, 4, 5, 6] [0, 1, 2] [.t, .row (c9 x10), .callv (.tup [.v (.int .u32 r12.1), .v (.bool r12.2)]), .f, .f, .f, .obj [] (.arr 33 [r12.1] (List.length [r12.1]) false), .obj [] (.arr 33 (l6 ++ [r12.1]) (List.length (l6 ++ [r12.1])) false)] (pc (rn n5)<|pc h8<|pc (an n5 (lin_ob h9))<|pc (an n5 (obn9 h11))<|pc (k_palingref02_Read h13)<|pc h14<|pc h15<|pc h16<|pc (bs_ob 33 [r12.1])<|pc (app_ob 33 (n := l6.length) (l := l6) (xs := [r12.1]) h22)<|pc ((rn (List.length [r12.1])))<|pn)
              · cases h
      · cases h
    · injection h with h; subst h; exact rl [2, 3, 5] [0, 2] [.f] (pc (rn n5)<|pc h8<|pn)
  · rcases r with _ | _ <;> exact Ex.noConfusion

theorem k_palingref03_ReadAddrs {a1 : ByteArray} {r : ((List Int) × Bool)} (h : palingref03_ReadAddrs a1 = some r) :
    CallsOK Tryz.prog UU 283 [.v (.string a1)] [] ((fun r => match r with | (l29, v30) => .tup [.os 0 l29.length, .v (.bool v30)]) r) ((fun r => match r with | (l29, v30) => [.arr 33 l29 l29.length false]) r) := by
  unfold palingref03_ReadAddrs at h
  obtain ⟨r2, h3, h⟩ := bo h
  obtain ⟨l4, n5⟩ := r2
  obtain ⟨r28, h27, h⟩ := bo h
  rcases r28 with _ | l26
  · injection h with h; subst h; exact rf Tryz.func283 (some [0]) [.callo (.os 0 n5) [.arr 9 l4 n5 false], .sum [2, 3, 4, 5, 6] [0, 1, 2] .ret [(2, .os 0 0), (3, .v (.bool false))] [.n 33]] (pc (k_palingref03_Split h3)<|pc (im9 l4)<|pc (k_palingref03_ReadAddrs_L1 _ _ h27)<|pn)
  · injection h with h; subst h; exact rf Tryz.func283 (some [1]) [.callo (.os 0 n5) [.arr 9 l4 n5 false], .sum [2, 3, 4, 5, 6] [0, 1, 2] (.exit 0) [(2, .os 0 0), (3, .v (.bool false)), (5, .os 1 l26.length)] [.n 33, .arr 33 l26 l26.length false]] (pc (k_palingref03_Split h3)<|pc (im9 l4)<|pc (k_palingref03_ReadAddrs_L1 _ _ h27)<|pn)

theorem k_palingref02_ReadPrefix_L1 {a1 : ByteArray} : LoopOK Tryz.prog UU 0 47 (subC (codeOf Tryz.f284) [1, 1, 0, 0, 0]) (ρ := Int) (palingref02_ReadPrefix_L1 a1)
    (fun v2 : Int => ([(0, .v (.string a1)), (2, .op 0 1 0 0), (3, .v (.bool false)), (4, .j v2)] : Fr DD)) (fun v2 : Int => ([.box 116 [.v (.int .u32 0), .z] false] : Heap DD)) (fun r => match r with | v7 => .exit 0) (fun r => match r with | v7 => [(0, .v (.string a1)), (2, .op 0 1 0 0), (3, .v (.bool false)), (4, .j v7)]) (fun r => match r with | v7 => [.box 116 [.v (.int .u32 0), .z] false]) := by
  refine loop_sound3 (fun s q h => ?_) (fun r => ?_)
  · replace h : palingref02_ReadPrefix_L1 a1 s = some q := h; revert h; revert s; intro v2 h
    unfold palingref02_ReadPrefix_L1 at h
    obtain ⟨h3, h⟩|⟨h3, h⟩ := ite_out h
    · obtain ⟨h4, h⟩|⟨h4, h⟩ := ite_out h
      · obtain ⟨h5, h⟩|⟨h5, h⟩ := ite_out h
        · injection h with h; subst h; exact rl [0, 2, 3, 4] [0] [.t, .t] (pc h3<|pc (of_decide_eq_true h4)<|pc h5<|pn)
        · injection h with h; subst h; exact rl [0, 2, 3, 4] [0] [.t, .f] (pc h3<|pc (of_decide_eq_true h4)<|pc h5<|pn)
      · cases h
    · injection h with h; subst h; exact rl [0, 2, 3, 4] [0] [.f] (pc h3<|pn)
  · exact Ex.noConfusion

theorem k_palingref02_ReadPrefix {a1 : ByteArray} {r : Api_Prefix × Bool} (h : palingref02_ReadPrefix a1 = some r) :
    CallsOK Tryz.prog UU 284 [.v (.string a1)] [] (.tup [.agg (c116 r.1), .v (.bool r.2)]) [] := by
  unfold palingref02_ReadPrefix at h
  obtain ⟨v7, h8, h⟩ := bo h
  obtain ⟨h10, h⟩|⟨h10, h⟩ := ite_out h
  · injection h with h; subst h; exact rf Tryz.func284 none [.sum [0, 2, 3, 4] [0] (.exit 0) [(0, .v (.string a1)), (2, .op 0 1 0 0), (3, .v (.bool false)), (4, .j v7)] [.box 116 [.v (.int .u32 0), .z] false], .t] (pc (k_palingref02_ReadPrefix_L1 _ _ h8)<|pc h10<|pn)
  · obtain ⟨h11, h⟩|⟨h11, h⟩ := ite_out h
    · obtain ⟨r12, h13, h⟩ := bo h
      obtain ⟨h14, h⟩|⟨h14, h⟩ := ite_out h
      · obtain ⟨r15, h16, h⟩ := bo h
        obtain ⟨h17, h⟩|⟨h17, h⟩ := ite_out h
        · injection h with h; subst h; exact rf Tryz.func284 none [.sum [0, 2, 3, 4] [0] (.exit 0) [(0, .v (.string a1)), (2, .op 0 1 0 0), (3, .v (.bool false)), (4, .j v7)] [.box 116 [.v (.int .u32 0), .z] false], .f, .callv (.tup [.v (.int .u32 r12.1), .v (.bool r12.2)]), .callv (.j r15), .t] (pc (k_palingref02_ReadPrefix_L1 _ _ h8)<|pc h10<|pc (sl_ob h11)<|pc (k_palingref02_Read h13)<|pc (sl_ob h14)<|pc (k_palingref02_digits h16)<|pc h17<|pn)
        · obtain ⟨h18, h⟩|⟨h18, h⟩ := ite_out h
          · injection h with h; subst h; exact rf Tryz.func284 none [.sum [0, 2, 3, 4] [0] (.exit 0) [(0, .v (.string a1)), (2, .op 0 1 0 0), (3, .v (.bool false)), (4, .j v7)] [.box 116 [.v (.int .u32 0), .z] false], .f, .callv (.tup [.v (.int .u32 r12.1), .v (.bool r12.2)]), .callv (.j r15), .f, .t] (pc (k_palingref02_ReadPrefix_L1 _ _ h8)<|pc h10<|pc (sl_ob h11)<|pc (k_palingref02_Read h13)<|pc (sl_ob h14)<|pc (k_palingref02_digits h16)<|pc h17<|pc h18<|pn)
          · injection h with h; subst h; exact rf Tryz.func284 none [.sum [0, 2, 3, 4] [0] (.exit 0) [(0, .v (.string a1)), (2, .op 0 1 0 0), (3, .v (.bool false)), (4, .j v7)] [.box 116 [.v (.int .u32 0), .z] false], .f, .callv (.tup [.v (.int .u32 r12.1), .v (.bool r12.2)]), .callv (.j r15), .f, .f] (pc (k_palingref02_ReadPrefix_L1 _ _ h8)<|pc h10<|pc (sl_ob h11)<|pc (k_palingref02_Read h13)<|pc (sl_ob h14)<|pc (k_palingref02_digits h16)<|pc h17<|pc h18<|pn)
      · cases h
    · cases h

theorem k_palingref02_size_L1 : LoopOK Tryz.prog UU 0 14 (subC (codeOf Tryz.f293) [1, 1, 0, 1, 0, 0]) (fun s : Int × Int => match s with | (v2, v3) => palingref02_size_L1 v2 v3)
    (fun s : Int × Int => (match s with | (v2, v3) => [(2, .z), (3, .j v2), (4, .j v3)] : Fr DD)) (fun s : Int × Int => (match s with | (v2, v3) => [] : Heap DD)) (fun r => match r with | v6 => .exit 0) (fun r => match r with | v6 => [(2, .z), (3, .j v6)]) (fun r => match r with | v6 => []) := by
  refine loop_sound3 (fun s q h => ?_) (fun r => ?_)
  · obtain ⟨v2, v3⟩ := s; replace h : palingref02_size_L1 v2 v3 = some q := h
    unfold palingref02_size_L1 at h
    obtain ⟨h4, h⟩|⟨h4, h⟩ := ite_out h
    · injection h with h; subst h; exact rl [2, 3, 4] [] [.t] (pc h4<|pn)
    · injection h with h; subst h; exact rl [2, 3] [] [.f] (pc h4<|pn)
  · exact Ex.noConfusion

theorem k_palingref02_size {a1 : Api_Prefix} {r : Int} (h : palingref02_size a1 = some r) :
    CallsOK Tryz.prog UU 293 [.agg (c116 a1)] [] (.j r) [] := by
  unfold palingref02_size at h
  obtain ⟨v6, h7, h⟩ := bo h
  injection h with h; subst h; exact rf Tryz.func293 none [.sum [2, 3, 4] [] (.exit 0) [(2, .z), (3, .j v6)] []] (pc (k_palingref02_size_L1 _ _ h7)<|pn)

theorem k_palingref02_First {a1 : Api_Prefix} {r : Int} (h : palingref02_First a1 = some r) :
    CallsOK Tryz.prog UU 273 [.agg (c116 a1)] [] (.v (.int .u32 r)) [] := by
  unfold palingref02_First at h
  obtain ⟨r2, h3, h⟩ := bo h
  obtain ⟨h4, h⟩|⟨h4, h⟩ := ite_out h
  · injection h with h; subst h; exact rf Tryz.func273 none [.b r2, .t] (pc (k_palingref02_Right h3)<|pc h4<|pn)
  · obtain ⟨r5, h6, h⟩ := bo h
    obtain ⟨h7, h⟩|⟨h7, h⟩ := ite_out h
    · obtain ⟨r8, h9, h⟩ := bo h
      injection h with h; subst h; exact rf Tryz.func273 none [.b r2, .f, .callv (.j r5), .callv (.j r8)] (pc (k_palingref02_Right h3)<|pc h4<|pc (k_palingref02_size h6)<|pc (ne0_ob h7)<|pc (k_palingref02_size h9)<|pn)
    · cases h

theorem k_palingref02_Last {a1 : Api_Prefix} {r : Int} (h : palingref02_Last a1 = some r) :
    CallsOK Tryz.prog UU 274 [.agg (c116 a1)] [] (.v (.int .u32 r)) [] := by
  unfold palingref02_Last at h
  obtain ⟨r2, h3, h⟩ := bo h
  obtain ⟨h4, h⟩|⟨h4, h⟩ := ite_out h
  · injection h with h; subst h; exact rf Tryz.func274 none [.b r2, .t] (pc (k_palingref02_Right h3)<|pc h4<|pn)
  · obtain ⟨r5, h6, h⟩ := bo h
    obtain ⟨r7, h8, h⟩ := bo h
    injection h with h; subst h; exact rf Tryz.func274 none [.b r2, .f, .callv (.v (.int .u32 r5)), .callv (.j r7)] (pc (k_palingref02_Right h3)<|pc h4<|pc (k_palingref02_First h6)<|pc (k_palingref02_size h8)<|pn)

theorem k_palingref11_Subnet {a1 : Api_Prefix} {r : Bool} (h : palingref11_Subnet a1 = some r) :
    CallsOK Tryz.prog UU 285 [.agg (c116 a1)] [] (.v (.bool r)) [] := by
  unfold palingref11_Subnet at h
  obtain ⟨h2, h⟩|⟨h2, h⟩ := ite_out h
  · obtain ⟨h3, h⟩|⟨h3, h⟩ := ite_out h
    · obtain ⟨r4, h5, h⟩ := bo h
      obtain ⟨h6, h⟩|⟨h6, h⟩ := ite_out h
      · obtain ⟨r7, h8, h⟩ := bo h
        injection h with h; subst h; exact rf Tryz.func285 none [.t, .t, .callv (.v (.int .u32 r4)), .t, .callv (.v (.int .u32 r7))] (pc h2<|pc h3<|pc (k_palingref02_First h5)<|pc h6<|pc (k_palingref02_Last h8)<|pn)
      · injection h with h; subst h; exact rf Tryz.func285 none [.t, .t, .callv (.v (.int .u32 r4)), .f] (pc h2<|pc h3<|pc (k_palingref02_First h5)<|pc h6<|pn)
    · injection h with h; subst h; exact rf Tryz.func285 none [.t, .f] (pc h2<|pc h3<|pn)
  · injection h with h; subst h; exact rf Tryz.func285 none [.f] (pc h2<|pn)

theorem k_palingref11_word_own {a1 : Int} {a2 : ByteArray} {a3 : Int} {a4 : Int} {a5 : Int} {a6 : ByteArray} {a7 : ByteArray} {a8 : ByteArray} {a9 : ByteArray} {a10 : ByteArray} {a11 : Int} {a12 : Int} {a13 : Int} {a14 : Int} {a15 : Int} {a16 : Int} {a17 : List Int} {a18 : List Int} {a19 : List Int} {a20 : List Int} {r : (ByteArray × ByteArray × ByteArray × ByteArray × ByteArray × Int × Int × Int × Int × Int × Int × Int) ⊕ ((List Int) × Int) ⊕ ((List Int) × Int) ⊕ ((List Int) × Int)} (h : palingref11_word_own a1 a2 a3 a4 a5 a6 a7 a8 a9 a10 a11 a12 a13 a14 a15 a16 a17 a18 a19 a20 = some r) :
    CallsOK Tryz.prog UU 258 [.v (.int .u8 a1), .v (.string a2), .j a3, .op 0 1 0 0] [.box 37 [.j a4, .j a5, .v (.string a6), .v (.string a7), .v (.string a8), .v (.string a9), .v (.string a10), .v (.int .u64 a11), .v (.int .u32 a12), .j a13, .j a14, .j a15, .j a16, .os 1 a17.length, .os 2 a18.length, .os 3 a19.length, .os 4 a20.length] false, .arr 3 a17 a17.length false, .arr 3 a18 a18.length false, .arr 3 a19 a19.length false, .arr 33 a20 a20.length false] ((fun r => match r with | Sum.inl (v97, v98, v99, v100, v101, v102, v103, v104, v105, v106, v107, v108) => .j v108 | Sum.inr (Sum.inl (l109, v110)) => .j v110 | Sum.inr (Sum.inr (Sum.inl (l111, v112))) => .j v112 | Sum.inr (Sum.inr (Sum.inr (l113, v114))) => .j v114) r) ((fun r => match r with | Sum.inl (v97, v98, v99, v100, v101, v102, v103, v104, v105, v106, v107, v108) => [.box 37 [.j a4, .j a5, .v (.string v97), .v (.string v98), .v (.string v99), .v (.string v100), .v (.string v101), .v (.int .u64 v102), .v (.int .u32 v103), .j v104, .j v105, .j v106, .j v107, .os 1 a17.length, .os 2 a18.length, .os 3 a19.length, .os 4 a20.length] false, .arr 3 a17 a17.length false, .arr 3 a18 a18.length false, .arr 3 a19 a19.length false, .arr 33 a20 a20.length false] | Sum.inr (Sum.inl (l109, v110)) => [.box 37 [.j a4, .j a5, .v (.string a6), .v (.string a7), .v (.string a8), .v (.string a9), .v (.string a10), .v (.int .u64 a11), .v (.int .u32 a12), .j a13, .j a14, .j a15, .j a16, .os 5 l109.length, .os 2 a18.length, .os 3 a19.length, .os 4 a20.length] false, .arr 3 a17 a17.length false, .arr 3 a18 a18.length false, .arr 3 a19 a19.length false, .arr 33 a20 a20.length false, .arr 3 l109 l109.length false] | Sum.inr (Sum.inr (Sum.inl (l111, v112))) => [.box 37 [.j a4, .j a5, .v (.string a6), .v (.string a7), .v (.string a8), .v (.string a9), .v (.string a10), .v (.int .u64 a11), .v (.int .u32 a12), .j a13, .j a14, .j a15, .j a16, .os 1 a17.length, .os 2 a18.length, .os 3 a19.length, .os 5 l111.length] false, .arr 3 a17 a17.length false, .arr 3 a18 a18.length false, .arr 3 a19 a19.length false, .arr 33 a20 a20.length false, .arr 33 l111 l111.length false] | Sum.inr (Sum.inr (Sum.inr (l113, v114))) => [.box 37 [.j a4, .j a5, .v (.string a6), .v (.string a7), .v (.string a8), .v (.string a9), .v (.string a10), .v (.int .u64 a11), .v (.int .u32 a12), .j a13, .j a14, .j a15, .j a16, .os 1 a17.length, .os 3 a19.length, .os 5 l113.length, .os 4 a20.length] false, .arr 3 a17 a17.length false, .arr 3 a18 a18.length false, .arr 3 a19 a19.length false, .arr 33 a20 a20.length false, .arr 3 l113 l113.length false]) r) := by
  unfold palingref11_word_own at h
  obtain ⟨h21, h⟩|⟨h21, h⟩ := ite_out h
  · obtain ⟨r22, h23, h⟩ := bo h
    obtain ⟨h24, h⟩|⟨h24, h⟩ := ite_out h
    · injection h with h; subst h; exact rf Tryz.func258 (some [0, 1, 2, 3, 4]) [.t, .b r22, .t] (pc h21<|pc (k_palingref03_Name h23)<|pc h24<|pn)
    · obtain ⟨r25, h26, h⟩ := bo h
      obtain ⟨v27, v28, v29, v30, v31⟩ := r25
      injection h with h; subst h; exact rf Tryz.func258 (some [0, 1, 2, 3, 4]) [.t, .b r22, .f, .callm [0, 1, 2, 3, 4] (.tup []) [.box 37 [.j a4, .j a5, .v (.string v27), .v (.string v28), .v (.string v29), .v (.string v30), .v (.string v31), .v (.int .u64 a11), .v (.int .u32 a12), .j a13, .j a14, .j a15, .j a16, .os 1 a17.length, .os 2 a18.length, .os 3 a19.length, .os 4 a20.length] false, .arr 3 a17 a17.length false, .arr 3 a18 a18.length false, .arr 3 a19 a19.length false, .arr 33 a20 a20.length false]] (pc h21<|pc (k_palingref03_Name h23)<|pc h24<|pc (k_palingref11_name_own h26)<|pn)
  · obtain ⟨h32, h⟩|⟨h32, h⟩ := ite_out h
    · obtain ⟨h33, h⟩|⟨h33, h⟩ := ite_out h
      · obtain ⟨h34, h⟩|⟨h34, h⟩ := ite_out h
        · injection h with h; subst h; exact rf Tryz.func258 (some [0, 1, 2, 3, 4]) [.f, .t, .t, .t] (pc h21<|pc h32<|pc h33<|pc h34<|pn)
        · injection h with h; subst h; exact rf Tryz.func258 (some [0, 1, 2, 3, 4]) [.f, .t, .t, .f] (pc h21<|pc h32<|pc h33<|pc h34<|pn)
      · injection h with h; subst h; exact rf Tryz.func258 (some [0, 1, 2, 3, 4]) [.f, .t, .f] (pc h21<|pc h32<|pc h33<|pn)
    · obtain ⟨h35, h⟩|⟨h35, h⟩ := ite_out h
      · obtain ⟨r36, h37, h⟩ := bo h
        obtain ⟨h38, h⟩|⟨h38, h⟩ := ite_out h
        · injection h with h; subst h; exact rf Tryz.func258 (some [0, 1, 2, 3, 4]) [.f, .f, .t, .callv (.tup [.v (.int .i64 r36.1), .v (.bool r36.2)]), .t] (pc h21<|pc h32<|pc h35<|pc (k_palingref03_Read h37)<|pc h38<|pn)
        · injection h with h; subst h; exact rf Tryz.func258 (some [0, 1, 2, 3, 4]) [.f, .f, .t, .callv (.tup [.v (.int .i64 r36.1), .v (.bool r36.2)]), .f] (pc h21<|pc h32<|pc h35<|pc (k_palingref03_Read h37)<|pc h38<|pn)
      · obtain ⟨h39, h⟩|⟨h39, h⟩ := ite_out h
        · obtain ⟨r40, h41, h⟩ := bo h
          obtain ⟨h42, h⟩|⟨h42, h⟩ := ite_out h
          · injection h with h; subst h; exact rf Tryz.func258 (some [0, 1, 2, 3, 4]) [.f, .f, .f, .t, .callv (.tup [.v (.int .i64 r40.1), .v (.bool r40.2)]), .t] (pc h21<|pc h32<|pc h35<|pc h39<|pc (k_palingref03_Read h41)<|pc h42<|pn)
          · injection h with h; subst h; exact rf Tryz.func258 (some [0, 1, 2, 3, 4]) [.f, .f, .f, .t, .callv (.tup [.v (.int .i64 r40.1), .v (.bool r40.2)]), .f] (pc h21<|pc h32<|pc h35<|pc h39<|pc (k_palingref03_Read h41)<|pc h42<|pn)
        · obtain ⟨h43, h⟩|⟨h43, h⟩ := ite_out h
          · obtain ⟨r44, h45, h⟩ := bo h
            obtain ⟨h46, h⟩|⟨h46, h⟩ := ite_out h
            · obtain ⟨r47, h48, h⟩ := bo h
              obtain ⟨h49, h⟩|⟨h49, h⟩ := ite_out h
              · injection h with h; subst h; exact rf Tryz.func258 (some [0, 1, 2, 3, 4]) [.f, .f, .f, .f, .t, .callv (.tup [.v (.int .u64 r44.1), .v (.bool r44.2)]), .t, .b r47, .t] (pc h21<|pc h32<|pc h35<|pc h39<|pc h43<|pc (k_palingref01_Read h45)<|pc h46<|pc (k_palingref11_Station h48)<|pc h49<|pn)
              · injection h with h; subst h; exact rf Tryz.func258 (some [0, 1, 2, 3, 4]) [.f, .f, .f, .f, .t, .callv (.tup [.v (.int .u64 r44.1), .v (.bool r44.2)]), .t, .b r47, .f] (pc h21<|pc h32<|pc h35<|pc h39<|pc h43<|pc (k_palingref01_Read h45)<|pc h46<|pc (k_palingref11_Station h48)<|pc h49<|pn)
            · injection h with h; subst h; exact rf Tryz.func258 (some [0, 1, 2, 3, 4]) [.f, .f, .f, .f, .t, .callv (.tup [.v (.int .u64 r44.1), .v (.bool r44.2)]), .f, .t] (pc h21<|pc h32<|pc h35<|pc h39<|pc h43<|pc (k_palingref01_Read h45)<|pc h46<|pc ((rfl : (!false) = true))<|pn)
          · obtain ⟨h50, h⟩|⟨h50, h⟩ := ite_out h
            · obtain ⟨r51, h52, h⟩ := bo h
              obtain ⟨h53, h⟩|⟨h53, h⟩ := ite_out h
              · injection h with h; subst h; exact rf Tryz.func258 (some [0, 1, 2, 3, 4]) [.f, .f, .f, .f, .f, .t, .callv (.tup [.v (.int .i64 r51.1), .v (.bool r51.2)]), .t] (pc h21<|pc h32<|pc h35<|pc h39<|pc h43<|pc h50<|pc (k_palingref03_Read h52)<|pc h53<|pn)
              · injection h with h; subst h; exact rf Tryz.func258 (some [0, 1, 2, 3, 4]) [.f, .f, .f, .f, .f, .t, .callv (.tup [.v (.int .i64 r51.1), .v (.bool r51.2)]), .f] (pc h21<|pc h32<|pc h35<|pc h39<|pc h43<|pc h50<|pc (k_palingref03_Read h52)<|pc h53<|pn)
            · obtain ⟨h54, h⟩|⟨h54, h⟩ := ite_out h
              · obtain ⟨r55, h56, h⟩ := bo h
                obtain ⟨h57, h⟩|⟨h57, h⟩ := ite_out h
                · injection h with h; subst h; exact rf Tryz.func258 (some [0, 1, 2, 3, 4]) [.f, .f, .f, .f, .f, .f, .t, .callv (.tup [.v (.int .i64 r55.1), .v (.bool r55.2)]), .t, .f] (pc h21<|pc h32<|pc h35<|pc h39<|pc h43<|pc h50<|pc h54<|pc (k_palingref03_Read h56)<|pc h57<|pc ((rfl : (!true) = false))<|pn)
                · obtain ⟨h58, h⟩|⟨h58, h⟩ := ite_out h
                  · injection h with h; subst h; exact rf Tryz.func258 (some [0, 1, 2, 3, 4]) [.f, .f, .f, .f, .f, .f, .t, .callv (.tup [.v (.int .i64 r55.1), .v (.bool r55.2)]), .f, .t] (pc h21<|pc h32<|pc h35<|pc h39<|pc h43<|pc h50<|pc h54<|pc (k_palingref03_Read h56)<|pc h57<|pc h58<|pn)
                  · injection h with h; subst h; exact rf Tryz.func258 (some [0, 1, 2, 3, 4]) [.f, .f, .f, .f, .f, .f, .t, .callv (.tup [.v (.int .i64 r55.1), .v (.bool r55.2)]), .f, .f] (pc h21<|pc h32<|pc h35<|pc h39<|pc h43<|pc h50<|pc h54<|pc (k_palingref03_Read h56)<|pc h57<|pc h58<|pn)
              · obtain ⟨h59, h⟩|⟨h59, h⟩ := ite_out h
                · obtain ⟨r60, h61, h⟩ := bo h
                  obtain ⟨l62, v63⟩ := r60
                  obtain ⟨h64, h⟩|⟨h64, h⟩ := ite_out h
                  · injection h with h; subst h; exact rf Tryz.func258 (some [0, 1, 2, 3, 4, 5]) [.f, .f, .f, .f, .f, .f, .f, .t, .callo (.tup [.os 0 l62.length, .v (.bool v63)]) [.arr 3 l62 l62.length false], .t] (pc h21<|pc h32<|pc h35<|pc h39<|pc h43<|pc h50<|pc h54<|pc h59<|pc (k_palingref11_list h61)<|pc (im3 l62)<|pc h64<|pn)
                  · injection h with h; subst h; exact rf Tryz.func258 (some [0, 1, 2, 3, 4, 5]) [.f, .f, .f, .f, .f, .f, .f, .t, .callo (.tup [.os 0 l62.length, .v (.bool v63)]) [.arr 3 l62 l62.length false], .f] (pc h21<|pc h32<|pc h35<|pc h39<|pc h43<|pc h50<|pc h54<|pc h59<|pc (k_palingref11_list h61)<|pc (im3 l62)<|pc h64<|pn)
                · obtain ⟨h65, h⟩|⟨h65, h⟩ := ite_out h
                  · obtain ⟨r66, h67, h⟩ := bo h
                    obtain ⟨h68, h⟩|⟨h68, h⟩ := ite_out h
                    · injection h with h; subst h; exact rf Tryz.func258 (some [0, 1, 2, 3, 4]) [.f, .f, .f, .f, .f, .f, .f, .f, .t, .callv (.tup [.v (.int .i64 r66.1), .v (.bool r66.2)]), .t] (pc h21<|pc h32<|pc h35<|pc h39<|pc h43<|pc h50<|pc h54<|pc h59<|pc h65<|pc (k_palingref03_Read h67)<|pc h68<|pn)
                    · injection h with h; subst h; exact rf Tryz.func258 (some [0, 1, 2, 3, 4]) [.f, .f, .f, .f, .f, .f, .f, .f, .t, .callv (.tup [.v (.int .i64 r66.1), .v (.bool r66.2)]), .f] (pc h21<|pc h32<|pc h35<|pc h39<|pc h43<|pc h50<|pc h54<|pc h59<|pc h65<|pc (k_palingref03_Read h67)<|pc h68<|pn)
                  · obtain ⟨h69, h⟩|⟨h69, h⟩ := ite_out h
                    · obtain ⟨r70, h71, h⟩ := bo h
                      obtain ⟨h72, h⟩|⟨h72, h⟩ := ite_out h
                      · obtain ⟨h73, h⟩|⟨h73, h⟩ := ite_out h
                        · injection h with h; subst h; exact rf Tryz.func258 (some [0, 1, 2, 3, 4]) [.f, .f, .f, .f, .f, .f, .f, .f, .f, .t, .callv (.tup [.v (.int .u32 r70.1), .v (.bool r70.2)]), .t, .t] (pc h21<|pc h32<|pc h35<|pc h39<|pc h43<|pc h50<|pc h54<|pc h59<|pc h65<|pc h69<|pc (k_palingref02_Read h71)<|pc h72<|pc h73<|pn)
                        · injection h with h; subst h; exact rf Tryz.func258 (some [0, 1, 2, 3, 4]) [.f, .f, .f, .f, .f, .f, .f, .f, .f, .t, .callv (.tup [.v (.int .u32 r70.1), .v (.bool r70.2)]), .t, .f] (pc h21<|pc h32<|pc h35<|pc h39<|pc h43<|pc h50<|pc h54<|pc h59<|pc h65<|pc h69<|pc (k_palingref02_Read h71)<|pc h72<|pc h73<|pn)
                      · injection h with h; subst h; exact rf Tryz.func258 (some [0, 1, 2, 3, 4]) [.f, .f, .f, .f, .f, .f, .f, .f, .f, .t, .callv (.tup [.v (.int .u32 r70.1), .v (.bool r70.2)]), .f, .t] (pc h21<|pc h32<|pc h35<|pc h39<|pc h43<|pc h50<|pc h54<|pc h59<|pc h65<|pc h69<|pc (k_palingref02_Read h71)<|pc h72<|pc ((rfl : (!false) = true))<|pn)
                    · obtain ⟨h74, h⟩|⟨h74, h⟩ := ite_out h
                      · obtain ⟨r75, h76, h⟩ := bo h
                        obtain ⟨l77, v78⟩ := r75
                        obtain ⟨h79, h⟩|⟨h79, h⟩ := ite_out h
                        · obtain ⟨h80, h⟩|⟨h80, h⟩ := ite_out h
                          · obtain ⟨x81, h82, h⟩ := bo h
                            obtain ⟨h83, h⟩|⟨h83, h⟩ := ite_out h
                            · injection h with h; subst h; exact rf Tryz.func258 (some [0, 1, 2, 3, 4, 5]) [.f, .f, .f, .f, .f, .f, .f, .f, .f, .f, .t, .callo (.tup [.os 0 l77.length, .v (.bool v78)]) [.arr 33 l77 l77.length false], .t, .row (c33 x81), .t] (pc h21<|pc h32<|pc h35<|pc h39<|pc h43<|pc h50<|pc h54<|pc h59<|pc h65<|pc h69<|pc h74<|pc (k_palingref03_ReadAddrs h76)<|pc (im33 l77)<|pc h79<|pc (an l77.length (lin_ob h80))<|pc (an l77.length (obn33 h82))<|pc h83<|pn)
                            · injection h with h; subst h; exact rf Tryz.func258 (some [0, 1, 2, 3, 4, 5]) [.f, .f, .f, .f, .f, .f, .f, .f, .f, .f, .t, .callo (.tup [.os 0 l77.length, .v (.bool v78)]) [.arr 33 l77 l77.length false], .t, .row (c33 x81), .f] (pc h21<|pc h32<|pc h35<|pc h39<|pc h43<|pc h50<|pc h54<|pc h59<|pc h65<|pc h69<|pc h74<|pc (k_palingref03_ReadAddrs h76)<|pc (im33 l77)<|pc h79<|pc (an l77.length (lin_ob h80))<|pc (an l77.length (obn33 h82))<|pc h83<|pn)
                          · cases h
                        · injection h with h; subst h; exact rf Tryz.func258 (some [0, 1, 2, 3, 4, 5]) [.f, .f, .f, .f, .f, .f, .f, .f, .f, .f, .t, .callo (.tup [.os 0 l77.length, .v (.bool v78)]) [.arr 33 l77 l77.length false], .f, .t] (pc h21<|pc h32<|pc h35<|pc h39<|pc h43<|pc h50<|pc h54<|pc h59<|pc h65<|pc h69<|pc h74<|pc (k_palingref03_ReadAddrs h76)<|pc (im33 l77)<|pc h79<|pc ((rfl : (!false) = true))<|pn)
                      · obtain ⟨h84, h⟩|⟨h84, h⟩ := ite_out h
                        · obtain ⟨r85, h86, h⟩ := bo h
                          obtain ⟨l87, v88⟩ := r85
                          obtain ⟨h89, h⟩|⟨h89, h⟩ := ite_out h
                          · injection h with h; subst h; exact rf Tryz.func258 (some [0, 1, 2, 3, 4, 5]) [.f, .f, .f, .f, .f, .f, .f, .f, .f, .f, .f, .t, .callo (.tup [.os 0 l87.length, .v (.bool v88)]) [.arr 3 l87 l87.length false], .t] (pc h21<|pc h32<|pc h35<|pc h39<|pc h43<|pc h50<|pc h54<|pc h59<|pc h65<|pc h69<|pc h74<|pc h84<|pc (k_palingref11_list h86)<|pc (im3 l87)<|pc h89<|pn)
                          · injection h with h; subst h; exact rf Tryz.func258 (some [0, 1, 2, 3, 4, 5]) [.f, .f, .f, .f, .f, .f, .f, .f, .f, .f, .f, .t, .callo (.tup [.os 0 l87.length, .v (.bool v88)]) [.arr 3 l87 l87.length false], .f] (pc h21<|pc h32<|pc h35<|pc h39<|pc h43<|pc h50<|pc h54<|pc h59<|pc h65<|pc h69<|pc h74<|pc h84<|pc (k_palingref11_list h86)<|pc (im3 l87)<|pc h89<|pn)
                        · obtain ⟨h90, h⟩|⟨h90, h⟩ := ite_out h
                          · obtain ⟨r91, h92, h⟩ := bo h
                            obtain ⟨h93, h⟩|⟨h93, h⟩ := ite_out h
                            · obtain ⟨r94, h95, h⟩ := bo h
                              obtain ⟨h96, h⟩|⟨h96, h⟩ := ite_out h
                              · injection h with h; subst h; exact rf Tryz.func258 (some [0, 1, 2, 3, 4]) [.f, .f, .f, .f, .f, .f, .f, .f, .f, .f, .f, .f, .t, .callv (.tup [.agg (c116 r91.1), .v (.bool r91.2)]), .t, .b r94, .t] (pc h21<|pc h32<|pc h35<|pc h39<|pc h43<|pc h50<|pc h54<|pc h59<|pc h65<|pc h69<|pc h74<|pc h84<|pc h90<|pc (k_palingref02_ReadPrefix h92)<|pc h93<|pc (k_palingref11_Subnet h95)<|pc h96<|pn)
                              · injection h with h; subst h; exact rf Tryz.func258 (some [0, 1, 2, 3, 4]) [.f, .f, .f, .f, .f, .f, .f, .f, .f, .f, .f, .f, .t, .callv (.tup [.agg (c116 r91.1), .v (.bool r91.2)]), .t, .b r94, .f] (pc h21<|pc h32<|pc h35<|pc h39<|pc h43<|pc h50<|pc h54<|pc h59<|pc h65<|pc h69<|pc h74<|pc h84<|pc h90<|pc (k_palingref02_ReadPrefix h92)<|pc h93<|pc (k_palingref11_Subnet h95)<|pc h96<|pn)
                            · injection h with h; subst h; exact rf Tryz.func258 (some [0, 1, 2, 3, 4]) [.f, .f, .f, .f, .f, .f, .f, .f, .f, .f, .f, .f, .t, .callv (.tup [.agg (c116 r91.1), .v (.bool r91.2)]), .f, .t] (pc h21<|pc h32<|pc h35<|pc h39<|pc h43<|pc h50<|pc h54<|pc h59<|pc h65<|pc h69<|pc h74<|pc h84<|pc h90<|pc (k_palingref02_ReadPrefix h92)<|pc h93<|pc ((rfl : (!false) = true))<|pn)
                          · injection h with h; subst h; exact rf Tryz.func258 (some [0, 1, 2, 3, 4]) [.f, .f, .f, .f, .f, .f, .f, .f, .f, .f, .f, .f, .f] (pc h21<|pc h32<|pc h35<|pc h39<|pc h43<|pc h50<|pc h54<|pc h59<|pc h65<|pc h69<|pc h74<|pc h84<|pc h90<|pn)

theorem k_palingref11_members_L1 {a1 : Api_Line} : LoopOK Tryz.prog UU 0 28 (subC (codeOf Tryz.f259) [1, 0, 1, 0, 0]) (ρ := Unit ⊕ Unit) (palingref11_members_L1 a1)
    (fun v2 : Int => ([(1, .op 0 1 0 0), (2, .v (.bool false)), (3, .j v2)] : Fr DD)) (fun v2 : Int => ([.box 37 (c37 a1) false] : Heap DD)) (fun r => match r with | Sum.inl _ => .ret | Sum.inr _ => .exit 0) (fun r => match r with | Sum.inl _ => [(2, .v (.bool false))] | Sum.inr _ => [(1, .op 0 1 0 0), (2, .v (.bool false))]) (fun r => match r with | Sum.inl _ => [] | Sum.inr _ => [.box 37 (c37 a1) false]) := by
  refine loop_sound3 (fun s q h => ?_) (fun r => ?_)
  · replace h : palingref11_members_L1 a1 s = some q := h; revert h; revert s; intro v2 h
    unfold palingref11_members_L1 at h
    obtain ⟨h3, h⟩|⟨h3, h⟩ := ite_out h
    · obtain ⟨x4, h5, h⟩ := bo h
      obtain ⟨h6, h⟩|⟨h6, h⟩ := ite_out h
      · injection h with h; subst h; exact rl [2] [] [.t, .row (c3 x4), .t] (pc h3<|pc (ob3 h5)<|pc h6<|pn)
      · injection h with h; subst h; exact rl [1, 2, 3] [0] [.t, .row (c3 x4), .f] (pc h3<|pc (ob3 h5)<|pc h6<|pn)
    · injection h with h; subst h; exact rl [1, 2] [0] [.f] (pc h3<|pn)
  · rcases r with _ | _ <;> exact Ex.noConfusion

theorem k_palingref11_members {a1 : Api_Line} {r : Bool} (h : palingref11_members a1 = some r) :
    CallsOK Tryz.prog UU 259 [.agg (c37 a1)] [] (.v (.bool r)) [] := by
  unfold palingref11_members at h
  obtain ⟨r8, h7, h⟩ := bo h
  rcases r8 with _ | _
  · injection h with h; subst h; exact rf Tryz.func259 none [.sum [1, 2, 3] [0] .ret [(2, .v (.bool false))] []] (pc (k_palingref11_members_L1 _ _ h7)<|pn)
  · obtain ⟨h9, h⟩|⟨h9, h⟩ := ite_out h
    · injection h with h; subst h; exact rf Tryz.func259 none [.sum [1, 2, 3] [0] (.exit 0) [(1, .op 0 1 0 0), (2, .v (.bool false))] [.box 37 (c37 a1) false], .t] (pc (k_palingref11_members_L1 _ _ h7)<|pc h9<|pn)
    · injection h with h; subst h; exact rf Tryz.func259 none [.sum [1, 2, 3] [0] (.exit 0) [(1, .op 0 1 0 0), (2, .v (.bool false))] [.box 37 (c37 a1) false], .f] (pc (k_palingref11_members_L1 _ _ h7)<|pc h9<|pn)

theorem k_palingref11_Read_J2 {a1 : List ByteArray} {a2 : Int} {r3 : ByteArray} {r : Bool} (h : palingref11_Read_J2 a1 a2 r3 = some r) :
    ExecOK Tryz.prog UU 0 97 (subC (codeOf Tryz.f214) [1, 1, 0, 0]) [(0, .sl 9 a1), (1, .j a2), (4, .op 0 1 0 0), (5, .z), (6, .v (.string r3))] [.box 37 [.z, .z, .e, .e, .e, .e, .e, .v (.int .u64 0), .v (.int .u32 0), .z, .z, .z, .z, .os 1 0, .os 2 0, .os 3 0, .os 4 0] false, .n 3, .n 3, .n 3, .n 33] ((fun r => match r with | v7 => .nor) r) ((fun r => match r with | v7 => [(0, .sl 9 a1), (1, .j a2), (4, .op 0 1 0 0), (5, .z), (6, .v (.string r3)), (22, .v (.bool v7))]) r) ((fun r => match r with | v7 => [.box 37 [.z, .z, .e, .e, .e, .e, .e, .v (.int .u64 0), .v (.int .u32 0), .z, .z, .z, .z, .os 1 0, .os 2 0, .os 3 0, .os 4 0] false, .n 3, .n 3, .n 3, .n 33]) r) := by
  unfold palingref11_Read_J2 at h
  obtain ⟨h5, h⟩|⟨h5, h⟩ := ite_out h
  · injection h with h; subst h; exact rl [0, 1, 4, 5, 6, 22] [0, 1, 2, 3, 4] [.t] (pc h5<|pn)
  · injection h with h; subst h; exact rl [0, 1, 4, 5, 6, 22] [0, 1, 2, 3, 4] [.f] (pc h5<|pn)

def b0_k_palingref11_Read_J1 : List (AObj DD) := [.box 37 [.z, .z, .e, .e, .e, .e, .e, .v (.int .u64 0), .v (.int .u32 0), .z, .z, .z, .z, .os 1 0, .os 2 0, .os 3 0, .os 4 0] false, .n 3, .n 3, .n 3, .n 33]
def b1_k_palingref11_Read_J1 : AObj DD := .box 37 [.z, .z, .e, .e, .e, .e, .e, .v (.int .u64 0), .v (.int .u32 0), .z, .z, .z, .z, .os 1 0, .os 2 0, .os 3 0, .os 4 0] false
theorem k_palingref11_Read_J1 {a1 : List ByteArray} {a2 : Int} {r3 : ByteArray} {r : ByteArray ⊕ Unit} (h : palingref11_Read_J1 a1 a2 r3 = some r) :
    ExecOK Tryz.prog UU 0 97 (subC (codeOf Tryz.f214) [1, 1, 0]) [(0, .sl 9 a1), (1, .j a2), (4, .op 0 1 0 0), (5, .z), (6, .v (.string r3))] b0_k_palingref11_Read_J1 ((fun r => match r with | Sum.inl v24 => .nor | Sum.inr _ => .ret) r) ((fun r => match r with | Sum.inl v24 => [(0, .sl 9 a1), (1, .j a2), (4, .op 0 1 0 0), (5, .z), (6, .v (.string v24))] | Sum.inr _ => [(4, .op 0 1 0 0), (5, .j 22)]) r) ((fun r => match r with | Sum.inl v24 => b0_k_palingref11_Read_J1 | Sum.inr _ => b0_k_palingref11_Read_J1) r) := by
  unfold palingref11_Read_J1 at h
  obtain ⟨v7, h8, h⟩ := bo h
  obtain ⟨h10, h⟩|⟨h10, h⟩ := ite_out h
  · obtain ⟨h11, h⟩|⟨h11, h⟩ := ite_out h
    · obtain ⟨x12, h13, h⟩ := bo h
      obtain ⟨h14, h⟩|⟨h14, h⟩ := ite_out h
      · obtain ⟨h15, h⟩|⟨h15, h⟩ := ite_out h
        · obtain ⟨h16, h⟩|⟨h16, h⟩ := ite_out h
          · obtain ⟨x17, h18, h⟩ := bo h
            obtain ⟨h19, h⟩|⟨h19, h⟩ := ite_out h
            · obtain ⟨x20, h21, h⟩ := bo h
              obtain ⟨h22, h⟩|⟨h22, h⟩ := ite_out h
              · injection h with h; subst h; exact rl [0, 1, 4, 5, 6] [0, 1, 2, 3, 4] [.cut [0, 1, 4, 5, 6] [0, 1, 2, 3, 4] .nor [(0, .sl 9 a1), (1, .j a2), (4, .op 0 1 0 0), (5, .z), (6, .v (.string r3)), (22, .v (.bool v7))] b0_k_palingref11_Read_J1, .t, .t, .row (c9 x12), .t, .t, .t, .row (c9 x17), .t, .row (c9 x20), .t] (pc (k_palingref11_Read_J2 h8)<|pc h10<|pc h11<|pc (ob9 h13)<|pc h14<|pc h15<|pc h16<|pc (ob9 h18)<|pc h19<|pc (ob9 h21)<|pc h22<|pn)
              · injection h with h; subst h; exact rl [4, 5] [0, 5, 6, 7, 8] [.cut [0, 1, 4, 5, 6] [0, 1, 2, 3, 4] .nor [(0, .sl 9 a1), (1, .j a2), (4, .op 0 1 0 0), (5, .z), (6, .v (.string r3)), (22, .v (.bool v7))] b0_k_palingref11_Read_J1, .t, .t, .row (c9 x12), .t, .t, .t, .row (c9 x17), .t, .row (c9 x20), .f] (pc (k_palingref11_Read_J2 h8)<|pc h10<|pc h11<|pc (ob9 h13)<|pc h14<|pc h15<|pc h16<|pc (ob9 h18)<|pc h19<|pc (ob9 h21)<|pc h22<|pn)
            · injection h with h; subst h; exact rl [4, 5] [0, 5, 6, 7, 8] [.cut [0, 1, 4, 5, 6] [0, 1, 2, 3, 4] .nor [(0, .sl 9 a1), (1, .j a2), (4, .op 0 1 0 0), (5, .z), (6, .v (.string r3)), (22, .v (.bool v7))] b0_k_palingref11_Read_J1, .t, .t, .row (c9 x12), .t, .t, .t, .row (c9 x17), .f] (pc (k_palingref11_Read_J2 h8)<|pc h10<|pc h11<|pc (ob9 h13)<|pc h14<|pc h15<|pc h16<|pc (ob9 h18)<|pc h19<|pn)
          · injection h with h; subst h; exact rl [4, 5] [0, 5, 6, 7, 8] [.cut [0, 1, 4, 5, 6] [0, 1, 2, 3, 4] .nor [(0, .sl 9 a1), (1, .j a2), (4, .op 0 1 0 0), (5, .z), (6, .v (.string r3)), (22, .v (.bool v7))] b0_k_palingref11_Read_J1, .t, .t, .row (c9 x12), .t, .t, .f] (pc (k_palingref11_Read_J2 h8)<|pc h10<|pc h11<|pc (ob9 h13)<|pc h14<|pc h15<|pc h16<|pn)
        · injection h with h; subst h; exact rl [4, 5] [0, 5, 6, 7, 8] [.cut [0, 1, 4, 5, 6] [0, 1, 2, 3, 4] .nor [(0, .sl 9 a1), (1, .j a2), (4, .op 0 1 0 0), (5, .z), (6, .v (.string r3)), (22, .v (.bool v7))] b0_k_palingref11_Read_J1, .t, .t, .row (c9 x12), .t, .f] (pc (k_palingref11_Read_J2 h8)<|pc h10<|pc h11<|pc (ob9 h13)<|pc h14<|pc h15<|pn)
      · injection h with h; subst h; exact rl [4, 5] [0, 5, 6, 7, 8] [.cut [0, 1, 4, 5, 6] [0, 1, 2, 3, 4] .nor [(0, .sl 9 a1), (1, .j a2), (4, .op 0 1 0 0), (5, .z), (6, .v (.string r3)), (22, .v (.bool v7))] b0_k_palingref11_Read_J1, .t, .t, .row (c9 x12), .f] (pc (k_palingref11_Read_J2 h8)<|pc h10<|pc h11<|pc (ob9 h13)<|pc h14<|pn)
    · injection h with h; subst h; exact rl [4, 5] [0, 5, 6, 7, 8] [.cut [0, 1, 4, 5, 6] [0, 1, 2, 3, 4] .nor [(0, .sl 9 a1), (1, .j a2), (4, .op 0 1 0 0), (5, .z), (6, .v (.string r3)), (22, .v (.bool v7))] b0_k_palingref11_Read_J1, .t, .f] (pc (k_palingref11_Read_J2 h8)<|pc h10<|pc h11<|pn)
  · injection h with h; subst h; exact rl [0, 1, 4, 5, 6] [0, 1, 2, 3, 4] [.cut [0, 1, 4, 5, 6] [0, 1, 2, 3, 4] .nor [(0, .sl 9 a1), (1, .j a2), (4, .op 0 1 0 0), (5, .z), (6, .v (.string r3)), (22, .v (.bool v7))] b0_k_palingref11_Read_J1, .f] (pc (k_palingref11_Read_J2 h8)<|pc h10<|pn)

theorem k_palingref11_Read_J4 {a1 : List ByteArray} {a2 : Int} {v24 : ByteArray} {r29 : Int} {l31 : List Int} {l32 : List Int} {l33 : List Int} {v34 : ByteArray} {v35 : ByteArray} {v36 : ByteArray} {v37 : ByteArray} {v38 : ByteArray} {v39 : Int} {v40 : Int} {v41 : Int} {v42 : Int} {v43 : Int} {v44 : Int} {v45 : Int} {v46 : Int} {l47 : List Int} {r : ((List Int) × (List Int) × (List Int) × (List Int) × ByteArray × ByteArray × ByteArray × ByteArray × ByteArray × Int × Int × Int × Int × Int × Int × Int)} (h : palingref11_Read_J4 a1 a2 v24 r29 l31 l32 l33 v34 v35 v36 v37 v38 v39 v40 v41 v42 v43 v44 v45 v46 l47 = some r) :
    ExecOK Tryz.prog UU 0 97 (subC (codeOf Tryz.f214) [1, 1, 1, 1, 1, 0, 1, 0, 0, 1, 0, 0, 0]) [(0, .sl 9 a1), (4, .op 0 1 0 0), (5, .z), (6, .v (.string v24)), (7, .op 5 1 0 0), (8, .j v45), (9, .j v46)] [.box 37 [.z, .z, .e, .e, .e, .e, .e, .v (.int .u64 0), .v (.int .u32 0), .z, .z, .z, .z, .os 1 0, .os 2 0, .os 3 0, .os 4 0] false, .n 3, .n 3, .n 3, .n 33, .box 37 [.j a2, .j r29, .v (.string v34), .v (.string v35), .v (.string v36), .v (.string v37), .v (.string v38), .v (.int .u64 v39), .v (.int .u32 v40), .j v41, .j v42, .j v43, .j v44, .os 6 l31.length, .os 7 l47.length, .os 8 l32.length, .os 9 l33.length] false, .arr 3 l31 l31.length false, .arr 3 l47 l47.length false, .arr 3 l32 l32.length false, .arr 33 l33 l33.length false] ((fun r => match r with | (l193, l194, l195, l196, v197, v198, v199, v200, v201, v202, v203, v204, v205, v206, v207, v208) => .nor) r) ((fun r => match r with | (l193, l194, l195, l196, v197, v198, v199, v200, v201, v202, v203, v204, v205, v206, v207, v208) => [(0, .sl 9 a1), (4, .op 0 1 0 0), (5, .z), (6, .v (.string v24)), (7, .op 5 1 0 0), (8, .j v45), (9, .j v46), (10, .j v208)]) r) ((fun r => match r with | (l193, l194, l195, l196, v197, v198, v199, v200, v201, v202, v203, v204, v205, v206, v207, v208) => [.box 37 [.z, .z, .e, .e, .e, .e, .e, .v (.int .u64 0), .v (.int .u32 0), .z, .z, .z, .z, .os 1 0, .os 2 0, .os 3 0, .os 4 0] false, .n 3, .n 3, .n 3, .n 33, .box 37 [.j a2, .j r29, .v (.string v197), .v (.string v198), .v (.string v199), .v (.string v200), .v (.string v201), .v (.int .u64 v202), .v (.int .u32 v203), .j v204, .j v205, .j v206, .j v207, .os 6 l193.length, .os 7 l194.length, .os 8 l195.length, .os 9 l196.length] false, .arr 3 l193 l193.length false, .arr 3 l194 l194.length false, .arr 3 l195 l195.length false, .arr 33 l196 l196.length false]) r) := by
  unfold palingref11_Read_J4 at h
  obtain ⟨h49, h⟩|⟨h49, h⟩ := ite_out h
  · obtain ⟨x50, h51, h⟩ := bo h
    obtain ⟨r52, h53, h⟩ := bo h
    rcases r52 with ⟨v54, v55, v56, v57, v58, v59, v60, v61, v62, v63, v64, v65⟩ | ⟨l66, v67⟩ | ⟨l68, v69⟩ | ⟨l70, v71⟩
    · injection h with h; subst h; exact rl [0, 4, 5, 6, 7, 8, 9, 10] [0, 1, 2, 3, 4, 5, 6, 7, 8, 9] [.row (c9 x50), .callm [5, 6, 7, 8, 9] (.j v65) [.box 37 [.j a2, .j r29, .v (.string v54), .v (.string v55), .v (.string v56), .v (.string v57), .v (.string v58), .v (.int .u64 v59), .v (.int .u32 v60), .j v61, .j v62, .j v63, .j v64, .os 1 l31.length, .os 2 l47.length, .os 3 l32.length, .os 4 l33.length] false, .arr 3 l31 l31.length false, .arr 3 l47 l47.length false, .arr 3 l32 l32.length false, .arr 33 l33 l33.length false]] (pc (of_decide_eq_true h49)<|pc (ob9 h51)<|pc (k_palingref11_word_own h53)<|pn)
    · injection h with h; subst h; exact rl [0, 4, 5, 6, 7, 8, 9, 10] [0, 1, 2, 3, 4, 5, 10, 7, 8, 9] [.row (c9 x50), .callm [5, 6, 7, 8, 9] (.j v67) [.box 37 [.j a2, .j r29, .v (.string v34), .v (.string v35), .v (.string v36), .v (.string v37), .v (.string v38), .v (.int .u64 v39), .v (.int .u32 v40), .j v41, .j v42, .j v43, .j v44, .os 5 l66.length, .os 2 l47.length, .os 3 l32.length, .os 4 l33.length] false, .arr 3 l31 l31.length false, .arr 3 l47 l47.length false, .arr 3 l32 l32.length false, .arr 33 l33 l33.length false, .arr 3 l66 l66.length false]] (pc (of_decide_eq_true h49)<|pc (ob9 h51)<|pc (k_palingref11_word_own h53)<|pn)
    · injection h with h; subst h; exact rl [0, 4, 5, 6, 7, 8, 9, 10] [0, 1, 2, 3, 4, 5, 6, 7, 8, 10] [.row (c9 x50), .callm [5, 6, 7, 8, 9] (.j v69) [.box 37 [.j a2, .j r29, .v (.string v34), .v (.string v35), .v (.string v36), .v (.string v37), .v (.string v38), .v (.int .u64 v39), .v (.int .u32 v40), .j v41, .j v42, .j v43, .j v44, .os 1 l31.length, .os 2 l47.length, .os 3 l32.length, .os 5 l68.length] false, .arr 3 l31 l31.length false, .arr 3 l47 l47.length false, .arr 3 l32 l32.length false, .arr 33 l33 l33.length false, .arr 33 l68 l68.length false]] (pc (of_decide_eq_true h49)<|pc (ob9 h51)<|pc (k_palingref11_word_own h53)<|pn)
    · injection h with h; subst h; exact rl [0, 4, 5, 6, 7, 8, 9, 10] [0, 1, 2, 3, 4, 5, 6, 8, 10, 9] [.row (c9 x50), .callm [5, 6, 7, 8, 9] (.j v71) [.box 37 [.j a2, .j r29, .v (.string v34), .v (.string v35), .v (.string v36), .v (.string v37), .v (.string v38), .v (.int .u64 v39), .v (.int .u32 v40), .j v41, .j v42, .j v43, .j v44, .os 1 l31.length, .os 3 l32.length, .os 5 l70.length, .os 4 l33.length] false, .arr 3 l31 l31.length false, .arr 3 l47 l47.length false, .arr 3 l32 l32.length false, .arr 33 l33 l33.length false, .arr 3 l70 l70.length false]] (pc (of_decide_eq_true h49)<|pc (ob9 h51)<|pc (k_palingref11_word_own h53)<|pn)
  · cases h

def b0_k_palingref11_Read_L3 : AObj DD := .box 37 [.z, .z, .e, .e, .e, .e, .e, .v (.int .u64 0), .v (.int .u32 0), .z, .z, .z, .z, .os 1 0, .os 2 0, .os 3 0, .os 4 0] false
theorem k_palingref11_Read_L3 {a1 : List ByteArray} {a2 : Int} {v24 : ByteArray} {r29 : Int} : LoopOK Tryz.prog UU 0 97 (subC (codeOf Tryz.f214) [1, 1, 1, 1, 1, 0, 1, 0, 0]) (fun s : (List Int) × (List Int) × (List Int) × ByteArray × ByteArray × ByteArray × ByteArray × ByteArray × Int × Int × Int × Int × Int × Int × Int × Int × (List Int) => match s with | (l31, l32, l33, v34, v35, v36, v37, v38, v39, v40, v41, v42, v43, v44, v45, v46, l47) => palingref11_Read_L3 a1 a2 v24 r29 l31 l32 l33 v34 v35 v36 v37 v38 v39 v40 v41 v42 v43 v44 v45 v46 l47)
    (fun s : (List Int) × (List Int) × (List Int) × ByteArray × ByteArray × ByteArray × ByteArray × ByteArray × Int × Int × Int × Int × Int × Int × Int × Int × (List Int) => (match s with | (l31, l32, l33, v34, v35, v36, v37, v38, v39, v40, v41, v42, v43, v44, v45, v46, l47) => [(0, .sl 9 a1), (4, .op 0 1 0 0), (5, .z), (6, .v (.string v24)), (7, .op 5 1 0 0), (8, .j v45), (9, .j v46)] : Fr DD)) (fun s : (List Int) × (List Int) × (List Int) × ByteArray × ByteArray × ByteArray × ByteArray × ByteArray × Int × Int × Int × Int × Int × Int × Int × Int × (List Int) => (match s with | (l31, l32, l33, v34, v35, v36, v37, v38, v39, v40, v41, v42, v43, v44, v45, v46, l47) => [b0_k_palingref11_Read_L3, .n 3, .n 3, .n 3, .n 33, .box 37 [.j a2, .j r29, .v (.string v34), .v (.string v35), .v (.string v36), .v (.string v37), .v (.string v38), .v (.int .u64 v39), .v (.int .u32 v40), .j v41, .j v42, .j v43, .j v44, .os 6 l31.length, .os 7 l47.length, .os 8 l32.length, .os 9 l33.length] false, .arr 3 l31 l31.length false, .arr 3 l47 l47.length false, .arr 3 l32 l32.length false, .arr 33 l33 l33.length false] : Heap DD)) (fun r => match r with | Sum.inl v215 => .ret | Sum.inr (l261, l262, l263, l264, v265, v266, v267, v268, v269, v270, v271, v272, v273, v274, v275) => .exit 0) (fun r => match r with | Sum.inl v215 => [(4, .op 0 1 0 0), (5, .j v215)] | Sum.inr (l261, l262, l263, l264, v265, v266, v267, v268, v269, v270, v271, v272, v273, v274, v275) => [(4, .op 0 1 0 0), (5, .z), (7, .op 5 1 0 0)]) (fun r => match r with | Sum.inl v215 => [b0_k_palingref11_Read_L3, .n 3, .n 3, .n 3, .n 33] | Sum.inr (l261, l262, l263, l264, v265, v266, v267, v268, v269, v270, v271, v272, v273, v274, v275) => [b0_k_palingref11_Read_L3, .n 3, .n 3, .n 3, .n 33, .box 37 [.j a2, .j r29, .v (.string v265), .v (.string v266), .v (.string v267), .v (.string v268), .v (.string v269), .v (.int .u64 v270), .v (.int .u32 v271), .j v272, .j v273, .j v274, .j v275, .os 6 l261.length, .os 7 l262.length, .os 8 l263.length, .os 9 l264.length] false, .arr 3 l261 l261.length false, .arr 3 l262 l262.length false, .arr 3 l263 l263.length false, .arr 33 l264 l264.length false]) := by
  refine loop_sound3 (fun s q h => ?_) (fun r => ?_)
  · obtain ⟨l31, l32, l33, v34, v35, v36, v37, v38, v39, v40, v41, v42, v43, v44, v45, v46, l47⟩ := s; replace h : palingref11_Read_L3 a1 a2 v24 r29 l31 l32 l33 v34 v35 v36 v37 v38 v39 v40 v41 v42 v43 v44 v45 v46 l47 = some q := h
    unfold palingref11_Read_L3 at h
    obtain ⟨h48, h⟩|⟨h48, h⟩ := ite_out h
    · obtain ⟨r210, h209, h⟩ := bo h
      obtain ⟨l193, l194, l195, l196, v197, v198, v199, v200, v201, v202, v203, v204, v205, v206, v207, v208⟩ := r210
      obtain ⟨h211, h⟩|⟨h211, h⟩ := ite_out h
      · injection h with h; subst h; exact rl [4, 5] [0, 10, 11, 12, 13] [.t, .skp, .cut [0, 4, 5, 6, 7, 8, 9] [0, 1, 2, 3, 4, 5, 6, 7, 8, 9] .nor [(0, .sl 9 a1), (4, .op 0 1 0 0), (5, .z), (6, .v (.string v24)), (7, .op 5 1 0 0), (8, .j v45), (9, .j v46), (10, .j v208)] [b0_k_palingref11_Read_L3, .n 3, .n 3, .n 3, .n 33, .box 37 [.j a2, .j r29, .v (.string v197), .v (.string v198), .v (.string v199), .v (.string v200), .v (.string v201), .v (.int .u64 v202), .v (.int .u32 v203), .j v204, .j v205, .j v206, .j v207, .os 6 l193.length, .os 7 l194.length, .os 8 l195.length, .os 9 l196.length] false, .arr 3 l193 l193.length false, .arr 3 l194 l194.length false, .arr 3 l195 l195.length false, .arr 33 l196 l196.length false], .t] (pc h48<|pc (k_palingref11_Read_J4 h209)<|pc h211<|pn)
      · obtain ⟨h212, h⟩|⟨h212, h⟩ := ite_out h
        · obtain ⟨h213, h⟩|⟨h213, h⟩ := ite_out h
          · injection h with h; subst h; exact rl [0, 4, 5, 6, 7, 8, 9] [0, 1, 2, 3, 4, 5, 6, 7, 8, 9] [.t, .skp, .cut [0, 4, 5, 6, 7, 8, 9] [0, 1, 2, 3, 4, 5, 6, 7, 8, 9] .nor [(0, .sl 9 a1), (4, .op 0 1 0 0), (5, .z), (6, .v (.string v24)), (7, .op 5 1 0 0), (8, .j v45), (9, .j v46), (10, .j v208)] [b0_k_palingref11_Read_L3, .n 3, .n 3, .n 3, .n 33, .box 37 [.j a2, .j r29, .v (.string v197), .v (.string v198), .v (.string v199), .v (.string v200), .v (.string v201), .v (.int .u64 v202), .v (.int .u32 v203), .j v204, .j v205, .j v206, .j v207, .os 6 l193.length, .os 7 l194.length, .os 8 l195.length, .os 9 l196.length] false, .arr 3 l193 l193.length false, .arr 3 l194 l194.length false, .arr 3 l195 l195.length false, .arr 33 l196 l196.length false], .f, .t] (pc h48<|pc (k_palingref11_Read_J4 h209)<|pc h211<|pc (of_decide_eq_true h212)<|pc h213<|pn)
          · injection h with h; subst h; exact rl [0, 4, 5, 6, 7, 8, 9] [0, 1, 2, 3, 4, 5, 6, 7, 8, 9] [.t, .skp, .cut [0, 4, 5, 6, 7, 8, 9] [0, 1, 2, 3, 4, 5, 6, 7, 8, 9] .nor [(0, .sl 9 a1), (4, .op 0 1 0 0), (5, .z), (6, .v (.string v24)), (7, .op 5 1 0 0), (8, .j v45), (9, .j v46), (10, .j v208)] [b0_k_palingref11_Read_L3, .n 3, .n 3, .n 3, .n 33, .box 37 [.j a2, .j r29, .v (.string v197), .v (.string v198), .v (.string v199), .v (.string v200), .v (.string v201), .v (.int .u64 v202), .v (.int .u32 v203), .j v204, .j v205, .j v206, .j v207, .os 6 l193.length, .os 7 l194.length, .os 8 l195.length, .os 9 l196.length] false, .arr 3 l193 l193.length false, .arr 3 l194 l194.length false, .arr 3 l195 l195.length false, .arr 33 l196 l196.length false], .f, .f] (pc h48<|pc (k_palingref11_Read_J4 h209)<|pc h211<|pc (of_decide_eq_true h212)<|pc h213<|pn)
        · cases h
    · injection h with h; subst h; exact rl [4, 5, 7] [0, 1, 2, 3, 4, 5, 6, 7, 8, 9] [.f] (pc h48<|pn)
  · rcases r with _ | _ <;> exact Ex.noConfusion

def b0_k_palingref11_Read : List (AObj DD) := [.box 37 [.z, .z, .e, .e, .e, .e, .e, .v (.int .u64 0), .v (.int .u32 0), .z, .z, .z, .z, .os 1 0, .os 2 0, .os 3 0, .os 4 0] false, .n 3, .n 3, .n 3, .n 33]
def b1_k_palingref11_Read : AObj DD := .box 37 [.z, .z, .e, .e, .e, .e, .e, .v (.int .u64 0), .v (.int .u32 0), .z, .z, .z, .z, .os 1 0, .os 2 0, .os 3 0, .os 4 0] false
theorem k_palingref11_Read {a1 : List ByteArray} {a2 : Int} {r : ((List Int) × (List Int) × (List Int) × (List Int) × Int × Int × ByteArray × ByteArray × ByteArray × ByteArray × ByteArray × Int × Int × Int × Int × Int × Int × Int)} (h : palingref11_Read a1 a2 = some r) :
    CallsOK Tryz.prog UU 214 [.sl 9 a1, .j a2] [] ((fun r => match r with | (l282, l283, l284, l285, v286, v287, v288, v289, v290, v291, v292, v293, v294, v295, v296, v297, v298, v299) => .tup [.agg [.j v286, .j v287, .v (.string v288), .v (.string v289), .v (.string v290), .v (.string v291), .v (.string v292), .v (.int .u64 v293), .v (.int .u32 v294), .j v295, .j v296, .j v297, .j v298, .os 0 l282.length, .os 1 l283.length, .os 2 l284.length, .os 3 l285.length], .j v299]) r) ((fun r => match r with | (l282, l283, l284, l285, v286, v287, v288, v289, v290, v291, v292, v293, v294, v295, v296, v297, v298, v299) => [.arr 3 l282 l282.length false, .arr 3 l283 l283.length false, .arr 3 l284 l284.length false, .arr 33 l285 l285.length false]) r) := by
  unfold palingref11_Read at h
  obtain ⟨r3, h4, h⟩ := bo h
  obtain ⟨r26, h25, h⟩ := bo h
  rcases r26 with v24 | _
  · obtain ⟨x27, h28, h⟩ := bo h
    obtain ⟨r29, h30, h⟩ := bo h
    obtain ⟨r277, h276, h⟩ := bo h
    rcases r277 with v215 | ⟨l261, l262, l263, l264, v265, v266, v267, v268, v269, v270, v271, v272, v273, v274, v275⟩
    · injection h with h; subst h; exact rf Tryz.func214 (some [1, 2, 3, 4]) [.callv (.v (.string r3)), .cut [0, 1, 4, 5, 6] [4, 0, 1, 2, 3] .nor [(0, .sl 9 a1), (1, .j a2), (4, .op 0 1 0 0), (5, .z), (6, .v (.string v24))] b0_k_palingref11_Read, .row (c9 x27), .callv (.j r29), .sum [0, 4, 5, 6, 7, 8, 9] [0, 1, 2, 3, 4, 9, 10, 11, 12, 13] .ret [(4, .op 0 1 0 0), (5, .j v215)] b0_k_palingref11_Read] (pc (k_palingref11_form h4)<|pc (k_palingref11_Read_J1 h25)<|pc (ob9 h28)<|pc (k_palingref11_kind h30)<|pc (k_palingref11_Read_L3 _ _ h276)<|pn)
    · obtain ⟨h278, h⟩|⟨h278, h⟩ := ite_out h
      · obtain ⟨r279, h280, h⟩ := bo h
        obtain ⟨h281, h⟩|⟨h281, h⟩ := ite_out h
        · injection h with h; subst h; exact rf Tryz.func214 (some [10, 11, 12, 13]) [.callv (.v (.string r3)), .cut [0, 1, 4, 5, 6] [4, 0, 1, 2, 3] .nor [(0, .sl 9 a1), (1, .j a2), (4, .op 0 1 0 0), (5, .z), (6, .v (.string v24))] b0_k_palingref11_Read, .row (c9 x27), .callv (.j r29), .sum [0, 4, 5, 6, 7, 8, 9] [0, 1, 2, 3, 4, 9, 10, 11, 12, 13] (.exit 0) [(4, .op 0 1 0 0), (5, .z), (7, .op 5 1 0 0)] [b1_k_palingref11_Read, .n 3, .n 3, .n 3, .n 33, .box 37 [.j a2, .j r29, .v (.string v265), .v (.string v266), .v (.string v267), .v (.string v268), .v (.string v269), .v (.int .u64 v270), .v (.int .u32 v271), .j v272, .j v273, .j v274, .j v275, .os 6 l261.length, .os 7 l262.length, .os 8 l263.length, .os 9 l264.length] false, .arr 3 l261 l261.length false, .arr 3 l262 l262.length false, .arr 3 l263 l263.length false, .arr 33 l264 l264.length false], .t, .b r279, .t] (pc (k_palingref11_form h4)<|pc (k_palingref11_Read_J1 h25)<|pc (ob9 h28)<|pc (k_palingref11_kind h30)<|pc (k_palingref11_Read_L3 _ _ h276)<|pc h278<|pc (k_palingref11_members h280)<|pc (rn l261.length)<|pc (rn l262.length)<|pc (rn l263.length)<|pc (rn l264.length)<|pc h281<|pn)
        · injection h with h; subst h; exact rf Tryz.func214 (some [6, 7, 8, 9]) [.callv (.v (.string r3)), .cut [0, 1, 4, 5, 6] [4, 0, 1, 2, 3] .nor [(0, .sl 9 a1), (1, .j a2), (4, .op 0 1 0 0), (5, .z), (6, .v (.string v24))] b0_k_palingref11_Read, .row (c9 x27), .callv (.j r29), .sum [0, 4, 5, 6, 7, 8, 9] [0, 1, 2, 3, 4, 9, 10, 11, 12, 13] (.exit 0) [(4, .op 0 1 0 0), (5, .z), (7, .op 5 1 0 0)] [b1_k_palingref11_Read, .n 3, .n 3, .n 3, .n 33, .box 37 [.j a2, .j r29, .v (.string v265), .v (.string v266), .v (.string v267), .v (.string v268), .v (.string v269), .v (.int .u64 v270), .v (.int .u32 v271), .j v272, .j v273, .j v274, .j v275, .os 6 l261.length, .os 7 l262.length, .os 8 l263.length, .os 9 l264.length] false, .arr 3 l261 l261.length false, .arr 3 l262 l262.length false, .arr 3 l263 l263.length false, .arr 33 l264 l264.length false], .t, .b r279, .f] (pc (k_palingref11_form h4)<|pc (k_palingref11_Read_J1 h25)<|pc (ob9 h28)<|pc (k_palingref11_kind h30)<|pc (k_palingref11_Read_L3 _ _ h276)<|pc h278<|pc (k_palingref11_members h280)<|pc (rn l261.length)<|pc (rn l262.length)<|pc (rn l263.length)<|pc (rn l264.length)<|pc h281<|pn)
      · injection h with h; subst h; exact rf Tryz.func214 (some [6, 7, 8, 9]) [.callv (.v (.string r3)), .cut [0, 1, 4, 5, 6] [4, 0, 1, 2, 3] .nor [(0, .sl 9 a1), (1, .j a2), (4, .op 0 1 0 0), (5, .z), (6, .v (.string v24))] b0_k_palingref11_Read, .row (c9 x27), .callv (.j r29), .sum [0, 4, 5, 6, 7, 8, 9] [0, 1, 2, 3, 4, 9, 10, 11, 12, 13] (.exit 0) [(4, .op 0 1 0 0), (5, .z), (7, .op 5 1 0 0)] [b1_k_palingref11_Read, .n 3, .n 3, .n 3, .n 33, .box 37 [.j a2, .j r29, .v (.string v265), .v (.string v266), .v (.string v267), .v (.string v268), .v (.string v269), .v (.int .u64 v270), .v (.int .u32 v271), .j v272, .j v273, .j v274, .j v275, .os 6 l261.length, .os 7 l262.length, .os 8 l263.length, .os 9 l264.length] false, .arr 3 l261 l261.length false, .arr 3 l262 l262.length false, .arr 3 l263 l263.length false, .arr 33 l264 l264.length false], .f] (pc (k_palingref11_form h4)<|pc (k_palingref11_Read_J1 h25)<|pc (ob9 h28)<|pc (k_palingref11_kind h30)<|pc (k_palingref11_Read_L3 _ _ h276)<|pc h278<|pn)
  · injection h with h; subst h; exact rf Tryz.func214 (some [1, 2, 3, 4]) [.callv (.v (.string r3)), .cut [0, 1, 4, 5, 6] [4, 0, 1, 2, 3] .ret [(4, .op 0 1 0 0), (5, .j 22)] b0_k_palingref11_Read] (pc (k_palingref11_form h4)<|pc (k_palingref11_Read_J1 h25)<|pn)

theorem k_palingref03_Ints_L1 {a1 : List Int} {a2 : List Int} : LoopOK Tryz.prog UU 0 26 (subC (codeOf Tryz.f21) [1, 1, 0, 1, 0, 0]) (ρ := Unit ⊕ Unit) (palingref03_Ints_L1 a1 a2)
    (fun v4 : Int => ([(0, .sl 3 a1), (1, .sl 3 a2), (4, .v (.bool false)), (5, .j v4)] : Fr DD)) (fun v4 : Int => ([] : Heap DD)) (fun r => match r with | Sum.inl _ => .ret | Sum.inr _ => .exit 0) (fun r => match r with | Sum.inl _ => [(4, .v (.bool false))] | Sum.inr _ => [(4, .v (.bool false))]) (fun r => match r with | Sum.inl _ => [] | Sum.inr _ => []) := by
  refine loop_sound3 (fun s q h => ?_) (fun r => ?_)
  · replace h : palingref03_Ints_L1 a1 a2 s = some q := h; revert h; revert s; intro v4 h
    unfold palingref03_Ints_L1 at h
    obtain ⟨h5, h⟩|⟨h5, h⟩ := ite_out h
    · obtain ⟨x6, h7, h⟩ := bo h
      obtain ⟨x8, h9, h⟩ := bo h
      obtain ⟨h10, h⟩|⟨h10, h⟩ := ite_out h
      · injection h with h; subst h; exact rl [4] [] [.t, .row (c3 x6), .row (c3 x8), .t] (pc h5<|pc (ob3 h7)<|pc (ob3 h9)<|pc h10<|pn)
      · injection h with h; subst h; exact rl [0, 1, 4, 5] [] [.t, .row (c3 x6), .row (c3 x8), .f] (pc h5<|pc (ob3 h7)<|pc (ob3 h9)<|pc h10<|pn)
    · injection h with h; subst h; exact rl [4] [] [.f] (pc h5<|pn)
  · rcases r with _ | _ <;> exact Ex.noConfusion

theorem k_palingref03_Ints {a1 : List Int} {a2 : List Int} {r : Bool} (h : palingref03_Ints a1 a2 = some r) :
    CallsOK Tryz.prog UU 21 [.sl 3 a1, .sl 3 a2] [] (.v (.bool r)) [] := by
  unfold palingref03_Ints at h
  obtain ⟨h3, h⟩|⟨h3, h⟩ := ite_out h
  · injection h with h; subst h; exact rf Tryz.func21 none [.t] (pc h3<|pn)
  · obtain ⟨r12, h11, h⟩ := bo h
    rcases r12 with _ | _
    · injection h with h; subst h; exact rf Tryz.func21 none [.f, .sum [0, 1, 4, 5] [] .ret [(4, .v (.bool false))] []] (pc h3<|pc (k_palingref03_Ints_L1 _ _ h11)<|pn)
    · injection h with h; subst h; exact rf Tryz.func21 none [.f, .sum [0, 1, 4, 5] [] (.exit 0) [(4, .v (.bool false))] []] (pc h3<|pc (k_palingref03_Ints_L1 _ _ h11)<|pn)

end Go.Eng
