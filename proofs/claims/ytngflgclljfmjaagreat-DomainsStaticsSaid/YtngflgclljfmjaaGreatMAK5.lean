/- Part of the proof of DomainsStatics: printed mirrors of the functions, or their contracts. No conditions. -/
import Derived.Test.YtngflgclljfmjaaGreatMAK4
set_option linter.unusedVariables false
set_option maxRecDepth 100000
namespace Go.Eng
open Go Go.Proofs
theorem k_palinglaw18_works {r : Bool} (h : palinglaw18_works = some r) :
    CallsOK Tryz.prog UU 11 [] [] (.v (.bool r)) [] := by
  have hr : some true = some r := (by kernel_rfl : palinglaw18_works = some true).symm.trans h
  unfold palinglaw18_works at h
  obtain ⟨r1, h2, h⟩ := bo h
  obtain ⟨l3, l4, l5, l6, l7, l8, l9, l10, n11, n12, n13, n14, v15⟩ := r1
  obtain ⟨r16, h17, h⟩ := bo h
  obtain ⟨l18, l19, l20, l21, l22, l23, l24, l25, n26, n27, n28, n29, v30⟩ := r16
  obtain ⟨h31, h⟩|⟨h31, h⟩ := ite_out h
  · obtain ⟨r32, h33, h⟩ := bo h
    obtain ⟨h34, h⟩|⟨h34, h⟩ := ite_out h
    · obtain ⟨r35, h36, h⟩ := bo h
      obtain ⟨h37, h⟩|⟨h37, h⟩ := ite_out h
      · obtain ⟨r38, h39, h⟩ := bo h
        obtain ⟨h40, h⟩|⟨h40, h⟩ := ite_out h
        · obtain ⟨r41, h42, h⟩ := bo h
          obtain ⟨h43, h⟩|⟨h43, h⟩ := ite_out h
          · injection h with h; subst h; exact rf Tryz.func11 none [.obj [] (.arr 91 [(⟨0, 0, (⟨#[97]⟩ : ByteArray), 0, 0⟩ : Api_Device)] (List.length [(⟨0, 0, (⟨#[97]⟩ : ByteArray), 0, 0⟩ : Api_Device)]) false), .obj [] (.arr 56 [(⟨0, 0, 10, 0, (-1), (⟨#[112]⟩ : ByteArray), []⟩ : Api_Port)] (List.length [(⟨0, 0, 10, 0, (-1), (⟨#[112]⟩ : ByteArray), []⟩ : Api_Port)]) false), .obj [] (.arr 93 [(⟨0, 10, 0, (-1), 0, []⟩ : Api_Domain)] (List.length [(⟨0, 10, 0, (-1), 0, []⟩ : Api_Domain)]) false), .frz [0, 1, 12, 2, 13, 14, 15, 16], .callm [] (.tup [.agg [.os 0 l3.length, .os 1 n11, .os 2 l5.length, .os 3 n12, .os 4 l7.length, .os 5 n13, .os 6 n14, .os 7 l10.length], .j v15]) [.arr 91 l3 l3.length false, .arr 56 l4 n11 false, .arr 112 l5 l5.length false, .arr 93 l6 n12 false, .arr 97 l7 l7.length false, .arr 100 l8 n13 false, .arr 103 l9 n14 false, .arr 118 l10 l10.length false], .frz [17, 18, 19, 20, 21, 22, 23, 24], .callm [] (.tup [.agg [.os 0 l18.length, .os 1 n26, .os 2 l20.length, .os 3 n27, .os 4 l22.length, .os 5 n28, .os 6 n29, .os 7 l25.length], .j v30]) [.arr 91 l18 l18.length false, .arr 56 l19 n26 false, .arr 112 l20 l20.length false, .arr 93 l21 n27 false, .arr 97 l22 l22.length false, .arr 100 l23 n28 false, .arr 103 l24 n29 false, .arr 118 l25 l25.length false], .t, .callv (.j r32), .t, .callv (.j r35), .t, .callv (.v (.string r38)), .t, .callf [0, 1, 12, 2, 13, 14, 15, 16] (.sl 3 r41), .t] (pc (bs_ob 91 [(⟨0, 0, (⟨#[97]⟩ : ByteArray), 0, 0⟩ : Api_Device)])<|pc (bs_ob 56 [(⟨0, 0, 10, 0, (-1), (⟨#[112]⟩ : ByteArray), []⟩ : Api_Port)])<|pc (bs_ob 93 [(⟨0, 10, 0, (-1), 0, []⟩ : Api_Domain)])<|pc ((rn (List.length [(⟨0, 0, (⟨#[97]⟩ : ByteArray), 0, 0⟩ : Api_Device)])))<|pc ((rn (List.length [(⟨0, 0, 10, 0, (-1), (⟨#[112]⟩ : ByteArray), []⟩ : Api_Port)])))<|pc (rn 0)<|pc ((rn (List.length [(⟨0, 10, 0, (-1), 0, []⟩ : Api_Domain)])))<|pc (rn 0)<|pc (rn 0)<|pc (rn 0)<|pc (rn 0)<|pc (k_domains_Static h2)<|pc (rn l3.length)<|pc (rn n11)<|pc (rn l5.length)<|pc (rn n12)<|pc (rn l7.length)<|pc (rn n13)<|pc (rn n14)<|pc (rn l10.length)<|pc (k_domains_Static h17)<|pc h31<|pc (k_domains_Lookup h33)<|pc (rn l3.length)<|pc (rn n11)<|pc (rn l5.length)<|pc (rn n12)<|pc (rn l7.length)<|pc (rn n13)<|pc (rn n14)<|pc (rn l10.length)<|pc h34<|pc (k_domains_Lookup h36)<|pc ((rn (List.length [(⟨0, 0, (⟨#[97]⟩ : ByteArray), 0, 0⟩ : Api_Device)])))<|pc ((rn (List.length [(⟨0, 0, 10, 0, (-1), (⟨#[112]⟩ : ByteArray), []⟩ : Api_Port)])))<|pc (rn 0)<|pc ((rn (List.length [(⟨0, 10, 0, (-1), 0, []⟩ : Api_Domain)])))<|pc (rn 0)<|pc (rn 0)<|pc (rn 0)<|pc (rn 0)<|pc h37<|pc (k_domains_Text h39)<|pc ((rn (List.length [(⟨0, 0, (⟨#[97]⟩ : ByteArray), 0, 0⟩ : Api_Device)])))<|pc ((rn (List.length [(⟨0, 0, 10, 0, (-1), (⟨#[112]⟩ : ByteArray), []⟩ : Api_Port)])))<|pc (rn 0)<|pc ((rn (List.length [(⟨0, 10, 0, (-1), 0, []⟩ : Api_Domain)])))<|pc (rn 0)<|pc (rn 0)<|pc (rn 0)<|pc (rn 0)<|pc h40<|pc (k_domains_Hosts h42)<|pc ((rn (List.length [(⟨0, 0, (⟨#[97]⟩ : ByteArray), 0, 0⟩ : Api_Device)])))<|pc ((rn (List.length [(⟨0, 0, 10, 0, (-1), (⟨#[112]⟩ : ByteArray), []⟩ : Api_Port)])))<|pc (rn 0)<|pc ((rn (List.length [(⟨0, 10, 0, (-1), 0, []⟩ : Api_Domain)])))<|pc (rn 0)<|pc (rn 0)<|pc (rn 0)<|pc (rn 0)<|pc h43<|pn)
          · exact absurd (hr.trans h.symm) (by decide)
        · exact absurd (hr.trans h.symm) (by decide)
      · exact absurd (hr.trans h.symm) (by decide)
    · exact absurd (hr.trans h.symm) (by decide)
  · exact absurd (hr.trans h.symm) (by decide)

theorem k_palingref03_digits_L1 : LoopOK Tryz.prog UU 0 23 (subC (codeOf Tryz.f160) [1, 1, 0, 0, 0]) (fun s : Int × ByteArray => match s with | (v2, v3) => palingref03_digits_L1 v2 v3)
    (fun s : Int × ByteArray => (match s with | (v2, v3) => [(0, .v (.int .u64 v2)), (2, .e), (3, .v (.string v3))] : Fr DD)) (fun s : Int × ByteArray => (match s with | (v2, v3) => [] : Heap DD)) (fun r => match r with | (v8, v9) => .exit 0) (fun r => match r with | (v8, v9) => [(0, .v (.int .u64 v8)), (2, .e), (3, .v (.string v9))]) (fun r => match r with | (v8, v9) => []) := by
  refine loop_sound3 (fun s q h => ?_) (fun r => ?_)
  · obtain ⟨v2, v3⟩ := s; replace h : palingref03_digits_L1 v2 v3 = some q := h
    unfold palingref03_digits_L1 at h
    obtain ⟨h4, h⟩|⟨h4, h⟩ := ite_out h
    · obtain ⟨h5, h⟩|⟨h5, h⟩ := ite_out h
      · injection h with h; subst h; exact rl [0, 2, 3] [] [.t, .obj [] (.arr 5 [(wr_u8 (wr_u64 (48 + (Int.tmod v2 10))) : Int)] (List.length [(wr_u8 (wr_u64 (48 + (Int.tmod v2 10))) : Int)]) false), .callv (.v (.string (bstr [(wr_u8 (wr_u64 (48 + (Int.tmod v2 10))) : Int)])))] (pc h4<|pc ((show (10 : Int) ≠ 0 from by decide))<|pc (bs_ob 5 [(wr_u8 (wr_u64 (48 + (Int.tmod v2 10))) : Int)])<|pc (cvb5 [(wr_u8 (wr_u64 (48 + (Int.tmod v2 10))) : Int)])<|pc ((rn (List.length [(wr_u8 (wr_u64 (48 + (Int.tmod v2 10))) : Int)])))<|pc (of_decide_eq_true h5)<|pc ((show (10 : Int) ≠ 0 from by decide))<|pn)
      · cases h
    · injection h with h; subst h; exact rl [0, 2, 3] [] [.f] (pc h4<|pn)
  · exact Ex.noConfusion

theorem k_palingref03_digits {a1 : Int} {r : ByteArray} (h : palingref03_digits a1 = some r) :
    CallsOK Tryz.prog UU 160 [.v (.int .u64 a1)] [] (.v (.string r)) [] := by
  unfold palingref03_digits at h
  obtain ⟨r11, h10, h⟩ := bo h
  obtain ⟨v8, v9⟩ := r11
  obtain ⟨h12, h⟩|⟨h12, h⟩ := ite_out h
  · injection h with h; subst h; exact rf Tryz.func160 none [.sum [0, 2, 3] [] (.exit 0) [(0, .v (.int .u64 v8)), (2, .e), (3, .v (.string v9))] [], .obj [] (.arr 5 [(wr_u8 (wr_u64 (48 + v8)) : Int)] (List.length [(wr_u8 (wr_u64 (48 + v8)) : Int)]) false), .callv (.v (.string (bstr [(wr_u8 (wr_u64 (48 + v8)) : Int)])))] (pc (k_palingref03_digits_L1 _ _ h10)<|pc (bs_ob 5 [(wr_u8 (wr_u64 (48 + v8)) : Int)])<|pc (cvb5 [(wr_u8 (wr_u64 (48 + v8)) : Int)])<|pc ((rn (List.length [(wr_u8 (wr_u64 (48 + v8)) : Int)])))<|pc (of_decide_eq_true h12)<|pn)
  · cases h

theorem k_palingref03_Text {a1 : Int} {r : ByteArray} (h : palingref03_Text a1 = some r) :
    CallsOK Tryz.prog UU 68 [.j a1] [] (.v (.string r)) [] := by
  unfold palingref03_Text at h
  obtain ⟨h2, h⟩|⟨h2, h⟩ := ite_out h
  · obtain ⟨r3, h4, h⟩ := bo h
    obtain ⟨h5, h⟩|⟨h5, h⟩ := ite_out h
    · injection h with h; subst h; exact rf Tryz.func68 none [.t, .callv (.v (.string r3))] (pc h2<|pc (k_palingref03_digits h4)<|pc (of_decide_eq_true h5)<|pn)
    · cases h
  · obtain ⟨r6, h7, h⟩ := bo h
    injection h with h; subst h; exact rf Tryz.func68 none [.f, .callv (.v (.string r6))] (pc h2<|pc (k_palingref03_digits h7)<|pn)

theorem k_palingref01_Bytes_L2 {a1 : Int} {l2 : List Int} {v3 : Int} : LoopOK Tryz.prog UU 0 26 (subC (codeOf Tryz.f248) [1, 1, 0, 1, 0, 0, 1, 0, 0, 1, 0, 1, 0, 0]) (fun s : Int × Int => match s with | (v5, v6) => palingref01_Bytes_L2 a1 l2 v3 v5 v6)
    (fun s : Int × Int => (match s with | (v5, v6) => [(0, .v (.int .u64 a1)), (2, .os 0 0), (3, .os 1 l2.length), (4, .j v3), (5, .v (.int .u64 v5)), (6, .j v6)] : Fr DD)) (fun s : Int × Int => (match s with | (v5, v6) => [.n 5, .arr 5 l2 l2.length false] : Heap DD)) (fun r => match r with | v9 => .exit 2) (fun r => match r with | v9 => [(0, .v (.int .u64 a1)), (2, .os 0 0), (3, .os 1 l2.length), (4, .j v3), (5, .v (.int .u64 v9))]) (fun r => match r with | v9 => [.n 5, .arr 5 l2 l2.length false]) := by
  refine loop_sound3 (fun s q h => ?_) (fun r => ?_)
  · obtain ⟨v5, v6⟩ := s; replace h : palingref01_Bytes_L2 a1 l2 v3 v5 v6 = some q := h
    unfold palingref01_Bytes_L2 at h
    obtain ⟨h7, h⟩|⟨h7, h⟩ := ite_out h
    · injection h with h; subst h; exact rl [0, 2, 3, 4, 5, 6] [0, 1] [.t] (pc h7<|pc ((show (256 : Int) ≠ 0 from by decide))<|pn)
    · injection h with h; subst h; exact rl [0, 2, 3, 4, 5] [0, 1] [.f] (pc h7<|pn)
  · exact Ex.noConfusion

theorem k_palingref01_Bytes_L1 {a1 : Int} : LoopOK Tryz.prog UU 0 26 (subC (codeOf Tryz.f248) [1, 1, 0, 1, 0, 0]) (fun s : (List Int) × Int => match s with | (l2, v3) => palingref01_Bytes_L1 a1 l2 v3)
    (fun s : (List Int) × Int => (match s with | (l2, v3) => [(0, .v (.int .u64 a1)), (2, .os 0 0), (3, .os 1 l2.length), (4, .j v3)] : Fr DD)) (fun s : (List Int) × Int => (match s with | (l2, v3) => [.n 5, .arr 5 l2 l2.length false] : Heap DD)) (fun r => match r with | l15 => .exit 0) (fun r => match r with | l15 => [(2, .os 0 0), (3, .os 1 l15.length)]) (fun r => match r with | l15 => [.n 5, .arr 5 l15 l15.length false]) := by
  refine loop_sound3 (fun s q h => ?_) (fun r => ?_)
  · obtain ⟨l2, v3⟩ := s; replace h : palingref01_Bytes_L1 a1 l2 v3 = some q := h
    unfold palingref01_Bytes_L1 at h
    obtain ⟨h4, h⟩|⟨h4, h⟩ := ite_out h
    · obtain ⟨v9, h10, h⟩ := bo h
      obtain ⟨h12, h⟩|⟨h12, h⟩ := ite_out h
      · injection h with h; subst h; exact rl [0, 2, 3, 4] [0, 1] [.t, .sum [0, 2, 3, 4, 5, 6] [0, 1] (.exit 2) [(0, .v (.int .u64 a1)), (2, .os 0 0), (3, .os 1 l2.length), (4, .j v3), (5, .v (.int .u64 v9))] [.n 5, .arr 5 l2 l2.length false], .obj [] (.arr 5 [(wr_u8 (Int.tmod v9 256) : Int)] (List.length [(wr_u8 (Int.tmod v9 256) : Int)]) false), .obj [] (.arr 5 (l2 ++ [(wr_u8 (Int.tmod v9 256) : Int)]) (List.length (l2 ++ [(wr_u8 (Int.tmod v9 256) : Int)])) false)] (pc h4<|pc (k_palingref01_Bytes_L2 _ _ h10)<|pc ((show (256 : Int) ≠ 0 from by decide))<|pc (bs_ob 5 [(wr_u8 (Int.tmod v9 256) : Int)])<|pc (app_ob 5 (n := l2.length) (l := l2) (xs := [(wr_u8 (Int.tmod v9 256) : Int)]) h12)<|pc ((rn (List.length [(wr_u8 (Int.tmod v9 256) : Int)])))<|pn)
      · cases h
    · injection h with h; subst h; exact rl [2, 3] [0, 1] [.f] (pc h4<|pn)
  · exact Ex.noConfusion

theorem k_palingref01_Bytes {a1 : Int} {r : ((List Int))} (h : palingref01_Bytes a1 = some r) :
    CallsOK Tryz.prog UU 248 [.v (.int .u64 a1)] [] ((fun r => match r with | l18 => .os 0 l18.length) r) ((fun r => match r with | l18 => [.arr 5 l18 l18.length false]) r) := by
  unfold palingref01_Bytes at h
  obtain ⟨l15, h16, h⟩ := bo h
  injection h with h; subst h; exact rf Tryz.func248 (some [1]) [.sum [0, 2, 3, 4] [0, 1] (.exit 0) [(2, .os 0 0), (3, .os 1 l15.length)] [.n 5, .arr 5 l15 l15.length false]] (pc (k_palingref01_Bytes_L1 _ _ h16)<|pn)

theorem k_palingref01_Text_J2 {l4 : List Int} {v5 : ByteArray} {v6 : Int} {r : ByteArray} (h : palingref01_Text_J2 l4 v5 v6 = some r) :
    ExecOK Tryz.prog UU 0 47 (subC (codeOf Tryz.f260) [1, 1, 1, 1, 0, 1, 0, 0, 1, 0, 0, 0]) [(2, .e), (3, .v (.string (⟨#[48, 49, 50, 51, 52, 53, 54, 55, 56, 57, 97, 98, 99, 100, 101, 102]⟩ : ByteArray))), (4, .os 0 l4.length), (5, .v (.string v5)), (6, .j v6)] [.arr 5 l4 l4.length false] ((fun r => match r with | v11 => .nor) r) ((fun r => match r with | v11 => [(2, .e), (3, .v (.string (⟨#[48, 49, 50, 51, 52, 53, 54, 55, 56, 57, 97, 98, 99, 100, 101, 102]⟩ : ByteArray))), (4, .os 0 l4.length), (5, .v (.string v11)), (6, .j v6)]) r) ((fun r => match r with | v11 => [.arr 5 l4 l4.length false]) r) := by
  unfold palingref01_Text_J2 at h
  obtain ⟨h8, h⟩|⟨h8, h⟩ := ite_out h
  · obtain ⟨h9, h⟩|⟨h9, h⟩ := ite_out h
    · injection h with h; subst h; exact rl [2, 3, 4, 5, 6] [0] [.t] (pc h8<|pc (of_decide_eq_true h9)<|pn)
    · cases h
  · injection h with h; subst h; exact rl [2, 3, 4, 5, 6] [0] [.f] (pc h8<|pn)

theorem k_palingref01_Text_L1 {l4 : List Int} : LoopOK Tryz.prog UU 0 47 (subC (codeOf Tryz.f260) [1, 1, 1, 1, 0, 1, 0, 0]) (fun s : ByteArray × Int => match s with | (v5, v6) => palingref01_Text_L1 l4 v5 v6)
    (fun s : ByteArray × Int => (match s with | (v5, v6) => [(2, .e), (3, .v (.string (⟨#[48, 49, 50, 51, 52, 53, 54, 55, 56, 57, 97, 98, 99, 100, 101, 102]⟩ : ByteArray))), (4, .os 0 l4.length), (5, .v (.string v5)), (6, .j v6)] : Fr DD)) (fun s : ByteArray × Int => (match s with | (v5, v6) => [.arr 5 l4 l4.length false] : Heap DD)) (fun r => match r with | v28 => .exit 0) (fun r => match r with | v28 => [(2, .e), (5, .v (.string v28))]) (fun r => match r with | v28 => []) := by
  refine loop_sound3 (fun s q h => ?_) (fun r => ?_)
  · obtain ⟨v5, v6⟩ := s; replace h : palingref01_Text_L1 l4 v5 v6 = some q := h
    unfold palingref01_Text_L1 at h
    obtain ⟨h7, h⟩|⟨h7, h⟩ := ite_out h
    · obtain ⟨v11, h12, h⟩ := bo h
      obtain ⟨h14, h⟩|⟨h14, h⟩ := ite_out h
      · obtain ⟨x15, h16, h⟩ := bo h
        obtain ⟨x17, h18, h⟩ := bo h
        obtain ⟨h19, h⟩|⟨h19, h⟩ := ite_out h
        · obtain ⟨h20, h⟩|⟨h20, h⟩ := ite_out h
          · obtain ⟨x21, h22, h⟩ := bo h
            obtain ⟨x23, h24, h⟩ := bo h
            obtain ⟨h25, h⟩|⟨h25, h⟩ := ite_out h
            · obtain ⟨h26, h⟩|⟨h26, h⟩ := ite_out h
              · injection h with h; subst h; exact rl [2, 3, 4, 5, 6] [0] [.t, .skp, .cut [2, 3, 4, 5, 6] [0] .nor [(2, .e), (3, .v (.string (⟨#[48, 49, 50, 51, 52, 53, 54, 55, 56, 57, 97, 98, 99, 100, 101, 102]⟩ : ByteArray))), (4, .os 0 l4.length), (5, .v (.string v11)), (6, .j v6)] [.arr 5 l4 l4.length false], .row (c5 x15), .row (c5 x17), .row (c5 x21), .row (c5 x23)] (pc h7<|pc (k_palingref01_Text_J2 h12)<|pc (an l4.length (lin_ob h14))<|pc (an l4.length (obn5 h16))<|pc ((show (16 : Int) ≠ 0 from by decide))<|pc (an l4.length (lin_ob h14))<|pc (an l4.length (obn5 h18))<|pc ((show (16 : Int) ≠ 0 from by decide))<|pc (sl_ob h19)<|pc (of_decide_eq_true h20)<|pc (an l4.length (lin_ob h14))<|pc (an l4.length (obn5 h22))<|pc ((show (16 : Int) ≠ 0 from by decide))<|pc (an l4.length (lin_ob h14))<|pc (an l4.length (obn5 h24))<|pc ((show (16 : Int) ≠ 0 from by decide))<|pc (sl_ob h25)<|pc (of_decide_eq_true h26)<|pn)
              · cases h
            · cases h
          · cases h
        · cases h
      · cases h
    · injection h with h; subst h; exact rl [2, 5] [] [.f] (pc h7<|pn)
  · exact Ex.noConfusion

theorem k_palingref01_Text {a1 : Int} {r : ByteArray} (h : palingref01_Text a1 = some r) :
    CallsOK Tryz.prog UU 260 [.v (.int .u64 a1)] [] (.v (.string r)) [] := by
  unfold palingref01_Text at h
  obtain ⟨l4, h3, h⟩ := bo h
  obtain ⟨v28, h29, h⟩ := bo h
  injection h with h; subst h; exact rf Tryz.func260 none [.callo (.os 0 l4.length) [.arr 5 l4 l4.length false], .sum [2, 3, 4, 5, 6] [0] (.exit 0) [(2, .e), (5, .v (.string v28))] []] (pc (k_palingref01_Bytes h3)<|pc (im5 l4)<|pc (k_palingref01_Text_L1 _ _ h29)<|pn)

theorem k_palingref03_ListText_L1 {a1 : List Int} : LoopOK Tryz.prog UU 0 23 (subC (codeOf Tryz.f286) [1, 1, 0, 1, 0, 0]) (fun s : ByteArray × Int => match s with | (v2, v3) => palingref03_ListText_L1 a1 v2 v3)
    (fun s : ByteArray × Int => (match s with | (v2, v3) => [(0, .sl 3 a1), (2, .e), (3, .v (.string v2)), (4, .j v3)] : Fr DD)) (fun s : ByteArray × Int => (match s with | (v2, v3) => [] : Heap DD)) (fun r => match r with | v18 => .exit 0) (fun r => match r with | v18 => [(2, .e), (3, .v (.string v18))]) (fun r => match r with | v18 => []) := by
  refine loop_sound3 (fun s q h => ?_) (fun r => ?_)
  · obtain ⟨v2, v3⟩ := s; replace h : palingref03_ListText_L1 a1 v2 v3 = some q := h
    unfold palingref03_ListText_L1 at h
    obtain ⟨h4, h⟩|⟨h4, h⟩ := ite_out h
    · obtain ⟨h5, h⟩|⟨h5, h⟩ := ite_out h
      · obtain ⟨h6, h⟩|⟨h6, h⟩ := ite_out h
        · obtain ⟨x7, h8, h⟩ := bo h
          obtain ⟨r9, h10, h⟩ := bo h
          obtain ⟨h11, h⟩|⟨h11, h⟩ := ite_out h
          · injection h with h; subst h; exact rl [0, 2, 3, 4] [] [.t, .t, .row (c3 x7), .callv (.v (.string r9))] (pc h4<|pc h5<|pc (of_decide_eq_true h6)<|pc (ob3 h8)<|pc (k_palingref03_Text h10)<|pc (of_decide_eq_true h11)<|pn)
          · cases h
        · cases h
      · obtain ⟨x12, h13, h⟩ := bo h
        obtain ⟨r14, h15, h⟩ := bo h
        obtain ⟨h16, h⟩|⟨h16, h⟩ := ite_out h
        · injection h with h; subst h; exact rl [0, 2, 3, 4] [] [.t, .f, .row (c3 x12), .callv (.v (.string r14))] (pc h4<|pc h5<|pc (ob3 h13)<|pc (k_palingref03_Text h15)<|pc (of_decide_eq_true h16)<|pn)
        · cases h
    · injection h with h; subst h; exact rl [2, 3] [] [.f] (pc h4<|pn)
  · exact Ex.noConfusion

theorem k_palingref03_ListText {a1 : List Int} {r : ByteArray} (h : palingref03_ListText a1 = some r) :
    CallsOK Tryz.prog UU 286 [.sl 3 a1] [] (.v (.string r)) [] := by
  unfold palingref03_ListText at h
  obtain ⟨v18, h19, h⟩ := bo h
  injection h with h; subst h; exact rf Tryz.func286 none [.sum [0, 2, 3, 4] [] (.exit 0) [(2, .e), (3, .v (.string v18))] []] (pc (k_palingref03_ListText_L1 _ _ h19)<|pn)

theorem k_palingref11_spell {a1 : List Int} {r : ByteArray} (h : palingref11_spell a1 = some r) :
    CallsOK Tryz.prog UU 261 [.sl 3 a1] [] (.v (.string r)) [] := by
  unfold palingref11_spell at h
  obtain ⟨h2, h⟩|⟨h2, h⟩ := ite_out h
  · injection h with h; subst h; exact rf Tryz.func261 none [.t] (pc h2<|pn)
  · obtain ⟨r3, h4, h⟩ := bo h
    injection h with h; subst h; exact rf Tryz.func261 none [.f, .callv (.v (.string r3))] (pc h2<|pc (k_palingref03_ListText h4)<|pn)

theorem k_palingref02_number_L1 : LoopOK Tryz.prog UU 0 23 (subC (codeOf Tryz.f287) [1, 1, 0, 0, 0]) (fun s : Int × ByteArray => match s with | (v2, v3) => palingref02_number_L1 v2 v3)
    (fun s : Int × ByteArray => (match s with | (v2, v3) => [(0, .j v2), (2, .e), (3, .v (.string v3))] : Fr DD)) (fun s : Int × ByteArray => (match s with | (v2, v3) => [] : Heap DD)) (fun r => match r with | (v8, v9) => .exit 0) (fun r => match r with | (v8, v9) => [(0, .j v8), (2, .e), (3, .v (.string v9))]) (fun r => match r with | (v8, v9) => []) := by
  refine loop_sound3 (fun s q h => ?_) (fun r => ?_)
  · obtain ⟨v2, v3⟩ := s; replace h : palingref02_number_L1 v2 v3 = some q := h
    unfold palingref02_number_L1 at h
    obtain ⟨h4, h⟩|⟨h4, h⟩ := ite_out h
    · obtain ⟨h5, h⟩|⟨h5, h⟩ := ite_out h
      · injection h with h; subst h; exact rl [0, 2, 3] [] [.t, .obj [] (.arr 5 [(wr_u8 (wr_i64 (48 + (Int.tmod v2 10))) : Int)] (List.length [(wr_u8 (wr_i64 (48 + (Int.tmod v2 10))) : Int)]) false), .callv (.v (.string (bstr [(wr_u8 (wr_i64 (48 + (Int.tmod v2 10))) : Int)])))] (pc h4<|pc ((show (10 : Int) ≠ 0 from by decide))<|pc (bs_ob 5 [(wr_u8 (wr_i64 (48 + (Int.tmod v2 10))) : Int)])<|pc (cvb5 [(wr_u8 (wr_i64 (48 + (Int.tmod v2 10))) : Int)])<|pc ((rn (List.length [(wr_u8 (wr_i64 (48 + (Int.tmod v2 10))) : Int)])))<|pc (of_decide_eq_true h5)<|pc ((show (10 : Int) ≠ 0 from by decide))<|pn)
      · cases h
    · injection h with h; subst h; exact rl [0, 2, 3] [] [.f] (pc h4<|pn)
  · exact Ex.noConfusion

theorem k_palingref02_number {a1 : Int} {r : ByteArray} (h : palingref02_number a1 = some r) :
    CallsOK Tryz.prog UU 287 [.j a1] [] (.v (.string r)) [] := by
  unfold palingref02_number at h
  obtain ⟨r11, h10, h⟩ := bo h
  obtain ⟨v8, v9⟩ := r11
  obtain ⟨h12, h⟩|⟨h12, h⟩ := ite_out h
  · injection h with h; subst h; exact rf Tryz.func287 none [.sum [0, 2, 3] [] (.exit 0) [(0, .j v8), (2, .e), (3, .v (.string v9))] [], .obj [] (.arr 5 [(wr_u8 (wr_i64 (48 + v8)) : Int)] (List.length [(wr_u8 (wr_i64 (48 + v8)) : Int)]) false), .callv (.v (.string (bstr [(wr_u8 (wr_i64 (48 + v8)) : Int)])))] (pc (k_palingref02_number_L1 _ _ h10)<|pc (bs_ob 5 [(wr_u8 (wr_i64 (48 + v8)) : Int)])<|pc (cvb5 [(wr_u8 (wr_i64 (48 + v8)) : Int)])<|pc ((rn (List.length [(wr_u8 (wr_i64 (48 + v8)) : Int)])))<|pc (of_decide_eq_true h12)<|pn)
  · cases h

theorem k_palingref02_Text {a1 : Int} {r : ByteArray} (h : palingref02_Text a1 = some r) :
    CallsOK Tryz.prog UU 262 [.v (.int .u32 a1)] [] (.v (.string r)) [] := by
  unfold palingref02_Text at h
  obtain ⟨r2, h3, h⟩ := bo h
  obtain ⟨h4, h⟩|⟨h4, h⟩ := ite_out h
  · obtain ⟨r5, h6, h⟩ := bo h
    obtain ⟨h7, h⟩|⟨h7, h⟩ := ite_out h
    · obtain ⟨h8, h⟩|⟨h8, h⟩ := ite_out h
      · obtain ⟨r9, h10, h⟩ := bo h
        obtain ⟨h11, h⟩|⟨h11, h⟩ := ite_out h
        · obtain ⟨h12, h⟩|⟨h12, h⟩ := ite_out h
          · obtain ⟨r13, h14, h⟩ := bo h
            obtain ⟨h15, h⟩|⟨h15, h⟩ := ite_out h
            · injection h with h; subst h; exact rf Tryz.func262 none [.callv (.v (.string r2)), .callv (.v (.string r5)), .callv (.v (.string r9)), .callv (.v (.string r13))] (pc ((show (16777216 : Int) ≠ 0 from by decide))<|pc (k_palingref02_number h3)<|pc (of_decide_eq_true h4)<|pc ((show (65536 : Int) ≠ 0 from by decide))<|pc ((show (256 : Int) ≠ 0 from by decide))<|pc (k_palingref02_number h6)<|pc (of_decide_eq_true h7)<|pc (of_decide_eq_true h8)<|pc ((show (256 : Int) ≠ 0 from by decide))<|pc ((show (256 : Int) ≠ 0 from by decide))<|pc (k_palingref02_number h10)<|pc (of_decide_eq_true h11)<|pc (of_decide_eq_true h12)<|pc ((show (256 : Int) ≠ 0 from by decide))<|pc (k_palingref02_number h14)<|pc (of_decide_eq_true h15)<|pn)
            · cases h
          · cases h
        · cases h
      · cases h
    · cases h
  · cases h

theorem k_palingref03_AddrsText_L1 {a1 : List Int} : LoopOK Tryz.prog UU 0 23 (subC (codeOf Tryz.f263) [1, 1, 0, 1, 0, 0]) (fun s : ByteArray × Int => match s with | (v2, v3) => palingref03_AddrsText_L1 a1 v2 v3)
    (fun s : ByteArray × Int => (match s with | (v2, v3) => [(0, .sl 33 a1), (2, .e), (3, .v (.string v2)), (4, .j v3)] : Fr DD)) (fun s : ByteArray × Int => (match s with | (v2, v3) => [] : Heap DD)) (fun r => match r with | v18 => .exit 0) (fun r => match r with | v18 => [(2, .e), (3, .v (.string v18))]) (fun r => match r with | v18 => []) := by
  refine loop_sound3 (fun s q h => ?_) (fun r => ?_)
  · obtain ⟨v2, v3⟩ := s; replace h : palingref03_AddrsText_L1 a1 v2 v3 = some q := h
    unfold palingref03_AddrsText_L1 at h
    obtain ⟨h4, h⟩|⟨h4, h⟩ := ite_out h
    · obtain ⟨h5, h⟩|⟨h5, h⟩ := ite_out h
      · obtain ⟨h6, h⟩|⟨h6, h⟩ := ite_out h
        · obtain ⟨x7, h8, h⟩ := bo h
          obtain ⟨r9, h10, h⟩ := bo h
          obtain ⟨h11, h⟩|⟨h11, h⟩ := ite_out h
          · injection h with h; subst h; exact rl [0, 2, 3, 4] [] [.t, .t, .row (c33 x7), .callv (.v (.string r9))] (pc h4<|pc h5<|pc (of_decide_eq_true h6)<|pc (ob33 h8)<|pc (k_palingref02_Text h10)<|pc (of_decide_eq_true h11)<|pn)
          · cases h
        · cases h
      · obtain ⟨x12, h13, h⟩ := bo h
        obtain ⟨r14, h15, h⟩ := bo h
        obtain ⟨h16, h⟩|⟨h16, h⟩ := ite_out h
        · injection h with h; subst h; exact rl [0, 2, 3, 4] [] [.t, .f, .row (c33 x12), .callv (.v (.string r14))] (pc h4<|pc h5<|pc (ob33 h13)<|pc (k_palingref02_Text h15)<|pc (of_decide_eq_true h16)<|pn)
        · cases h
    · injection h with h; subst h; exact rl [2, 3] [] [.f] (pc h4<|pn)
  · exact Ex.noConfusion

theorem k_palingref03_AddrsText {a1 : List Int} {r : ByteArray} (h : palingref03_AddrsText a1 = some r) :
    CallsOK Tryz.prog UU 263 [.sl 33 a1] [] (.v (.string r)) [] := by
  unfold palingref03_AddrsText at h
  obtain ⟨v18, h19, h⟩ := bo h
  injection h with h; subst h; exact rf Tryz.func263 none [.sum [0, 2, 3, 4] [] (.exit 0) [(2, .e), (3, .v (.string v18))] []] (pc (k_palingref03_AddrsText_L1 _ _ h19)<|pn)

theorem k_palingref02_Right {a1 : Api_Prefix} {r : Bool} (h : palingref02_Right a1 = some r) :
    CallsOK Tryz.prog UU 272 [.agg (c116 a1)] [] (.v (.bool r)) [] := by
  unfold palingref02_Right at h
  obtain ⟨h2, h⟩|⟨h2, h⟩ := ite_out h
  · injection h with h; subst h; exact rf Tryz.func272 none [.t] (pc h2<|pn)
  · injection h with h; subst h; exact rf Tryz.func272 none [.f] (pc h2<|pn)

theorem k_palingref02_PrefixText {a1 : Api_Prefix} {r : ByteArray} (h : palingref02_PrefixText a1 = some r) :
    CallsOK Tryz.prog UU 264 [.agg (c116 a1)] [] (.v (.string r)) [] := by
  unfold palingref02_PrefixText at h
  obtain ⟨r2, h3, h⟩ := bo h
  obtain ⟨h4, h⟩|⟨h4, h⟩ := ite_out h
  · injection h with h; subst h; exact rf Tryz.func264 none [.b r2, .t] (pc (k_palingref02_Right h3)<|pc h4<|pn)
  · obtain ⟨r5, h6, h⟩ := bo h
    obtain ⟨h7, h⟩|⟨h7, h⟩ := ite_out h
    · obtain ⟨r8, h9, h⟩ := bo h
      obtain ⟨h10, h⟩|⟨h10, h⟩ := ite_out h
      · injection h with h; subst h; exact rf Tryz.func264 none [.b r2, .f, .callv (.v (.string r5)), .callv (.v (.string r8))] (pc (k_palingref02_Right h3)<|pc h4<|pc (k_palingref02_Text h6)<|pc (of_decide_eq_true h7)<|pc (k_palingref02_number h9)<|pc (of_decide_eq_true h10)<|pn)
      · cases h
    · cases h

theorem k_palingref11_Words {a1 : Api_Line} {r : ((List ByteArray))} (h : palingref11_Words a1 = some r) :
    CallsOK Tryz.prog UU 215 [.agg (c37 a1)] [] ((fun r => match r with | l35 => .os 0 l35.length) r) ((fun r => match r with | l35 => [.arr 9 l35 l35.length false]) r) := by
  unfold palingref11_Words at h
  obtain ⟨r2, h3, h⟩ := bo h
  obtain ⟨r4, h5, h⟩ := bo h
  obtain ⟨r6, h7, h⟩ := bo h
  obtain ⟨h8, h⟩|⟨h8, h⟩ := ite_out h
  · injection h with h; subst h; exact rf Tryz.func215 (some [2]) [.callv (.v (.string r2)), .callv (.v (.string r4)), .callv (.v (.string r6)), .t, .obj [] (.arr 9 [(⟨#[100, 101, 118, 105, 99, 101]⟩ : ByteArray), a1.dev, r4, r6] (List.length [(⟨#[100, 101, 118, 105, 99, 101]⟩ : ByteArray), a1.dev, r4, r6]) false)] (pc (k_palingref03_Text h3)<|pc (k_palingref03_Text h5)<|pc (k_palingref01_Text h7)<|pc h8<|pc (bs_ob 9 [(⟨#[100, 101, 118, 105, 99, 101]⟩ : ByteArray), a1.dev, r4, r6])<|pn)
  · obtain ⟨h9, h⟩|⟨h9, h⟩ := ite_out h
    · obtain ⟨r10, h11, h⟩ := bo h
      obtain ⟨h12, h⟩|⟨h12, h⟩ := ite_out h
      · injection h with h; subst h; exact rf Tryz.func215 (some [2]) [.callv (.v (.string r2)), .callv (.v (.string r4)), .callv (.v (.string r6)), .f, .t, .callv (.v (.string r10)), .t, .obj [] (.arr 9 [(⟨#[112, 111, 114, 116]⟩ : ByteArray), a1.dev, a1.port, r10, (⟨#[97, 99, 99, 101, 115, 115]⟩ : ByteArray), r2] (List.length [(⟨#[112, 111, 114, 116]⟩ : ByteArray), a1.dev, a1.port, r10, (⟨#[97, 99, 99, 101, 115, 115]⟩ : ByteArray), r2]) false)] (pc (k_palingref03_Text h3)<|pc (k_palingref03_Text h5)<|pc (k_palingref01_Text h7)<|pc h8<|pc h9<|pc (k_palingref03_Text h11)<|pc h12<|pc (bs_ob 9 [(⟨#[112, 111, 114, 116]⟩ : ByteArray), a1.dev, a1.port, r10, (⟨#[97, 99, 99, 101, 115, 115]⟩ : ByteArray), r2])<|pn)
      · obtain ⟨h13, h⟩|⟨h13, h⟩ := ite_out h
        · obtain ⟨r14, h15, h⟩ := bo h
          injection h with h; subst h; exact rf Tryz.func215 (some [2]) [.callv (.v (.string r2)), .callv (.v (.string r4)), .callv (.v (.string r6)), .f, .t, .callv (.v (.string r10)), .f, .t, .callv (.v (.string r14)), .obj [] (.arr 9 [(⟨#[112, 111, 114, 116]⟩ : ByteArray), a1.dev, a1.port, r10, (⟨#[116, 114, 117, 110, 107]⟩ : ByteArray), (⟨#[45]⟩ : ByteArray), r14] (List.length [(⟨#[112, 111, 114, 116]⟩ : ByteArray), a1.dev, a1.port, r10, (⟨#[116, 114, 117, 110, 107]⟩ : ByteArray), (⟨#[45]⟩ : ByteArray), r14]) false)] (pc (k_palingref03_Text h3)<|pc (k_palingref03_Text h5)<|pc (k_palingref01_Text h7)<|pc h8<|pc h9<|pc (k_palingref03_Text h11)<|pc h12<|pc h13<|pc (k_palingref11_spell h15)<|pc (bs_ob 9 [(⟨#[112, 111, 114, 116]⟩ : ByteArray), a1.dev, a1.port, r10, (⟨#[116, 114, 117, 110, 107]⟩ : ByteArray), (⟨#[45]⟩ : ByteArray), r14])<|pn)
        · obtain ⟨r16, h17, h⟩ := bo h
          injection h with h; subst h; exact rf Tryz.func215 (some [2]) [.callv (.v (.string r2)), .callv (.v (.string r4)), .callv (.v (.string r6)), .f, .t, .callv (.v (.string r10)), .f, .f, .callv (.v (.string r16)), .obj [] (.arr 9 [(⟨#[112, 111, 114, 116]⟩ : ByteArray), a1.dev, a1.port, r10, (⟨#[116, 114, 117, 110, 107]⟩ : ByteArray), r2, r16] (List.length [(⟨#[112, 111, 114, 116]⟩ : ByteArray), a1.dev, a1.port, r10, (⟨#[116, 114, 117, 110, 107]⟩ : ByteArray), r2, r16]) false)] (pc (k_palingref03_Text h3)<|pc (k_palingref03_Text h5)<|pc (k_palingref01_Text h7)<|pc h8<|pc h9<|pc (k_palingref03_Text h11)<|pc h12<|pc h13<|pc (k_palingref11_spell h17)<|pc (bs_ob 9 [(⟨#[112, 111, 114, 116]⟩ : ByteArray), a1.dev, a1.port, r10, (⟨#[116, 114, 117, 110, 107]⟩ : ByteArray), r2, r16])<|pn)
    · obtain ⟨h18, h⟩|⟨h18, h⟩ := ite_out h
      · injection h with h; subst h; exact rf Tryz.func215 (some [2]) [.callv (.v (.string r2)), .callv (.v (.string r4)), .callv (.v (.string r6)), .f, .f, .t, .obj [] (.arr 9 [(⟨#[108, 105, 110, 107]⟩ : ByteArray), a1.dev, a1.port, a1.peer, a1.far] (List.length [(⟨#[108, 105, 110, 107]⟩ : ByteArray), a1.dev, a1.port, a1.peer, a1.far]) false)] (pc (k_palingref03_Text h3)<|pc (k_palingref03_Text h5)<|pc (k_palingref01_Text h7)<|pc h8<|pc h9<|pc h18<|pc (bs_ob 9 [(⟨#[108, 105, 110, 107]⟩ : ByteArray), a1.dev, a1.port, a1.peer, a1.far])<|pn)
      · obtain ⟨h19, h⟩|⟨h19, h⟩ := ite_out h
        · injection h with h; subst h; exact rf Tryz.func215 (some [2]) [.callv (.v (.string r2)), .callv (.v (.string r4)), .callv (.v (.string r6)), .f, .f, .f, .t, .obj [] (.arr 9 [(⟨#[115, 116, 97, 116, 105, 99]⟩ : ByteArray), a1.dev, r2, r6, a1.port] (List.length [(⟨#[115, 116, 97, 116, 105, 99]⟩ : ByteArray), a1.dev, r2, r6, a1.port]) false)] (pc (k_palingref03_Text h3)<|pc (k_palingref03_Text h5)<|pc (k_palingref01_Text h7)<|pc h8<|pc h9<|pc h18<|pc h19<|pc (bs_ob 9 [(⟨#[115, 116, 97, 116, 105, 99]⟩ : ByteArray), a1.dev, r2, r6, a1.port])<|pn)
        · obtain ⟨h20, h⟩|⟨h20, h⟩ := ite_out h
          · obtain ⟨r21, h22, h⟩ := bo h
            injection h with h; subst h; exact rf Tryz.func215 (some [2]) [.callv (.v (.string r2)), .callv (.v (.string r4)), .callv (.v (.string r6)), .f, .f, .f, .f, .t, .callv (.v (.string r21)), .obj [] (.arr 9 [(⟨#[118, 116, 101, 112]⟩ : ByteArray), a1.dev, r21] (List.length [(⟨#[118, 116, 101, 112]⟩ : ByteArray), a1.dev, r21]) false)] (pc (k_palingref03_Text h3)<|pc (k_palingref03_Text h5)<|pc (k_palingref01_Text h7)<|pc h8<|pc h9<|pc h18<|pc h19<|pc h20<|pc (k_palingref02_Text h22)<|pc (bs_ob 9 [(⟨#[118, 116, 101, 112]⟩ : ByteArray), a1.dev, r21])<|pn)
          · obtain ⟨h23, h⟩|⟨h23, h⟩ := ite_out h
            · injection h with h; subst h; exact rf Tryz.func215 (some [2]) [.callv (.v (.string r2)), .callv (.v (.string r4)), .callv (.v (.string r6)), .f, .f, .f, .f, .f, .t, .obj [] (.arr 9 [(⟨#[118, 110, 105]⟩ : ByteArray), a1.dev, r2, r4] (List.length [(⟨#[118, 110, 105]⟩ : ByteArray), a1.dev, r2, r4]) false)] (pc (k_palingref03_Text h3)<|pc (k_palingref03_Text h5)<|pc (k_palingref01_Text h7)<|pc h8<|pc h9<|pc h18<|pc h19<|pc h20<|pc h23<|pc (bs_ob 9 [(⟨#[118, 110, 105]⟩ : ByteArray), a1.dev, r2, r4])<|pn)
            · obtain ⟨h24, h⟩|⟨h24, h⟩ := ite_out h
              · obtain ⟨r25, h26, h⟩ := bo h
                injection h with h; subst h; exact rf Tryz.func215 (some [2]) [.callv (.v (.string r2)), .callv (.v (.string r4)), .callv (.v (.string r6)), .f, .f, .f, .f, .f, .f, .t, .callv (.v (.string r25)), .obj [] (.arr 9 [(⟨#[102, 108, 111, 111, 100]⟩ : ByteArray), a1.dev, r4, r25] (List.length [(⟨#[102, 108, 111, 111, 100]⟩ : ByteArray), a1.dev, r4, r25]) false)] (pc (k_palingref03_Text h3)<|pc (k_palingref03_Text h5)<|pc (k_palingref01_Text h7)<|pc h8<|pc h9<|pc h18<|pc h19<|pc h20<|pc h23<|pc h24<|pc (k_palingref03_AddrsText h26)<|pc (bs_ob 9 [(⟨#[102, 108, 111, 111, 100]⟩ : ByteArray), a1.dev, r4, r25])<|pn)
              · obtain ⟨h27, h⟩|⟨h27, h⟩ := ite_out h
                · obtain ⟨r28, h29, h⟩ := bo h
                  obtain ⟨r30, h31, h⟩ := bo h
                  injection h with h; subst h; exact rf Tryz.func215 (some [2]) [.callv (.v (.string r2)), .callv (.v (.string r4)), .callv (.v (.string r6)), .f, .f, .f, .f, .f, .f, .f, .t, .callv (.v (.string r28)), .callv (.v (.string r30)), .obj [] (.arr 9 [(⟨#[118, 114, 102]⟩ : ByteArray), a1.dev, a1.name, r28, r30] (List.length [(⟨#[118, 114, 102]⟩ : ByteArray), a1.dev, a1.name, r28, r30]) false)] (pc (k_palingref03_Text h3)<|pc (k_palingref03_Text h5)<|pc (k_palingref01_Text h7)<|pc h8<|pc h9<|pc h18<|pc h19<|pc h20<|pc h23<|pc h24<|pc h27<|pc (k_palingref11_spell h29)<|pc (k_palingref11_spell h31)<|pc (bs_ob 9 [(⟨#[118, 114, 102]⟩ : ByteArray), a1.dev, a1.name, r28, r30])<|pn)
                · obtain ⟨h32, h⟩|⟨h32, h⟩ := ite_out h
                  · obtain ⟨r33, h34, h⟩ := bo h
                    injection h with h; subst h; exact rf Tryz.func215 (some [2]) [.callv (.v (.string r2)), .callv (.v (.string r4)), .callv (.v (.string r6)), .f, .f, .f, .f, .f, .f, .f, .f, .t, .callv (.v (.string r33)), .obj [] (.arr 9 [(⟨#[105, 114, 98]⟩ : ByteArray), a1.dev, r2, a1.name, r33] (List.length [(⟨#[105, 114, 98]⟩ : ByteArray), a1.dev, r2, a1.name, r33]) false)] (pc (k_palingref03_Text h3)<|pc (k_palingref03_Text h5)<|pc (k_palingref01_Text h7)<|pc h8<|pc h9<|pc h18<|pc h19<|pc h20<|pc h23<|pc h24<|pc h27<|pc h32<|pc (k_palingref02_PrefixText h34)<|pc (bs_ob 9 [(⟨#[105, 114, 98]⟩ : ByteArray), a1.dev, r2, a1.name, r33])<|pn)
                  · injection h with h; subst h; exact rf Tryz.func215 (some [2]) [.callv (.v (.string r2)), .callv (.v (.string r4)), .callv (.v (.string r6)), .f, .f, .f, .f, .f, .f, .f, .f, .f] (pc (k_palingref03_Text h3)<|pc (k_palingref03_Text h5)<|pc (k_palingref01_Text h7)<|pc h8<|pc h9<|pc h18<|pc h19<|pc h20<|pc h23<|pc h24<|pc h27<|pc h32<|pn)

theorem k_palingref11_form {a1 : List ByteArray} {r : ByteArray} (h : palingref11_form a1 = some r) :
    CallsOK Tryz.prog UU 256 [.sl 9 a1] [] (.v (.string r)) [] := by
  unfold palingref11_form at h
  obtain ⟨h2, h⟩|⟨h2, h⟩ := ite_out h
  · injection h with h; subst h; exact rf Tryz.func256 none [.t] (pc h2<|pn)
  · obtain ⟨x3, h4, h⟩ := bo h
    obtain ⟨h5, h⟩|⟨h5, h⟩ := ite_out h
    · injection h with h; subst h; exact rf Tryz.func256 none [.f, .row (c9 x3), .t] (pc h2<|pc (ob9 h4)<|pc h5<|pn)
    · obtain ⟨h6, h⟩|⟨h6, h⟩ := ite_out h
      · injection h with h; subst h; exact rf Tryz.func256 none [.f, .row (c9 x3), .f, .t] (pc h2<|pc (ob9 h4)<|pc h5<|pc h6<|pn)
      · obtain ⟨h7, h⟩|⟨h7, h⟩ := ite_out h
        · injection h with h; subst h; exact rf Tryz.func256 none [.f, .row (c9 x3), .f, .f, .t] (pc h2<|pc (ob9 h4)<|pc h5<|pc h6<|pc h7<|pn)
        · obtain ⟨h8, h⟩|⟨h8, h⟩ := ite_out h
          · injection h with h; subst h; exact rf Tryz.func256 none [.f, .row (c9 x3), .f, .f, .f, .t] (pc h2<|pc (ob9 h4)<|pc h5<|pc h6<|pc h7<|pc h8<|pn)
          · obtain ⟨h9, h⟩|⟨h9, h⟩ := ite_out h
            · injection h with h; subst h; exact rf Tryz.func256 none [.f, .row (c9 x3), .f, .f, .f, .f, .t] (pc h2<|pc (ob9 h4)<|pc h5<|pc h6<|pc h7<|pc h8<|pc h9<|pn)
            · obtain ⟨h10, h⟩|⟨h10, h⟩ := ite_out h
              · injection h with h; subst h; exact rf Tryz.func256 none [.f, .row (c9 x3), .f, .f, .f, .f, .f, .t] (pc h2<|pc (ob9 h4)<|pc h5<|pc h6<|pc h7<|pc h8<|pc h9<|pc h10<|pn)
              · obtain ⟨h11, h⟩|⟨h11, h⟩ := ite_out h
                · injection h with h; subst h; exact rf Tryz.func256 none [.f, .row (c9 x3), .f, .f, .f, .f, .f, .f, .t] (pc h2<|pc (ob9 h4)<|pc h5<|pc h6<|pc h7<|pc h8<|pc h9<|pc h10<|pc h11<|pn)
                · obtain ⟨h12, h⟩|⟨h12, h⟩ := ite_out h
                  · injection h with h; subst h; exact rf Tryz.func256 none [.f, .row (c9 x3), .f, .f, .f, .f, .f, .f, .f, .t] (pc h2<|pc (ob9 h4)<|pc h5<|pc h6<|pc h7<|pc h8<|pc h9<|pc h10<|pc h11<|pc h12<|pn)
                  · obtain ⟨h13, h⟩|⟨h13, h⟩ := ite_out h
                    · obtain ⟨h14, h⟩|⟨h14, h⟩ := ite_out h
                      · obtain ⟨x15, h16, h⟩ := bo h
                        obtain ⟨h17, h⟩|⟨h17, h⟩ := ite_out h
                        · injection h with h; subst h; exact rf Tryz.func256 none [.f, .row (c9 x3), .f, .f, .f, .f, .f, .f, .f, .f, .t, .t, .row (c9 x15), .t] (pc h2<|pc (ob9 h4)<|pc h5<|pc h6<|pc h7<|pc h8<|pc h9<|pc h10<|pc h11<|pc h12<|pc h13<|pc h14<|pc (ob9 h16)<|pc h17<|pn)
                        · obtain ⟨h18, h⟩|⟨h18, h⟩ := ite_out h
                          · obtain ⟨x19, h20, h⟩ := bo h
                            obtain ⟨h21, h⟩|⟨h21, h⟩ := ite_out h
                            · injection h with h; subst h; exact rf Tryz.func256 none [.f, .row (c9 x3), .f, .f, .f, .f, .f, .f, .f, .f, .t, .t, .row (c9 x15), .f, .t, .row (c9 x19), .t] (pc h2<|pc (ob9 h4)<|pc h5<|pc h6<|pc h7<|pc h8<|pc h9<|pc h10<|pc h11<|pc h12<|pc h13<|pc h14<|pc (ob9 h16)<|pc h17<|pc h18<|pc (ob9 h20)<|pc h21<|pn)
                            · injection h with h; subst h; exact rf Tryz.func256 none [.f, .row (c9 x3), .f, .f, .f, .f, .f, .f, .f, .f, .t, .t, .row (c9 x15), .f, .t, .row (c9 x19), .f] (pc h2<|pc (ob9 h4)<|pc h5<|pc h6<|pc h7<|pc h8<|pc h9<|pc h10<|pc h11<|pc h12<|pc h13<|pc h14<|pc (ob9 h16)<|pc h17<|pc h18<|pc (ob9 h20)<|pc h21<|pn)
                          · injection h with h; subst h; exact rf Tryz.func256 none [.f, .row (c9 x3), .f, .f, .f, .f, .f, .f, .f, .f, .t, .t, .row (c9 x15), .f, .f] (pc h2<|pc (ob9 h4)<|pc h5<|pc h6<|pc h7<|pc h8<|pc h9<|pc h10<|pc h11<|pc h12<|pc h13<|pc h14<|pc (ob9 h16)<|pc h17<|pc h18<|pn)
                      · obtain ⟨h22, h⟩|⟨h22, h⟩ := ite_out h
                        · obtain ⟨x23, h24, h⟩ := bo h
                          obtain ⟨h25, h⟩|⟨h25, h⟩ := ite_out h
                          · injection h with h; subst h; exact rf Tryz.func256 none [.f, .row (c9 x3), .f, .f, .f, .f, .f, .f, .f, .f, .t, .f, .t, .row (c9 x23), .t] (pc h2<|pc (ob9 h4)<|pc h5<|pc h6<|pc h7<|pc h8<|pc h9<|pc h10<|pc h11<|pc h12<|pc h13<|pc h14<|pc h22<|pc (ob9 h24)<|pc h25<|pn)
                          · injection h with h; subst h; exact rf Tryz.func256 none [.f, .row (c9 x3), .f, .f, .f, .f, .f, .f, .f, .f, .t, .f, .t, .row (c9 x23), .f] (pc h2<|pc (ob9 h4)<|pc h5<|pc h6<|pc h7<|pc h8<|pc h9<|pc h10<|pc h11<|pc h12<|pc h13<|pc h14<|pc h22<|pc (ob9 h24)<|pc h25<|pn)
                        · injection h with h; subst h; exact rf Tryz.func256 none [.f, .row (c9 x3), .f, .f, .f, .f, .f, .f, .f, .f, .t, .f, .f] (pc h2<|pc (ob9 h4)<|pc h5<|pc h6<|pc h7<|pc h8<|pc h9<|pc h10<|pc h11<|pc h12<|pc h13<|pc h14<|pc h22<|pn)
                    · injection h with h; subst h; exact rf Tryz.func256 none [.f, .row (c9 x3), .f, .f, .f, .f, .f, .f, .f, .f, .f] (pc h2<|pc (ob9 h4)<|pc h5<|pc h6<|pc h7<|pc h8<|pc h9<|pc h10<|pc h11<|pc h12<|pc h13<|pn)

theorem k_palingref11_kind_L1 {a1 : ByteArray} : LoopOK Tryz.prog UU 0 19 (subC (codeOf Tryz.f257) [1, 1, 0, 1, 0, 0]) (ρ := Int ⊕ Unit) (palingref11_kind_L1 a1)
    (fun v2 : Int => ([(0, .v (.string a1)), (2, .z), (3, .os 0 (List.length [(⟨#[]⟩ : ByteArray), (⟨#[100, 101, 118, 105, 99, 101]⟩ : ByteArray), (⟨#[112, 111, 114, 116]⟩ : ByteArray), (⟨#[108, 105, 110, 107]⟩ : ByteArray), (⟨#[115, 116, 97, 116, 105, 99]⟩ : ByteArray), (⟨#[118, 116, 101, 112]⟩ : ByteArray), (⟨#[118, 110, 105]⟩ : ByteArray), (⟨#[102, 108, 111, 111, 100]⟩ : ByteArray), (⟨#[118, 114, 102]⟩ : ByteArray), (⟨#[105, 114, 98]⟩ : ByteArray)])), (4, .j v2)] : Fr DD)) (fun v2 : Int => ([.arr 9 [(⟨#[]⟩ : ByteArray), (⟨#[100, 101, 118, 105, 99, 101]⟩ : ByteArray), (⟨#[112, 111, 114, 116]⟩ : ByteArray), (⟨#[108, 105, 110, 107]⟩ : ByteArray), (⟨#[115, 116, 97, 116, 105, 99]⟩ : ByteArray), (⟨#[118, 116, 101, 112]⟩ : ByteArray), (⟨#[118, 110, 105]⟩ : ByteArray), (⟨#[102, 108, 111, 111, 100]⟩ : ByteArray), (⟨#[118, 114, 102]⟩ : ByteArray), (⟨#[105, 114, 98]⟩ : ByteArray)] (List.length [(⟨#[]⟩ : ByteArray), (⟨#[100, 101, 118, 105, 99, 101]⟩ : ByteArray), (⟨#[112, 111, 114, 116]⟩ : ByteArray), (⟨#[108, 105, 110, 107]⟩ : ByteArray), (⟨#[115, 116, 97, 116, 105, 99]⟩ : ByteArray), (⟨#[118, 116, 101, 112]⟩ : ByteArray), (⟨#[118, 110, 105]⟩ : ByteArray), (⟨#[102, 108, 111, 111, 100]⟩ : ByteArray), (⟨#[118, 114, 102]⟩ : ByteArray), (⟨#[105, 114, 98]⟩ : ByteArray)]) false] : Heap DD)) (fun r => match r with | Sum.inl v9 => .ret | Sum.inr _ => .exit 0) (fun r => match r with | Sum.inl v9 => [(2, .j v9)] | Sum.inr _ => [(2, .z)]) (fun r => match r with | Sum.inl v9 => [] | Sum.inr _ => []) := by
  refine loop_sound3 (fun s q h => ?_) (fun r => ?_)
  · replace h : palingref11_kind_L1 a1 s = some q := h; revert h; revert s; intro v2 h
    unfold palingref11_kind_L1 at h
    obtain ⟨h3, h⟩|⟨h3, h⟩ := ite_out h
    · obtain ⟨h4, h⟩|⟨h4, h⟩ := ite_out h
      · obtain ⟨x5, h6, h⟩ := bo h
        obtain ⟨h7, h⟩|⟨h7, h⟩ := ite_out h
        · injection h with h; subst h; exact rl [2] [] [.t, .row (c9 x5), .t] (pc ((rn (List.length [(⟨#[]⟩ : ByteArray), (⟨#[100, 101, 118, 105, 99, 101]⟩ : ByteArray), (⟨#[112, 111, 114, 116]⟩ : ByteArray), (⟨#[108, 105, 110, 107]⟩ : ByteArray), (⟨#[115, 116, 97, 116, 105, 99]⟩ : ByteArray), (⟨#[118, 116, 101, 112]⟩ : ByteArray), (⟨#[118, 110, 105]⟩ : ByteArray), (⟨#[102, 108, 111, 111, 100]⟩ : ByteArray), (⟨#[118, 114, 102]⟩ : ByteArray), (⟨#[105, 114, 98]⟩ : ByteArray)])))<|pc h3<|pc (an (List.length [(⟨#[]⟩ : ByteArray), (⟨#[100, 101, 118, 105, 99, 101]⟩ : ByteArray), (⟨#[112, 111, 114, 116]⟩ : ByteArray), (⟨#[108, 105, 110, 107]⟩ : ByteArray), (⟨#[115, 116, 97, 116, 105, 99]⟩ : ByteArray), (⟨#[118, 116, 101, 112]⟩ : ByteArray), (⟨#[118, 110, 105]⟩ : ByteArray), (⟨#[102, 108, 111, 111, 100]⟩ : ByteArray), (⟨#[118, 114, 102]⟩ : ByteArray), (⟨#[105, 114, 98]⟩ : ByteArray)]) (lin_ob h4))<|pc (an (List.length [(⟨#[]⟩ : ByteArray), (⟨#[100, 101, 118, 105, 99, 101]⟩ : ByteArray), (⟨#[112, 111, 114, 116]⟩ : ByteArray), (⟨#[108, 105, 110, 107]⟩ : ByteArray), (⟨#[115, 116, 97, 116, 105, 99]⟩ : ByteArray), (⟨#[118, 116, 101, 112]⟩ : ByteArray), (⟨#[118, 110, 105]⟩ : ByteArray), (⟨#[102, 108, 111, 111, 100]⟩ : ByteArray), (⟨#[118, 114, 102]⟩ : ByteArray), (⟨#[105, 114, 98]⟩ : ByteArray)]) (obn9 h6))<|pc h7<|pn)
        · injection h with h; subst h; exact rl [0, 2, 3, 4] [0] [.t, .row (c9 x5), .f] (pc ((rn (List.length [(⟨#[]⟩ : ByteArray), (⟨#[100, 101, 118, 105, 99, 101]⟩ : ByteArray), (⟨#[112, 111, 114, 116]⟩ : ByteArray), (⟨#[108, 105, 110, 107]⟩ : ByteArray), (⟨#[115, 116, 97, 116, 105, 99]⟩ : ByteArray), (⟨#[118, 116, 101, 112]⟩ : ByteArray), (⟨#[118, 110, 105]⟩ : ByteArray), (⟨#[102, 108, 111, 111, 100]⟩ : ByteArray), (⟨#[118, 114, 102]⟩ : ByteArray), (⟨#[105, 114, 98]⟩ : ByteArray)])))<|pc h3<|pc (an (List.length [(⟨#[]⟩ : ByteArray), (⟨#[100, 101, 118, 105, 99, 101]⟩ : ByteArray), (⟨#[112, 111, 114, 116]⟩ : ByteArray), (⟨#[108, 105, 110, 107]⟩ : ByteArray), (⟨#[115, 116, 97, 116, 105, 99]⟩ : ByteArray), (⟨#[118, 116, 101, 112]⟩ : ByteArray), (⟨#[118, 110, 105]⟩ : ByteArray), (⟨#[102, 108, 111, 111, 100]⟩ : ByteArray), (⟨#[118, 114, 102]⟩ : ByteArray), (⟨#[105, 114, 98]⟩ : ByteArray)]) (lin_ob h4))<|pc (an (List.length [(⟨#[]⟩ : ByteArray), (⟨#[100, 101, 118, 105, 99, 101]⟩ : ByteArray), (⟨#[112, 111, 114, 116]⟩ : ByteArray), (⟨#[108, 105, 110, 107]⟩ : ByteArray), (⟨#[115, 116, 97, 116, 105, 99]⟩ : ByteArray), (⟨#[118, 116, 101, 112]⟩ : ByteArray), (⟨#[118, 110, 105]⟩ : ByteArray), (⟨#[102, 108, 111, 111, 100]⟩ : ByteArray), (⟨#[118, 114, 102]⟩ : ByteArray), (⟨#[105, 114, 98]⟩ : ByteArray)]) (obn9 h6))<|pc h7<|pn)
      · cases h
    · injection h with h; subst h; exact rl [2] [] [.f] (pc ((rn (List.length [(⟨#[]⟩ : ByteArray), (⟨#[100, 101, 118, 105, 99, 101]⟩ : ByteArray), (⟨#[112, 111, 114, 116]⟩ : ByteArray), (⟨#[108, 105, 110, 107]⟩ : ByteArray), (⟨#[115, 116, 97, 116, 105, 99]⟩ : ByteArray), (⟨#[118, 116, 101, 112]⟩ : ByteArray), (⟨#[118, 110, 105]⟩ : ByteArray), (⟨#[102, 108, 111, 111, 100]⟩ : ByteArray), (⟨#[118, 114, 102]⟩ : ByteArray), (⟨#[105, 114, 98]⟩ : ByteArray)])))<|pc h3<|pn)
  · rcases r with _ | _ <;> exact Ex.noConfusion

theorem k_palingref11_kind {a1 : ByteArray} {r : Int} (h : palingref11_kind a1 = some r) :
    CallsOK Tryz.prog UU 257 [.v (.string a1)] [] (.j r) [] := by
  unfold palingref11_kind at h
  obtain ⟨r11, h10, h⟩ := bo h
  rcases r11 with v9 | _
  · injection h with h; subst h; exact rf Tryz.func257 none [.obj [] (.arr 9 [(⟨#[]⟩ : ByteArray), (⟨#[100, 101, 118, 105, 99, 101]⟩ : ByteArray), (⟨#[112, 111, 114, 116]⟩ : ByteArray), (⟨#[108, 105, 110, 107]⟩ : ByteArray), (⟨#[115, 116, 97, 116, 105, 99]⟩ : ByteArray), (⟨#[118, 116, 101, 112]⟩ : ByteArray), (⟨#[118, 110, 105]⟩ : ByteArray), (⟨#[102, 108, 111, 111, 100]⟩ : ByteArray), (⟨#[118, 114, 102]⟩ : ByteArray), (⟨#[105, 114, 98]⟩ : ByteArray)] (List.length [(⟨#[]⟩ : ByteArray), (⟨#[100, 101, 118, 105, 99, 101]⟩ : ByteArray), (⟨#[112, 111, 114, 116]⟩ : ByteArray), (⟨#[108, 105, 110, 107]⟩ : ByteArray), (⟨#[115, 116, 97, 116, 105, 99]⟩ : ByteArray), (⟨#[118, 116, 101, 112]⟩ : ByteArray), (⟨#[118, 110, 105]⟩ : ByteArray), (⟨#[102, 108, 111, 111, 100]⟩ : ByteArray), (⟨#[118, 114, 102]⟩ : ByteArray), (⟨#[105, 114, 98]⟩ : ByteArray)]) false), .sum [0, 2, 3, 4] [0] .ret [(2, .j v9)] []] (pc (bs_ob 9 [(⟨#[]⟩ : ByteArray), (⟨#[100, 101, 118, 105, 99, 101]⟩ : ByteArray), (⟨#[112, 111, 114, 116]⟩ : ByteArray), (⟨#[108, 105, 110, 107]⟩ : ByteArray), (⟨#[115, 116, 97, 116, 105, 99]⟩ : ByteArray), (⟨#[118, 116, 101, 112]⟩ : ByteArray), (⟨#[118, 110, 105]⟩ : ByteArray), (⟨#[102, 108, 111, 111, 100]⟩ : ByteArray), (⟨#[118, 114, 102]⟩ : ByteArray), (⟨#[105, 114, 98]⟩ : ByteArray)])<|pc (k_palingref11_kind_L1 _ _ h10)<|pn)
  · injection h with h; subst h; exact rf Tryz.func257 none [.obj [] (.arr 9 [(⟨#[]⟩ : ByteArray), (⟨#[100, 101, 118, 105, 99, 101]⟩ : ByteArray), (⟨#[112, 111, 114, 116]⟩ : ByteArray), (⟨#[108, 105, 110, 107]⟩ : ByteArray), (⟨#[115, 116, 97, 116, 105, 99]⟩ : ByteArray), (⟨#[118, 116, 101, 112]⟩ : ByteArray), (⟨#[118, 110, 105]⟩ : ByteArray), (⟨#[102, 108, 111, 111, 100]⟩ : ByteArray), (⟨#[118, 114, 102]⟩ : ByteArray), (⟨#[105, 114, 98]⟩ : ByteArray)] (List.length [(⟨#[]⟩ : ByteArray), (⟨#[100, 101, 118, 105, 99, 101]⟩ : ByteArray), (⟨#[112, 111, 114, 116]⟩ : ByteArray), (⟨#[108, 105, 110, 107]⟩ : ByteArray), (⟨#[115, 116, 97, 116, 105, 99]⟩ : ByteArray), (⟨#[118, 116, 101, 112]⟩ : ByteArray), (⟨#[118, 110, 105]⟩ : ByteArray), (⟨#[102, 108, 111, 111, 100]⟩ : ByteArray), (⟨#[118, 114, 102]⟩ : ByteArray), (⟨#[105, 114, 98]⟩ : ByteArray)]) false), .sum [0, 2, 3, 4] [0] (.exit 0) [(2, .z)] []] (pc (bs_ob 9 [(⟨#[]⟩ : ByteArray), (⟨#[100, 101, 118, 105, 99, 101]⟩ : ByteArray), (⟨#[112, 111, 114, 116]⟩ : ByteArray), (⟨#[108, 105, 110, 107]⟩ : ByteArray), (⟨#[115, 116, 97, 116, 105, 99]⟩ : ByteArray), (⟨#[118, 116, 101, 112]⟩ : ByteArray), (⟨#[118, 110, 105]⟩ : ByteArray), (⟨#[102, 108, 111, 111, 100]⟩ : ByteArray), (⟨#[118, 114, 102]⟩ : ByteArray), (⟨#[105, 114, 98]⟩ : ByteArray)])<|pc (k_palingref11_kind_L1 _ _ h10)<|pn)

theorem k_palingref03_Name_L1 {a1 : ByteArray} : LoopOK Tryz.prog UU 0 50 (subC (codeOf Tryz.f276) [1, 1, 0, 1, 0, 0]) (ρ := Unit ⊕ Unit) (palingref03_Name_L1 a1)
    (fun v7 : Int => ([(0, .v (.string a1)), (2, .v (.bool false)), (3, .j v7)] : Fr DD)) (fun v7 : Int => ([] : Heap DD)) (fun r => match r with | Sum.inl _ => .ret | Sum.inr _ => .exit 0) (fun r => match r with | Sum.inl _ => [(2, .v (.bool false))] | Sum.inr _ => [(2, .v (.bool false))]) (fun r => match r with | Sum.inl _ => [] | Sum.inr _ => []) := by
  refine loop_sound3 (fun s q h => ?_) (fun r => ?_)
  · replace h : palingref03_Name_L1 a1 s = some q := h; revert h; revert s; intro v7 h
    unfold palingref03_Name_L1 at h
    obtain ⟨h8, h⟩|⟨h8, h⟩ := ite_out h
    · obtain ⟨h9, h⟩|⟨h9, h⟩ := ite_out h
      · obtain ⟨h10, h⟩|⟨h10, h⟩ := ite_out h
        · obtain ⟨h11, h⟩|⟨h11, h⟩ := ite_out h
          · injection h with h; subst h; exact rl [2] [] [.t, .t, .t] (pc h8<|pc (of_decide_eq_true h9)<|pc h10<|pc (of_decide_eq_true h9)<|pc h11<|pn)
          · obtain ⟨h12, h⟩|⟨h12, h⟩ := ite_out h
            · injection h with h; subst h; exact rl [2] [] [.t, .t, .f, .t] (pc h8<|pc (of_decide_eq_true h9)<|pc h10<|pc (of_decide_eq_true h9)<|pc h11<|pc (of_decide_eq_true h9)<|pc h12<|pn)
            · injection h with h; subst h; exact rl [0, 2, 3] [] [.t, .t, .f, .f] (pc h8<|pc (of_decide_eq_true h9)<|pc h10<|pc (of_decide_eq_true h9)<|pc h11<|pc (of_decide_eq_true h9)<|pc h12<|pn)
        · obtain ⟨h13, h⟩|⟨h13, h⟩ := ite_out h
          · obtain ⟨h14, h⟩|⟨h14, h⟩ := ite_out h
            · injection h with h; subst h; exact rl [2] [] [.t, .f, .t, .t] (pc h8<|pc (of_decide_eq_true h9)<|pc h10<|pc (of_decide_eq_true h9)<|pc h13<|pc (of_decide_eq_true h9)<|pc h14<|pn)
            · obtain ⟨h15, h⟩|⟨h15, h⟩ := ite_out h
              · injection h with h; subst h; exact rl [2] [] [.t, .f, .t, .f, .t] (pc h8<|pc (of_decide_eq_true h9)<|pc h10<|pc (of_decide_eq_true h9)<|pc h13<|pc (of_decide_eq_true h9)<|pc h14<|pc (of_decide_eq_true h9)<|pc h15<|pn)
              · injection h with h; subst h; exact rl [0, 2, 3] [] [.t, .f, .t, .f, .f] (pc h8<|pc (of_decide_eq_true h9)<|pc h10<|pc (of_decide_eq_true h9)<|pc h13<|pc (of_decide_eq_true h9)<|pc h14<|pc (of_decide_eq_true h9)<|pc h15<|pn)
          · injection h with h; subst h; exact rl [0, 2, 3] [] [.t, .f, .f] (pc h8<|pc (of_decide_eq_true h9)<|pc h10<|pc (of_decide_eq_true h9)<|pc h13<|pn)
      · cases h
    · injection h with h; subst h; exact rl [2] [] [.f] (pc h8<|pn)
  · rcases r with _ | _ <;> exact Ex.noConfusion

theorem k_palingref03_Name {a1 : ByteArray} {r : Bool} (h : palingref03_Name a1 = some r) :
    CallsOK Tryz.prog UU 276 [.v (.string a1)] [] (.v (.bool r)) [] := by
  unfold palingref03_Name at h
  obtain ⟨h2, h⟩|⟨h2, h⟩ := ite_out h
  · injection h with h; subst h; exact rf Tryz.func276 none [.t] (pc h2<|pn)
  · obtain ⟨h3, h⟩|⟨h3, h⟩ := ite_out h
    · injection h with h; subst h; exact rf Tryz.func276 none [.f, .t] (pc h2<|pc h3<|pn)
    · obtain ⟨h4, h⟩|⟨h4, h⟩ := ite_out h
      · obtain ⟨h5, h⟩|⟨h5, h⟩ := ite_out h
        · injection h with h; subst h; exact rf Tryz.func276 none [.f, .f, .t] (pc h2<|pc h3<|pc (of_decide_eq_true h4)<|pc h5<|pn)
        · obtain ⟨h6, h⟩|⟨h6, h⟩ := ite_out h
          · injection h with h; subst h; exact rf Tryz.func276 none [.f, .f, .f, .t] (pc h2<|pc h3<|pc (of_decide_eq_true h4)<|pc h5<|pc (of_decide_eq_true h4)<|pc h6<|pn)
          · obtain ⟨r17, h16, h⟩ := bo h
            rcases r17 with _ | _
            · injection h with h; subst h; exact rf Tryz.func276 none [.f, .f, .f, .f, .sum [0, 2, 3] [] .ret [(2, .v (.bool false))] []] (pc h2<|pc h3<|pc (of_decide_eq_true h4)<|pc h5<|pc (of_decide_eq_true h4)<|pc h6<|pc (k_palingref03_Name_L1 _ _ h16)<|pn)
            · injection h with h; subst h; exact rf Tryz.func276 none [.f, .f, .f, .f, .sum [0, 2, 3] [] (.exit 0) [(2, .v (.bool false))] []] (pc h2<|pc h3<|pc (of_decide_eq_true h4)<|pc h5<|pc (of_decide_eq_true h4)<|pc h6<|pc (k_palingref03_Name_L1 _ _ h16)<|pn)
      · cases h

theorem k_palingref11_name_own_J1 {a1 : ByteArray} {a2 : Int} {a3 : Int} {a4 : Int} {a5 : ByteArray} {a6 : ByteArray} {a7 : ByteArray} {a8 : ByteArray} {a9 : ByteArray} {a10 : Int} {a11 : Int} {a12 : Int} {a13 : Int} {a14 : Int} {a15 : Int} {a16 : List Int} {a17 : List Int} {a18 : List Int} {a19 : List Int} {r : ByteArray} (h : palingref11_name_own_J1 a1 a2 a3 a4 a5 a6 a7 a8 a9 a10 a11 a12 a13 a14 a15 a16 a17 a18 a19 = some r) :
    ExecOK Tryz.prog UU 5 46 (subC (codeOf Tryz.f277) [1, 1, 0]) [(0, .v (.string a1)), (1, .j a2), (2, .op 0 1 0 0)] [.box 37 [.j a3, .j a4, .v (.string a5), .v (.string a6), .v (.string a7), .v (.string a8), .v (.string a9), .v (.int .u64 a10), .v (.int .u32 a11), .j a12, .j a13, .j a14, .j a15, .os 1 a16.length, .os 2 a17.length, .os 3 a18.length, .os 4 a19.length] false, .arr 3 a16 a16.length false, .arr 3 a17 a17.length false, .arr 3 a18 a18.length false, .arr 33 a19 a19.length false] ((fun r => match r with | v27 => .nor) r) ((fun r => match r with | v27 => [(0, .v (.string a1)), (1, .j a2), (2, .op 0 1 0 0)]) r) ((fun r => match r with | v27 => [.box 37 [.j a3, .j a4, .v (.string a5), .v (.string v27), .v (.string a7), .v (.string a8), .v (.string a9), .v (.int .u64 a10), .v (.int .u32 a11), .j a12, .j a13, .j a14, .j a15, .os 1 a16.length, .os 2 a17.length, .os 3 a18.length, .os 4 a19.length] false, .arr 3 a16 a16.length false, .arr 3 a17 a17.length false, .arr 3 a18 a18.length false, .arr 33 a19 a19.length false]) r) := by
  unfold palingref11_name_own_J1 at h
  obtain ⟨h23, h⟩|⟨h23, h⟩ := ite_out h
  · injection h with h; subst h; exact rl [0, 1, 2] [0, 1, 2, 3, 4] [.t] (pc h23<|pn)
  · injection h with h; subst h; exact rl [0, 1, 2] [0, 1, 2, 3, 4] [.f] (pc h23<|pn)

theorem k_palingref11_name_own {a1 : ByteArray} {a2 : Int} {a3 : Int} {a4 : Int} {a5 : ByteArray} {a6 : ByteArray} {a7 : ByteArray} {a8 : ByteArray} {a9 : ByteArray} {a10 : Int} {a11 : Int} {a12 : Int} {a13 : Int} {a14 : Int} {a15 : Int} {a16 : List Int} {a17 : List Int} {a18 : List Int} {a19 : List Int} {r : (ByteArray × ByteArray × ByteArray × ByteArray × ByteArray)} (h : palingref11_name_own a1 a2 a3 a4 a5 a6 a7 a8 a9 a10 a11 a12 a13 a14 a15 a16 a17 a18 a19 = some r) :
    CallsOK Tryz.prog UU 277 [.v (.string a1), .j a2, .op 0 1 0 0] [.box 37 [.j a3, .j a4, .v (.string a5), .v (.string a6), .v (.string a7), .v (.string a8), .v (.string a9), .v (.int .u64 a10), .v (.int .u32 a11), .j a12, .j a13, .j a14, .j a15, .os 1 a16.length, .os 2 a17.length, .os 3 a18.length, .os 4 a19.length] false, .arr 3 a16 a16.length false, .arr 3 a17 a17.length false, .arr 3 a18 a18.length false, .arr 33 a19 a19.length false] ((fun r => match r with | (v33, v34, v35, v36, v37) => .tup []) r) ((fun r => match r with | (v33, v34, v35, v36, v37) => [.box 37 [.j a3, .j a4, .v (.string v33), .v (.string v34), .v (.string v35), .v (.string v36), .v (.string v37), .v (.int .u64 a10), .v (.int .u32 a11), .j a12, .j a13, .j a14, .j a15, .os 1 a16.length, .os 2 a17.length, .os 3 a18.length, .os 4 a19.length] false, .arr 3 a16 a16.length false, .arr 3 a17 a17.length false, .arr 3 a18 a18.length false, .arr 33 a19 a19.length false]) r) := by
  unfold palingref11_name_own at h
  obtain ⟨h20, h⟩|⟨h20, h⟩ := ite_out h
  · injection h with h; subst h; exact rf Tryz.func277 (some [0, 1, 2, 3, 4]) [.t] (pc h20<|pn)
  · obtain ⟨h21, h⟩|⟨h21, h⟩ := ite_out h
    · injection h with h; subst h; exact rf Tryz.func277 (some [0, 1, 2, 3, 4]) [.f, .t] (pc h20<|pc h21<|pn)
    · obtain ⟨h22, h⟩|⟨h22, h⟩ := ite_out h
      · injection h with h; subst h; exact rf Tryz.func277 (some [0, 1, 2, 3, 4]) [.f, .f, .t] (pc h20<|pc h21<|pc h22<|pn)
      · obtain ⟨v27, h28, h⟩ := bo h
        obtain ⟨h30, h⟩|⟨h30, h⟩ := ite_out h
        · obtain ⟨h31, h⟩|⟨h31, h⟩ := ite_out h
          · injection h with h; subst h; exact rf Tryz.func277 (some [0, 1, 2, 3, 4]) [.f, .f, .f, .cut [0, 1, 2] [0, 1, 2, 3, 4] .nor [(0, .v (.string a1)), (1, .j a2), (2, .op 0 1 0 0)] [.box 37 [.j a3, .j a4, .v (.string a5), .v (.string v27), .v (.string a7), .v (.string a8), .v (.string a9), .v (.int .u64 a10), .v (.int .u32 a11), .j a12, .j a13, .j a14, .j a15, .os 1 a16.length, .os 2 a17.length, .os 3 a18.length, .os 4 a19.length] false, .arr 3 a16 a16.length false, .arr 3 a17 a17.length false, .arr 3 a18 a18.length false, .arr 33 a19 a19.length false], .t, .t] (pc h20<|pc h21<|pc h22<|pc (k_palingref11_name_own_J1 h28)<|pc h30<|pc h31<|pn)
          · injection h with h; subst h; exact rf Tryz.func277 (some [0, 1, 2, 3, 4]) [.f, .f, .f, .cut [0, 1, 2] [0, 1, 2, 3, 4] .nor [(0, .v (.string a1)), (1, .j a2), (2, .op 0 1 0 0)] [.box 37 [.j a3, .j a4, .v (.string a5), .v (.string v27), .v (.string a7), .v (.string a8), .v (.string a9), .v (.int .u64 a10), .v (.int .u32 a11), .j a12, .j a13, .j a14, .j a15, .os 1 a16.length, .os 2 a17.length, .os 3 a18.length, .os 4 a19.length] false, .arr 3 a16 a16.length false, .arr 3 a17 a17.length false, .arr 3 a18 a18.length false, .arr 33 a19 a19.length false], .t, .f] (pc h20<|pc h21<|pc h22<|pc (k_palingref11_name_own_J1 h28)<|pc h30<|pc h31<|pn)
        · obtain ⟨h32, h⟩|⟨h32, h⟩ := ite_out h
          · injection h with h; subst h; exact rf Tryz.func277 (some [0, 1, 2, 3, 4]) [.f, .f, .f, .cut [0, 1, 2] [0, 1, 2, 3, 4] .nor [(0, .v (.string a1)), (1, .j a2), (2, .op 0 1 0 0)] [.box 37 [.j a3, .j a4, .v (.string a5), .v (.string v27), .v (.string a7), .v (.string a8), .v (.string a9), .v (.int .u64 a10), .v (.int .u32 a11), .j a12, .j a13, .j a14, .j a15, .os 1 a16.length, .os 2 a17.length, .os 3 a18.length, .os 4 a19.length] false, .arr 3 a16 a16.length false, .arr 3 a17 a17.length false, .arr 3 a18 a18.length false, .arr 33 a19 a19.length false], .f, .t] (pc h20<|pc h21<|pc h22<|pc (k_palingref11_name_own_J1 h28)<|pc h30<|pc h32<|pn)
          · injection h with h; subst h; exact rf Tryz.func277 (some [0, 1, 2, 3, 4]) [.f, .f, .f, .cut [0, 1, 2] [0, 1, 2, 3, 4] .nor [(0, .v (.string a1)), (1, .j a2), (2, .op 0 1 0 0)] [.box 37 [.j a3, .j a4, .v (.string a5), .v (.string v27), .v (.string a7), .v (.string a8), .v (.string a9), .v (.int .u64 a10), .v (.int .u32 a11), .j a12, .j a13, .j a14, .j a15, .os 1 a16.length, .os 2 a17.length, .os 3 a18.length, .os 4 a19.length] false, .arr 3 a16 a16.length false, .arr 3 a17 a17.length false, .arr 3 a18 a18.length false, .arr 33 a19 a19.length false], .f, .f] (pc h20<|pc h21<|pc h22<|pc (k_palingref11_name_own_J1 h28)<|pc h30<|pc h32<|pn)

theorem k_palingref03_Read_J1 {a1 : ByteArray} {a2 : Int} {a3 : Int} {r : Int} (h : palingref03_Read_J1 a1 a2 a3 = some r) :
    ExecOK Tryz.prog UU 0 75 (subC (codeOf Tryz.f278) [1, 1, 0]) [(0, .v (.string a1)), (1, .j a2), (2, .j a3), (6, .z), (7, .v (.bool false)), (8, .z)] [] ((fun r => match r with | v8 => .nor) r) ((fun r => match r with | v8 => [(0, .v (.string a1)), (1, .j a2), (2, .j a3), (6, .z), (7, .v (.bool false)), (8, .j v8)]) r) ((fun r => match r with | v8 => []) r) := by
  unfold palingref03_Read_J1 at h
  obtain ⟨h4, h⟩|⟨h4, h⟩ := ite_out h
  · obtain ⟨h5, h⟩|⟨h5, h⟩ := ite_out h
    · obtain ⟨h6, h⟩|⟨h6, h⟩ := ite_out h
      · injection h with h; subst h; exact rl [0, 1, 2, 6, 7, 8] [] [.t, .t] (pc h4<|pc (of_decide_eq_true h5)<|pc h6<|pn)
      · injection h with h; subst h; exact rl [0, 1, 2, 6, 7, 8] [] [.t, .f] (pc h4<|pc (of_decide_eq_true h5)<|pc h6<|pn)
    · cases h
  · injection h with h; subst h; exact rl [0, 1, 2, 6, 7, 8] [] [.f] (pc h4<|pn)

theorem k_palingref03_Read_L2 {a1 : ByteArray} {a2 : Int} {a3 : Int} {v8 : Int} : LoopOK Tryz.prog UU 0 75 (subC (codeOf Tryz.f278) [1, 1, 1, 1, 1, 0, 1, 0, 0]) (fun s : Int × Int => match s with | (v13, v14) => palingref03_Read_L2 a1 a2 a3 v8 v13 v14)
    (fun s : Int × Int => (match s with | (v13, v14) => [(0, .v (.string a1)), (1, .j a2), (2, .j a3), (6, .z), (7, .v (.bool false)), (8, .j v8), (9, .j v13), (10, .j v14)] : Fr DD)) (fun s : Int × Int => (match s with | (v13, v14) => [] : Heap DD)) (fun r => match r with | Sum.inl _ => .ret | Sum.inr v20 => .exit 0) (fun r => match r with | Sum.inl _ => [(6, .z), (7, .v (.bool false))] | Sum.inr v20 => [(0, .v (.string a1)), (1, .j a2), (2, .j a3), (6, .z), (7, .v (.bool false)), (8, .j v8), (9, .j v20)]) (fun r => match r with | Sum.inl _ => [] | Sum.inr v20 => []) := by
  refine loop_sound3 (fun s q h => ?_) (fun r => ?_)
  · obtain ⟨v13, v14⟩ := s; replace h : palingref03_Read_L2 a1 a2 a3 v8 v13 v14 = some q := h
    unfold palingref03_Read_L2 at h
    obtain ⟨h15, h⟩|⟨h15, h⟩ := ite_out h
    · obtain ⟨h16, h⟩|⟨h16, h⟩ := ite_out h
      · obtain ⟨h17, h⟩|⟨h17, h⟩ := ite_out h
        · injection h with h; subst h; exact rl [6, 7] [] [.t, .t] (pc h15<|pc (of_decide_eq_true h16)<|pc h17<|pn)
        · obtain ⟨h18, h⟩|⟨h18, h⟩ := ite_out h
          · injection h with h; subst h; exact rl [6, 7] [] [.t, .f, .t] (pc h15<|pc (of_decide_eq_true h16)<|pc h17<|pc (of_decide_eq_true h16)<|pc h18<|pn)
          · injection h with h; subst h; exact rl [0, 1, 2, 6, 7, 8, 9, 10] [] [.t, .f, .f] (pc h15<|pc (of_decide_eq_true h16)<|pc h17<|pc (of_decide_eq_true h16)<|pc h18<|pc (of_decide_eq_true h16)<|pn)
      · cases h
    · injection h with h; subst h; exact rl [0, 1, 2, 6, 7, 8, 9] [] [.f] (pc h15<|pn)
  · rcases r with _ | _ <;> exact Ex.noConfusion

theorem k_palingref03_Read_J3 {a1 : ByteArray} {a2 : Int} {a3 : Int} {v8 : Int} {v20 : Int} {r : Int} (h : palingref03_Read_J3 a1 a2 a3 v8 v20 = some r) :
    ExecOK Tryz.prog UU 0 75 (subC (codeOf Tryz.f278) [1, 1, 1, 1, 1, 1, 0]) [(0, .v (.string a1)), (1, .j a2), (2, .j a3), (6, .z), (7, .v (.bool false)), (8, .j v8), (9, .j v20)] [] ((fun r => match r with | v25 => .nor) r) ((fun r => match r with | v25 => [(0, .v (.string a1)), (1, .j a2), (2, .j a3), (6, .z), (7, .v (.bool false)), (9, .j v25)]) r) ((fun r => match r with | v25 => []) r) := by
  unfold palingref03_Read_J3 at h
  obtain ⟨h23, h⟩|⟨h23, h⟩ := ite_out h
  · injection h with h; subst h; exact rl [0, 1, 2, 6, 7, 9] [] [.t] (pc h23<|pn)
  · injection h with h; subst h; exact rl [0, 1, 2, 6, 7, 9] [] [.f] (pc h23<|pn)

theorem k_palingref03_Read {a1 : ByteArray} {a2 : Int} {a3 : Int} {r : Int × Bool} (h : palingref03_Read a1 a2 a3 = some r) :
    CallsOK Tryz.prog UU 278 [.v (.string a1), .j a2, .j a3] [] (.tup [.v (.int .i64 r.1), .v (.bool r.2)]) [] := by
  unfold palingref03_Read at h
  obtain ⟨v8, h9, h⟩ := bo h
  obtain ⟨h11, h⟩|⟨h11, h⟩ := ite_out h
  · injection h with h; subst h; exact rf Tryz.func278 none [.skp, .skp, .cut [0, 1, 2, 6, 7, 8] [] .nor [(0, .v (.string a1)), (1, .j a2), (2, .j a3), (6, .z), (7, .v (.bool false)), (8, .j v8)] [], .t] (pc (k_palingref03_Read_J1 h9)<|pc h11<|pn)
  · obtain ⟨h12, h⟩|⟨h12, h⟩ := ite_out h
    · injection h with h; subst h; exact rf Tryz.func278 none [.skp, .skp, .cut [0, 1, 2, 6, 7, 8] [] .nor [(0, .v (.string a1)), (1, .j a2), (2, .j a3), (6, .z), (7, .v (.bool false)), (8, .j v8)] [], .f, .t] (pc (k_palingref03_Read_J1 h9)<|pc h11<|pc h12<|pn)
    · obtain ⟨r22, h21, h⟩ := bo h
      rcases r22 with _ | v20
      · injection h with h; subst h; exact rf Tryz.func278 none [.skp, .skp, .cut [0, 1, 2, 6, 7, 8] [] .nor [(0, .v (.string a1)), (1, .j a2), (2, .j a3), (6, .z), (7, .v (.bool false)), (8, .j v8)] [], .f, .f, .sum [0, 1, 2, 6, 7, 8, 9, 10] [] .ret [(6, .z), (7, .v (.bool false))] []] (pc (k_palingref03_Read_J1 h9)<|pc h11<|pc h12<|pc (k_palingref03_Read_L2 _ _ h21)<|pn)
      · obtain ⟨v25, h26, h⟩ := bo h
        obtain ⟨h28, h⟩|⟨h28, h⟩ := ite_out h
        · injection h with h; subst h; exact rf Tryz.func278 none [.skp, .skp, .cut [0, 1, 2, 6, 7, 8] [] .nor [(0, .v (.string a1)), (1, .j a2), (2, .j a3), (6, .z), (7, .v (.bool false)), (8, .j v8)] [], .f, .f, .sum [0, 1, 2, 6, 7, 8, 9, 10] [] (.exit 0) [(0, .v (.string a1)), (1, .j a2), (2, .j a3), (6, .z), (7, .v (.bool false)), (8, .j v8), (9, .j v20)] [], .cut [0, 1, 2, 6, 7, 8, 9] [] .nor [(0, .v (.string a1)), (1, .j a2), (2, .j a3), (6, .z), (7, .v (.bool false)), (9, .j v25)] [], .t] (pc (k_palingref03_Read_J1 h9)<|pc h11<|pc h12<|pc (k_palingref03_Read_L2 _ _ h21)<|pc (k_palingref03_Read_J3 h26)<|pc h28<|pn)
        · obtain ⟨h29, h⟩|⟨h29, h⟩ := ite_out h
          · injection h with h; subst h; exact rf Tryz.func278 none [.skp, .skp, .cut [0, 1, 2, 6, 7, 8] [] .nor [(0, .v (.string a1)), (1, .j a2), (2, .j a3), (6, .z), (7, .v (.bool false)), (8, .j v8)] [], .f, .f, .sum [0, 1, 2, 6, 7, 8, 9, 10] [] (.exit 0) [(0, .v (.string a1)), (1, .j a2), (2, .j a3), (6, .z), (7, .v (.bool false)), (8, .j v8), (9, .j v20)] [], .cut [0, 1, 2, 6, 7, 8, 9] [] .nor [(0, .v (.string a1)), (1, .j a2), (2, .j a3), (6, .z), (7, .v (.bool false)), (9, .j v25)] [], .f, .t] (pc (k_palingref03_Read_J1 h9)<|pc h11<|pc h12<|pc (k_palingref03_Read_L2 _ _ h21)<|pc (k_palingref03_Read_J3 h26)<|pc h28<|pc h29<|pn)
          · obtain ⟨r30, h31, h⟩ := bo h
            obtain ⟨h32, h⟩|⟨h32, h⟩ := ite_out h
            · injection h with h; subst h; exact rf Tryz.func278 none [.skp, .skp, .cut [0, 1, 2, 6, 7, 8] [] .nor [(0, .v (.string a1)), (1, .j a2), (2, .j a3), (6, .z), (7, .v (.bool false)), (8, .j v8)] [], .f, .f, .sum [0, 1, 2, 6, 7, 8, 9, 10] [] (.exit 0) [(0, .v (.string a1)), (1, .j a2), (2, .j a3), (6, .z), (7, .v (.bool false)), (8, .j v8), (9, .j v20)] [], .cut [0, 1, 2, 6, 7, 8, 9] [] .nor [(0, .v (.string a1)), (1, .j a2), (2, .j a3), (6, .z), (7, .v (.bool false)), (9, .j v25)] [], .f, .f, .callv (.v (.string r30)), .t] (pc (k_palingref03_Read_J1 h9)<|pc h11<|pc h12<|pc (k_palingref03_Read_L2 _ _ h21)<|pc (k_palingref03_Read_J3 h26)<|pc h28<|pc h29<|pc (k_palingref03_Text h31)<|pc h32<|pn)
            · injection h with h; subst h; exact rf Tryz.func278 none [.skp, .skp, .cut [0, 1, 2, 6, 7, 8] [] .nor [(0, .v (.string a1)), (1, .j a2), (2, .j a3), (6, .z), (7, .v (.bool false)), (8, .j v8)] [], .f, .f, .sum [0, 1, 2, 6, 7, 8, 9, 10] [] (.exit 0) [(0, .v (.string a1)), (1, .j a2), (2, .j a3), (6, .z), (7, .v (.bool false)), (8, .j v8), (9, .j v20)] [], .cut [0, 1, 2, 6, 7, 8, 9] [] .nor [(0, .v (.string a1)), (1, .j a2), (2, .j a3), (6, .z), (7, .v (.bool false)), (9, .j v25)] [], .f, .f, .callv (.v (.string r30)), .f] (pc (k_palingref03_Read_J1 h9)<|pc h11<|pc h12<|pc (k_palingref03_Read_L2 _ _ h21)<|pc (k_palingref03_Read_J3 h26)<|pc h28<|pc h29<|pc (k_palingref03_Text h31)<|pc h32<|pn)

theorem k_palingref01_Read_J2 {a1 : ByteArray} {v3 : Int} {v4 : Int} {r : Int} (h : palingref01_Read_J2 a1 v3 v4 = some r) :
    ExecOK Tryz.prog UU 0 56 (subC (codeOf Tryz.f279) [1, 1, 1, 0, 1, 0, 0, 1, 0, 0, 1, 0]) [(0, .v (.string a1)), (2, .v (.int .u64 0)), (3, .v (.bool false)), (4, .v (.int .u64 v3)), (5, .j v4), (6, .v (.int .u64 0))] [] ((fun r => match r with | v10 => .nor) r) ((fun r => match r with | v10 => [(0, .v (.string a1)), (2, .v (.int .u64 0)), (3, .v (.bool false)), (4, .v (.int .u64 v3)), (5, .j v4), (6, .v (.int .u64 v10))]) r) ((fun r => match r with | v10 => []) r) := by
  unfold palingref01_Read_J2 at h
  obtain ⟨h6, h⟩|⟨h6, h⟩ := ite_out h
  · obtain ⟨h7, h⟩|⟨h7, h⟩ := ite_out h
    · obtain ⟨h8, h⟩|⟨h8, h⟩ := ite_out h
      · injection h with h; subst h; exact rl [0, 2, 3, 4, 5, 6] [] [.t, .t] (pc (of_decide_eq_true h6)<|pc h7<|pc (of_decide_eq_true h6)<|pc h8<|pc (of_decide_eq_true h6)<|pn)
      · injection h with h; subst h; exact rl [0, 2, 3, 4, 5, 6] [] [.t, .f] (pc (of_decide_eq_true h6)<|pc h7<|pc (of_decide_eq_true h6)<|pc h8<|pn)
    · injection h with h; subst h; exact rl [0, 2, 3, 4, 5, 6] [] [.f] (pc (of_decide_eq_true h6)<|pc h7<|pn)
  · cases h

theorem k_palingref01_Read_L1 {a1 : ByteArray} : LoopOK Tryz.prog UU 0 56 (subC (codeOf Tryz.f279) [1, 1, 1, 0, 1, 0, 0]) (fun s : Int × Int => match s with | (v3, v4) => palingref01_Read_L1 a1 v3 v4)
    (fun s : Int × Int => (match s with | (v3, v4) => [(0, .v (.string a1)), (2, .v (.int .u64 0)), (3, .v (.bool false)), (4, .v (.int .u64 v3)), (5, .j v4)] : Fr DD)) (fun s : Int × Int => (match s with | (v3, v4) => [] : Heap DD)) (fun r => match r with | v20 => .exit 0) (fun r => match r with | v20 => [(0, .v (.string a1)), (2, .v (.int .u64 0)), (3, .v (.bool false)), (4, .v (.int .u64 v20))]) (fun r => match r with | v20 => []) := by
  refine loop_sound3 (fun s q h => ?_) (fun r => ?_)
  · obtain ⟨v3, v4⟩ := s; replace h : palingref01_Read_L1 a1 v3 v4 = some q := h
    unfold palingref01_Read_L1 at h
    obtain ⟨h5, h⟩|⟨h5, h⟩ := ite_out h
    · obtain ⟨v10, h11, h⟩ := bo h
      obtain ⟨h13, h⟩|⟨h13, h⟩ := ite_out h
      · obtain ⟨h14, h⟩|⟨h14, h⟩ := ite_out h
        · obtain ⟨h15, h⟩|⟨h15, h⟩ := ite_out h
          · obtain ⟨h16, h⟩|⟨h16, h⟩ := ite_out h
            · injection h with h; subst h; exact rl [0, 2, 3, 4, 5] [] [.t, .skp, .skp, .cut [0, 2, 3, 4, 5, 6] [] .nor [(0, .v (.string a1)), (2, .v (.int .u64 0)), (3, .v (.bool false)), (4, .v (.int .u64 v3)), (5, .j v4), (6, .v (.int .u64 v10))] [], .t, .t, .t] (pc h5<|pc (k_palingref01_Read_J2 h11)<|pc (of_decide_eq_true h13)<|pc h14<|pc (of_decide_eq_true h13)<|pc h15<|pc (of_decide_eq_true h13)<|pc ((show (3 : Int) ≠ 0 from by decide))<|pc h16<|pn)
            · injection h with h; subst h; exact rl [0, 2, 3, 4, 5] [] [.t, .skp, .skp, .cut [0, 2, 3, 4, 5, 6] [] .nor [(0, .v (.string a1)), (2, .v (.int .u64 0)), (3, .v (.bool false)), (4, .v (.int .u64 v3)), (5, .j v4), (6, .v (.int .u64 v10))] [], .t, .t, .f] (pc h5<|pc (k_palingref01_Read_J2 h11)<|pc (of_decide_eq_true h13)<|pc h14<|pc (of_decide_eq_true h13)<|pc h15<|pc (of_decide_eq_true h13)<|pc ((show (3 : Int) ≠ 0 from by decide))<|pc h16<|pn)
          · obtain ⟨h17, h⟩|⟨h17, h⟩ := ite_out h
            · injection h with h; subst h; exact rl [0, 2, 3, 4, 5] [] [.t, .skp, .skp, .cut [0, 2, 3, 4, 5, 6] [] .nor [(0, .v (.string a1)), (2, .v (.int .u64 0)), (3, .v (.bool false)), (4, .v (.int .u64 v3)), (5, .j v4), (6, .v (.int .u64 v10))] [], .t, .f, .t] (pc h5<|pc (k_palingref01_Read_J2 h11)<|pc (of_decide_eq_true h13)<|pc h14<|pc (of_decide_eq_true h13)<|pc h15<|pc ((show (3 : Int) ≠ 0 from by decide))<|pc h17<|pn)
            · injection h with h; subst h; exact rl [0, 2, 3, 4, 5] [] [.t, .skp, .skp, .cut [0, 2, 3, 4, 5, 6] [] .nor [(0, .v (.string a1)), (2, .v (.int .u64 0)), (3, .v (.bool false)), (4, .v (.int .u64 v3)), (5, .j v4), (6, .v (.int .u64 v10))] [], .t, .f, .f] (pc h5<|pc (k_palingref01_Read_J2 h11)<|pc (of_decide_eq_true h13)<|pc h14<|pc (of_decide_eq_true h13)<|pc h15<|pc ((show (3 : Int) ≠ 0 from by decide))<|pc h17<|pn)
        · obtain ⟨h18, h⟩|⟨h18, h⟩ := ite_out h
          · injection h with h; subst h; exact rl [0, 2, 3, 4, 5] [] [.t, .skp, .skp, .cut [0, 2, 3, 4, 5, 6] [] .nor [(0, .v (.string a1)), (2, .v (.int .u64 0)), (3, .v (.bool false)), (4, .v (.int .u64 v3)), (5, .j v4), (6, .v (.int .u64 v10))] [], .f, .t] (pc h5<|pc (k_palingref01_Read_J2 h11)<|pc (of_decide_eq_true h13)<|pc h14<|pc ((show (3 : Int) ≠ 0 from by decide))<|pc h18<|pn)
          · injection h with h; subst h; exact rl [0, 2, 3, 4, 5] [] [.t, .skp, .skp, .cut [0, 2, 3, 4, 5, 6] [] .nor [(0, .v (.string a1)), (2, .v (.int .u64 0)), (3, .v (.bool false)), (4, .v (.int .u64 v3)), (5, .j v4), (6, .v (.int .u64 v10))] [], .f, .f] (pc h5<|pc (k_palingref01_Read_J2 h11)<|pc (of_decide_eq_true h13)<|pc h14<|pc ((show (3 : Int) ≠ 0 from by decide))<|pc h18<|pn)
      · cases h
    · injection h with h; subst h; exact rl [0, 2, 3, 4] [] [.f] (pc h5<|pn)
  · exact Ex.noConfusion

theorem k_palingref01_Read {a1 : ByteArray} {r : Int × Bool} (h : palingref01_Read a1 = some r) :
    CallsOK Tryz.prog UU 279 [.v (.string a1)] [] (.tup [.v (.int .u64 r.1), .v (.bool r.2)]) [] := by
  unfold palingref01_Read at h
  obtain ⟨h2, h⟩|⟨h2, h⟩ := ite_out h
  · injection h with h; subst h; exact rf Tryz.func279 none [.t] (pc h2<|pn)
  · obtain ⟨v20, h21, h⟩ := bo h
    obtain ⟨r23, h24, h⟩ := bo h
    obtain ⟨h25, h⟩|⟨h25, h⟩ := ite_out h
    · injection h with h; subst h; exact rf Tryz.func279 none [.f, .sum [0, 2, 3, 4, 5] [] (.exit 0) [(0, .v (.string a1)), (2, .v (.int .u64 0)), (3, .v (.bool false)), (4, .v (.int .u64 v20))] [], .callv (.v (.string r23)), .t] (pc h2<|pc (k_palingref01_Read_L1 _ _ h21)<|pc (k_palingref01_Text h24)<|pc h25<|pn)
    · injection h with h; subst h; exact rf Tryz.func279 none [.f, .sum [0, 2, 3, 4, 5] [] (.exit 0) [(0, .v (.string a1)), (2, .v (.int .u64 0)), (3, .v (.bool false)), (4, .v (.int .u64 v20))] [], .callv (.v (.string r23)), .f] (pc h2<|pc (k_palingref01_Read_L1 _ _ h21)<|pc (k_palingref01_Text h24)<|pc h25<|pn)

end Go.Eng
