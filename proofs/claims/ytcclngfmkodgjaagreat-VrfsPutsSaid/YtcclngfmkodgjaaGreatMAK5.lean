/- Part of the proof of VrfsPuts: printed mirrors of the functions, or their contracts. No conditions. -/
import Derived.Test.YtcclngfmkodgjaaGreatMAK4
set_option linter.unusedVariables false
set_option maxRecDepth 100000
namespace Go.Eng
open Go Go.Proofs
theorem k_palinglaw20_works {r : Bool} (h : palinglaw20_works = some r) :
  CallsOK Tryz.prog UU 9 [] [] (.y r) [] := by
 have hr : some true = some r := (by kernel_rfl : palinglaw20_works = some true).symm.trans h
 unfold palinglaw20_works at h
 obtain ⟨r1, h2, h⟩ := bo h
 obtain ⟨l3, l4, l5, l6, l7, l8, l9, l10, n11, n12, n13, v14⟩ := r1
 obtain ⟨r15, h16, h⟩ := bo h
 obtain ⟨l17, l18, l19, l20, l21, l22, l23, l24, n25, n26, n27, n28, v29⟩ := r15
 obtain ⟨r30, h31, h⟩ := bo h
 obtain ⟨r32, h33, h⟩ := bo h
 obtain ⟨r34, h35, h⟩ := bo h
 obtain ⟨l36, l37, l38, l39, l40, l41, l42, l43, n44, n45, n46, v47⟩ := r34
 obtain ⟨h48, h⟩|⟨h48, h⟩ := ite_out h
 ·obtain ⟨r49, h50, h⟩ := bo h
  obtain ⟨h51, h⟩|⟨h51, h⟩ := ite_out h
  ·obtain ⟨r52, h53, h⟩ := bo h
   obtain ⟨h54, h⟩|⟨h54, h⟩ := ite_out h
   ·obtain ⟨h55, h⟩|⟨h55, h⟩ := ite_out h
    ·obtain ⟨h56, h⟩|⟨h56, h⟩ := ite_out h
     ·obtain ⟨h57, h⟩|⟨h57, h⟩ := ite_out h
      ·obtain rfl := oi h; exact rf Tryz.func9 none [.obj [] (.w 56 [(⟨0, 0, (⟨#[97]⟩ : ByteArray), 0, 0⟩ : Api_Device)]), .obj [] (.w 3 [(1 : Int)]), .obj [1] (.w 88 [(⟨0, 0, (⟨#[114, 101, 100]⟩ : ByteArray), [], [(1 : Int)]⟩ : Api_Vrf)]), .obj [] (.w 90 [(⟨0, 10, 0, (-1), 0, []⟩ : Api_Domain)]), .obj [] (.w 3 [(1 : Int)]), .frz [0, 13, 14, 3, 15, 16, 2, 17, 18], .callm [] (.tup [.agg [.os 0 l3.length, .os 1 n11, .os 2 l5.length, .os 3 n12, .os 4 l7.length, .os 5 n13, .os 6 l9.length, .os 7 l10.length], .j v14]) [.w 56 l3, .arr 110 l4 n11 false, .w 174 l5, .arr 90 l6 n12 false, .w 178 l7, .arr 113 l8 n13 false, .w 88 l9, .w 105 l10], .frz [19, 20, 21, 22, 23, 24, 25, 26], .callm [] (.tup [.agg [.os 0 l17.length, .os 1 n25, .os 2 l19.length, .os 3 n26, .os 4 l21.length, .os 5 n27, .os 6 n28, .os 7 l24.length], .j v29]) [.w 56 l17, .arr 110 l18 n25 false, .w 174 l19, .arr 90 l20 n26 false, .w 178 l21, .arr 113 l22 n27 false, .arr 88 l23 n28 false, .w 105 l24], .callv (.v (.int .u64 r30)), .callv (.tup [.j r32.1, .y r32.2]), .frz [19, 20, 21, 22, 23, 24, 25, 26], .callm [] (.tup [.agg [.os 0 l36.length, .os 1 n44, .os 2 l38.length, .os 3 n45, .os 4 l40.length, .os 5 n46, .os 6 l42.length, .os 7 l43.length], .j v47]) [.w 56 l36, .arr 110 l37 n44 false, .w 174 l38, .arr 90 l39 n45 false, .w 178 l40, .arr 113 l41 n46 false, .w 88 l42, .w 105 l43], .t, .b r49, .t, .b r52, .t, .t, .t, .t] (pc (bs_ob 56 [(⟨0, 0, (⟨#[97]⟩ : ByteArray), 0, 0⟩ : Api_Device)])<|pc (bs_ob 3 [(1 : Int)])<|pc (bs_ob 88 [(⟨0, 0, (⟨#[114, 101, 100]⟩ : ByteArray), [], [(1 : Int)]⟩ : Api_Vrf)])<|pc (rn (List.length [(1 : Int)]))<|pc (bs_ob 90 [(⟨0, 10, 0, (-1), 0, []⟩ : Api_Domain)])<|pc (bs_ob 3 [(1 : Int)])<|pc (rn (List.length [(⟨0, 0, (⟨#[97]⟩ : ByteArray), 0, 0⟩ : Api_Device)]))<|pd (rn 0)<|pc (rn (List.length [(⟨0, 10, 0, (-1), 0, []⟩ : Api_Domain)]))<|pd (rn 0)<|pc (rn (List.length [(⟨0, 0, (⟨#[114, 101, 100]⟩ : ByteArray), [], [(1 : Int)]⟩ : Api_Vrf)]))<|pc (rn 0)<|pc (rn (List.length [(1 : Int)]))<|pc (k_vrfs_Vrf h2)<|pc (rn l3.length)<|pc (rn n11)<|pc (rn l5.length)<|pc (rn n12)<|pc (rn l7.length)<|pc (rn n13)<|pc (rn l9.length)<|pc (rn l10.length)<|pc (k_vrfs_Irb h16)<|pc (k_mac_Host h31)<|pc (k_vrfs_Router h33)<|pc (rn l17.length)<|pc (rn n25)<|pc (rn l19.length)<|pc (rn n26)<|pc (rn l21.length)<|pc (rn n27)<|pc (rn n28)<|pc (rn l24.length)<|pc (rn l3.length)<|pc (rn n11)<|pc (rn l5.length)<|pc (rn n12)<|pc (rn l7.length)<|pc (rn n13)<|pc (rn l9.length)<|pc (rn l10.length)<|pc (k_vrfs_Vrf h35)<|pc h48<|pc (k_vrfs_Leaks h50)<|pc (rn l3.length)<|pc (rn n11)<|pc (rn l5.length)<|pc (rn n12)<|pc (rn l7.length)<|pc (rn n13)<|pc (rn l9.length)<|pc (rn l10.length)<|pc h51<|pc (k_vrfs_Leaks h53)<|pc (rn l3.length)<|pc (rn n11)<|pc (rn l5.length)<|pc (rn n12)<|pc (rn l7.length)<|pc (rn n13)<|pc (rn l9.length)<|pc (rn l10.length)<|pc h54<|pc h55<|pc h56<|pc h57<|pn)
      ·exact absurd (hr.trans h.symm) (by decide)
     ·exact absurd (hr.trans h.symm) (by decide)
    ·exact absurd (hr.trans h.symm) (by decide)
   ·exact absurd (hr.trans h.symm) (by decide)
  ·exact absurd (hr.trans h.symm) (by decide)
 ·exact absurd (hr.trans h.symm) (by decide)

theorem k_palingref03_digits_L1 : LoopOK Tryz.prog UU 0 23 (subC (codeOf Tryz.f171) [1, 1, 0, 0, 0]) (fun s : Int × ByteArray => match s with | (v2, v3) => palingref03_digits_L1 v2 v3)
  (fun s : Int × ByteArray => (match s with | (v2, v3) => [(0, .v (.int .u64 v2)), (2, .e), (3, .x v3)] : Fr DD)) (fun s : Int × ByteArray => (match s with | (v2, v3) => [] : Heap DD)) (fun r => match r with | (v8, v9) => .exit 0) (fun r => match r with | (v8, v9) => [(0, .v (.int .u64 v8)), (2, .e), (3, .x v9)]) (fun r => match r with | (v8, v9) => []) := by
 refine loop_sound3 (fun s q h => ?_) (fun r => ?_)
 ·obtain ⟨v2, v3⟩ := s; replace h : palingref03_digits_L1 v2 v3 = some q := h
  unfold palingref03_digits_L1 at h
  obtain ⟨h4, h⟩|⟨h4, h⟩ := ite_out h
  ·obtain ⟨h5, h⟩|⟨h5, h⟩ := ite_out h
   ·obtain rfl := oi h; exact rl [0, 2, 3] [] [.t, .obj [] (.w 5 [(wr_u8 (wr_u64 (48 + (Int.tmod v2 10))) : Int)]), .callv (.v (.string (bstr [(wr_u8 (wr_u64 (48 + (Int.tmod v2 10))) : Int)])))] (pc h4<|pc (show (10 : Int) ≠ 0 from by decide)<|pc (bs_ob 5 [(wr_u8 (wr_u64 (48 + (Int.tmod v2 10))) : Int)])<|pc (cvb5 [(wr_u8 (wr_u64 (48 + (Int.tmod v2 10))) : Int)])<|pc (rn (List.length [(wr_u8 (wr_u64 (48 + (Int.tmod v2 10))) : Int)]))<|pc (of_decide_eq_true h5)<|pc (show (10 : Int) ≠ 0 from by decide)<|pn)
   ·cases h
  ·obtain rfl := oi h; exact rl [0, 2, 3] [] [.f] (pc h4<|pn)
 ·exact Ex.noConfusion

theorem k_palingref03_digits {a1 : Int} {r : ByteArray} (h : palingref03_digits a1 = some r) :
  CallsOK Tryz.prog UU 171 [.v (.int .u64 a1)] [] (.x r) [] := by
 unfold palingref03_digits at h
 obtain ⟨r11, h10, h⟩ := bo h
 obtain ⟨v8, v9⟩ := r11
 obtain ⟨h12, h⟩|⟨h12, h⟩ := ite_out h
 ·obtain rfl := oi h; exact rf Tryz.func171 none [.sum [0, 2, 3] [] (.exit 0) [(0, .v (.int .u64 v8)), (2, .e), (3, .x v9)] [], .obj [] (.w 5 [(wr_u8 (wr_u64 (48 + v8)) : Int)]), .callv (.v (.string (bstr [(wr_u8 (wr_u64 (48 + v8)) : Int)])))] (pc (k_palingref03_digits_L1 _ _ h10)<|pc (bs_ob 5 [(wr_u8 (wr_u64 (48 + v8)) : Int)])<|pc (cvb5 [(wr_u8 (wr_u64 (48 + v8)) : Int)])<|pc (rn (List.length [(wr_u8 (wr_u64 (48 + v8)) : Int)]))<|pc (of_decide_eq_true h12)<|pn)
 ·cases h

theorem k_palingref03_Text {a1 : Int} {r : ByteArray} (h : palingref03_Text a1 = some r) :
  CallsOK Tryz.prog UU 93 [.j a1] [] (.x r) [] := by
 unfold palingref03_Text at h
 obtain ⟨h2, h⟩|⟨h2, h⟩ := ite_out h
 ·obtain ⟨r3, h4, h⟩ := bo h
  obtain ⟨h5, h⟩|⟨h5, h⟩ := ite_out h
  ·obtain rfl := oi h; exact rf Tryz.func93 none [.t, .callv (.x r3)] (pc h2<|pc (k_palingref03_digits h4)<|pc (of_decide_eq_true h5)<|pn)
  ·cases h
 ·obtain ⟨r6, h7, h⟩ := bo h
  obtain rfl := oi h; exact rf Tryz.func93 none [.f, .callv (.x r6)] (pc h2<|pc (k_palingref03_digits h7)<|pn)

theorem k_palingref01_Bytes_L2 {a1 : Int} {l2 : List Int} {v3 : Int} : LoopOK Tryz.prog UU 0 26 (subC (codeOf Tryz.f255) [1, 1, 0, 1, 0, 0, 1, 0, 0, 1, 0, 1, 0, 0]) (fun s : Int × Int => match s with | (v5, v6) => palingref01_Bytes_L2 a1 l2 v3 v5 v6)
  (fun s : Int × Int => (match s with | (v5, v6) => [(0, .v (.int .u64 a1)), (2, .os 0 0), (3, .os 1 l2.length), (4, .j v3), (5, .v (.int .u64 v5)), (6, .j v6)] : Fr DD)) (fun s : Int × Int => (match s with | (v5, v6) => [.n 5, .w 5 l2] : Heap DD)) (fun r => match r with | v9 => .exit 2) (fun r => match r with | v9 => [(0, .v (.int .u64 a1)), (2, .os 0 0), (3, .os 1 l2.length), (4, .j v3), (5, .v (.int .u64 v9))]) (fun r => match r with | v9 => [.n 5, .w 5 l2]) := by
 refine loop_sound3 (fun s q h => ?_) (fun r => ?_)
 ·obtain ⟨v5, v6⟩ := s; replace h : palingref01_Bytes_L2 a1 l2 v3 v5 v6 = some q := h
  unfold palingref01_Bytes_L2 at h
  obtain ⟨h7, h⟩|⟨h7, h⟩ := ite_out h
  ·obtain rfl := oi h; exact rl [0, 2, 3, 4, 5, 6] [0, 1] [.t] (pc h7<|pc (show (256 : Int) ≠ 0 from by decide)<|pn)
  ·obtain rfl := oi h; exact rl [0, 2, 3, 4, 5] [0, 1] [.f] (pc h7<|pn)
 ·exact Ex.noConfusion

theorem k_palingref01_Bytes_L1 {a1 : Int} : LoopOK Tryz.prog UU 0 26 (subC (codeOf Tryz.f255) [1, 1, 0, 1, 0, 0]) (fun s : (List Int) × Int => match s with | (l2, v3) => palingref01_Bytes_L1 a1 l2 v3)
  (fun s : (List Int) × Int => (match s with | (l2, v3) => [(0, .v (.int .u64 a1)), (2, .os 0 0), (3, .os 1 l2.length), (4, .j v3)] : Fr DD)) (fun s : (List Int) × Int => (match s with | (l2, v3) => [.n 5, .w 5 l2] : Heap DD)) (fun r => match r with | l15 => .exit 0) (fun r => match r with | l15 => [(2, .os 0 0), (3, .os 1 l15.length)]) (fun r => match r with | l15 => [.n 5, .w 5 l15]) := by
 refine loop_sound3 (fun s q h => ?_) (fun r => ?_)
 ·obtain ⟨l2, v3⟩ := s; replace h : palingref01_Bytes_L1 a1 l2 v3 = some q := h
  unfold palingref01_Bytes_L1 at h
  obtain ⟨h4, h⟩|⟨h4, h⟩ := ite_out h
  ·obtain ⟨v9, h10, h⟩ := bo h
   obtain ⟨h12, h⟩|⟨h12, h⟩ := ite_out h
   ·obtain rfl := oi h; exact rl [0, 2, 3, 4] [0, 1] [.t, .sum [0, 2, 3, 4, 5, 6] [0, 1] (.exit 2) [(0, .v (.int .u64 a1)), (2, .os 0 0), (3, .os 1 l2.length), (4, .j v3), (5, .v (.int .u64 v9))] [.n 5, .w 5 l2], .obj [] (.w 5 [(wr_u8 (Int.tmod v9 256) : Int)]), .obj [] (.w 5 (l2 ++ [(wr_u8 (Int.tmod v9 256) : Int)]))] (pc h4<|pc (k_palingref01_Bytes_L2 _ _ h10)<|pc (show (256 : Int) ≠ 0 from by decide)<|pc (bs_ob 5 [(wr_u8 (Int.tmod v9 256) : Int)])<|pc (app_ob 5 (n := l2.length) (l := l2) (xs := [(wr_u8 (Int.tmod v9 256) : Int)]) h12)<|pc (rn (List.length [(wr_u8 (Int.tmod v9 256) : Int)]))<|pn)
   ·cases h
  ·obtain rfl := oi h; exact rl [2, 3] [0, 1] [.f] (pc h4<|pn)
 ·exact Ex.noConfusion

theorem k_palingref01_Bytes {a1 : Int} {r : ((List Int))} (h : palingref01_Bytes a1 = some r) :
  CallsOK Tryz.prog UU 255 [.v (.int .u64 a1)] [] ((fun r => match r with | l18 => .os 0 l18.length) r) ((fun r => match r with | l18 => [.w 5 l18]) r) := by
 unfold palingref01_Bytes at h
 obtain ⟨l15, h16, h⟩ := bo h
 obtain rfl := oi h; exact rf Tryz.func255 (some [1]) [.sum [0, 2, 3, 4] [0, 1] (.exit 0) [(2, .os 0 0), (3, .os 1 l15.length)] [.n 5, .w 5 l15]] (pc (k_palingref01_Bytes_L1 _ _ h16)<|pn)

theorem k_palingref01_Text_J2 {l4 : List Int} {v5 : ByteArray} {v6 : Int} {r : ByteArray} (h : palingref01_Text_J2 l4 v5 v6 = some r) :
  ExecOK Tryz.prog UU 0 47 (subC (codeOf Tryz.f227) [1, 1, 1, 1, 0, 1, 0, 0, 1, 0, 0, 0]) [(2, .e), (3, .v (.string (⟨#[48, 49, 50, 51, 52, 53, 54, 55, 56, 57, 97, 98, 99, 100, 101, 102]⟩ : ByteArray))), (4, .os 0 l4.length), (5, .x v5), (6, .j v6)] [.w 5 l4] ((fun r => match r with | v11 => .nor) r) ((fun r => match r with | v11 => [(2, .e), (3, .v (.string (⟨#[48, 49, 50, 51, 52, 53, 54, 55, 56, 57, 97, 98, 99, 100, 101, 102]⟩ : ByteArray))), (4, .os 0 l4.length), (5, .x v11), (6, .j v6)]) r) ((fun r => match r with | v11 => [.w 5 l4]) r) := by
 unfold palingref01_Text_J2 at h
 obtain ⟨h8, h⟩|⟨h8, h⟩ := ite_out h
 ·obtain ⟨h9, h⟩|⟨h9, h⟩ := ite_out h
  ·obtain rfl := oi h; exact rl [2, 3, 4, 5, 6] [0] [.t] (pc h8<|pc (of_decide_eq_true h9)<|pn)
  ·cases h
 ·obtain rfl := oi h; exact rl [2, 3, 4, 5, 6] [0] [.f] (pc h8<|pn)

theorem k_palingref01_Text_L1 {l4 : List Int} : LoopOK Tryz.prog UU 0 47 (subC (codeOf Tryz.f227) [1, 1, 1, 1, 0, 1, 0, 0]) (fun s : ByteArray × Int => match s with | (v5, v6) => palingref01_Text_L1 l4 v5 v6)
  (fun s : ByteArray × Int => (match s with | (v5, v6) => [(2, .e), (3, .v (.string (⟨#[48, 49, 50, 51, 52, 53, 54, 55, 56, 57, 97, 98, 99, 100, 101, 102]⟩ : ByteArray))), (4, .os 0 l4.length), (5, .x v5), (6, .j v6)] : Fr DD)) (fun s : ByteArray × Int => (match s with | (v5, v6) => [.w 5 l4] : Heap DD)) (fun r => match r with | v28 => .exit 0) (fun r => match r with | v28 => [(2, .e), (5, .x v28)]) (fun r => match r with | v28 => []) := by
 refine loop_sound3 (fun s q h => ?_) (fun r => ?_)
 ·obtain ⟨v5, v6⟩ := s; replace h : palingref01_Text_L1 l4 v5 v6 = some q := h
  unfold palingref01_Text_L1 at h
  obtain ⟨h7, h⟩|⟨h7, h⟩ := ite_out h
  ·obtain ⟨v11, h12, h⟩ := bo h
   obtain ⟨h14, h⟩|⟨h14, h⟩ := ite_out h
   ·obtain ⟨x15, h16, h⟩ := bo h
    obtain ⟨x17, h18, h⟩ := bo h
    obtain ⟨h19, h⟩|⟨h19, h⟩ := ite_out h
    ·obtain ⟨h20, h⟩|⟨h20, h⟩ := ite_out h
     ·obtain ⟨x21, h22, h⟩ := bo h
      obtain ⟨x23, h24, h⟩ := bo h
      obtain ⟨h25, h⟩|⟨h25, h⟩ := ite_out h
      ·obtain ⟨h26, h⟩|⟨h26, h⟩ := ite_out h
       ·obtain rfl := oi h; exact rl [2, 3, 4, 5, 6] [0] [.t, .skp, .cut [2, 3, 4, 5, 6] [0] .nor [(2, .e), (3, .v (.string (⟨#[48, 49, 50, 51, 52, 53, 54, 55, 56, 57, 97, 98, 99, 100, 101, 102]⟩ : ByteArray))), (4, .os 0 l4.length), (5, .x v11), (6, .j v6)] [.w 5 l4], .row (c5 x15), .row (c5 x17), .row (c5 x21), .row (c5 x23)] (pc h7<|pc (k_palingref01_Text_J2 h12)<|pc (an l4.length (lin_ob h14))<|pc (an l4.length (obn5 h16))<|pc (show (16 : Int) ≠ 0 from by decide)<|pc (an l4.length (lin_ob h14))<|pc (an l4.length (obn5 h18))<|pc (show (16 : Int) ≠ 0 from by decide)<|pc (sl_ob h19)<|pc (of_decide_eq_true h20)<|pc (an l4.length (lin_ob h14))<|pc (an l4.length (obn5 h22))<|pc (show (16 : Int) ≠ 0 from by decide)<|pc (an l4.length (lin_ob h14))<|pc (an l4.length (obn5 h24))<|pc (show (16 : Int) ≠ 0 from by decide)<|pc (sl_ob h25)<|pc (of_decide_eq_true h26)<|pn)
       ·cases h
      ·cases h
     ·cases h
    ·cases h
   ·cases h
  ·obtain rfl := oi h; exact rl [2, 5] [] [.f] (pc h7<|pn)
 ·exact Ex.noConfusion

theorem k_palingref01_Text {a1 : Int} {r : ByteArray} (h : palingref01_Text a1 = some r) :
  CallsOK Tryz.prog UU 227 [.v (.int .u64 a1)] [] (.x r) [] := by
 unfold palingref01_Text at h
 obtain ⟨l4, h3, h⟩ := bo h
 obtain ⟨v28, h29, h⟩ := bo h
 obtain rfl := oi h; exact rf Tryz.func227 none [.callo (.os 0 l4.length) [.w 5 l4], .sum [2, 3, 4, 5, 6] [0] (.exit 0) [(2, .e), (5, .x v28)] []] (pc (k_palingref01_Bytes h3)<|pc (im5 l4)<|pc (k_palingref01_Text_L1 _ _ h29)<|pn)

theorem k_palingref03_ListText_L1 {a1 : List Int} : LoopOK Tryz.prog UU 0 23 (subC (codeOf Tryz.f256) [1, 1, 0, 1, 0, 0]) (fun s : ByteArray × Int => match s with | (v2, v3) => palingref03_ListText_L1 a1 v2 v3)
  (fun s : ByteArray × Int => (match s with | (v2, v3) => [(0, .sl 3 a1), (2, .e), (3, .x v2), (4, .j v3)] : Fr DD)) (fun s : ByteArray × Int => (match s with | (v2, v3) => [] : Heap DD)) (fun r => match r with | v18 => .exit 0) (fun r => match r with | v18 => [(2, .e), (3, .x v18)]) (fun r => match r with | v18 => []) := by
 refine loop_sound3 (fun s q h => ?_) (fun r => ?_)
 ·obtain ⟨v2, v3⟩ := s; replace h : palingref03_ListText_L1 a1 v2 v3 = some q := h
  unfold palingref03_ListText_L1 at h
  obtain ⟨h4, h⟩|⟨h4, h⟩ := ite_out h
  ·obtain ⟨h5, h⟩|⟨h5, h⟩ := ite_out h
   ·obtain ⟨h6, h⟩|⟨h6, h⟩ := ite_out h
    ·obtain ⟨x7, h8, h⟩ := bo h
     obtain ⟨r9, h10, h⟩ := bo h
     obtain ⟨h11, h⟩|⟨h11, h⟩ := ite_out h
     ·obtain rfl := oi h; exact rl [0, 2, 3, 4] [] [.t, .t, .row (c3 x7), .callv (.x r9)] (pc h4<|pc h5<|pc (of_decide_eq_true h6)<|pc (ob3 h8)<|pc (k_palingref03_Text h10)<|pc (of_decide_eq_true h11)<|pn)
     ·cases h
    ·cases h
   ·obtain ⟨x12, h13, h⟩ := bo h
    obtain ⟨r14, h15, h⟩ := bo h
    obtain ⟨h16, h⟩|⟨h16, h⟩ := ite_out h
    ·obtain rfl := oi h; exact rl [0, 2, 3, 4] [] [.t, .f, .row (c3 x12), .callv (.x r14)] (pc h4<|pc h5<|pc (ob3 h13)<|pc (k_palingref03_Text h15)<|pc (of_decide_eq_true h16)<|pn)
    ·cases h
  ·obtain rfl := oi h; exact rl [2, 3] [] [.f] (pc h4<|pn)
 ·exact Ex.noConfusion

theorem k_palingref03_ListText {a1 : List Int} {r : ByteArray} (h : palingref03_ListText a1 = some r) :
  CallsOK Tryz.prog UU 256 [.sl 3 a1] [] (.x r) [] := by
 unfold palingref03_ListText at h
 obtain ⟨v18, h19, h⟩ := bo h
 obtain rfl := oi h; exact rf Tryz.func256 none [.sum [0, 2, 3, 4] [] (.exit 0) [(2, .e), (3, .x v18)] []] (pc (k_palingref03_ListText_L1 _ _ h19)<|pn)

theorem k_palingref11_spell {a1 : List Int} {r : ByteArray} (h : palingref11_spell a1 = some r) :
  CallsOK Tryz.prog UU 228 [.sl 3 a1] [] (.x r) [] := by
 unfold palingref11_spell at h
 obtain ⟨h2, h⟩|⟨h2, h⟩ := ite_out h
 ·obtain rfl := oi h; exact rf Tryz.func228 none [.t] (pc h2<|pn)
 ·obtain ⟨r3, h4, h⟩ := bo h
  obtain rfl := oi h; exact rf Tryz.func228 none [.f, .callv (.x r3)] (pc h2<|pc (k_palingref03_ListText h4)<|pn)

theorem k_palingref02_number_L1 : LoopOK Tryz.prog UU 0 23 (subC (codeOf Tryz.f257) [1, 1, 0, 0, 0]) (fun s : Int × ByteArray => match s with | (v2, v3) => palingref02_number_L1 v2 v3)
  (fun s : Int × ByteArray => (match s with | (v2, v3) => [(0, .j v2), (2, .e), (3, .x v3)] : Fr DD)) (fun s : Int × ByteArray => (match s with | (v2, v3) => [] : Heap DD)) (fun r => match r with | (v8, v9) => .exit 0) (fun r => match r with | (v8, v9) => [(0, .j v8), (2, .e), (3, .x v9)]) (fun r => match r with | (v8, v9) => []) := by
 refine loop_sound3 (fun s q h => ?_) (fun r => ?_)
 ·obtain ⟨v2, v3⟩ := s; replace h : palingref02_number_L1 v2 v3 = some q := h
  unfold palingref02_number_L1 at h
  obtain ⟨h4, h⟩|⟨h4, h⟩ := ite_out h
  ·obtain ⟨h5, h⟩|⟨h5, h⟩ := ite_out h
   ·obtain rfl := oi h; exact rl [0, 2, 3] [] [.t, .obj [] (.w 5 [(wr_u8 (wr_i64 (48 + (Int.tmod v2 10))) : Int)]), .callv (.v (.string (bstr [(wr_u8 (wr_i64 (48 + (Int.tmod v2 10))) : Int)])))] (pc h4<|pc (show (10 : Int) ≠ 0 from by decide)<|pc (bs_ob 5 [(wr_u8 (wr_i64 (48 + (Int.tmod v2 10))) : Int)])<|pc (cvb5 [(wr_u8 (wr_i64 (48 + (Int.tmod v2 10))) : Int)])<|pc (rn (List.length [(wr_u8 (wr_i64 (48 + (Int.tmod v2 10))) : Int)]))<|pc (of_decide_eq_true h5)<|pc (show (10 : Int) ≠ 0 from by decide)<|pn)
   ·cases h
  ·obtain rfl := oi h; exact rl [0, 2, 3] [] [.f] (pc h4<|pn)
 ·exact Ex.noConfusion

theorem k_palingref02_number {a1 : Int} {r : ByteArray} (h : palingref02_number a1 = some r) :
  CallsOK Tryz.prog UU 257 [.j a1] [] (.x r) [] := by
 unfold palingref02_number at h
 obtain ⟨r11, h10, h⟩ := bo h
 obtain ⟨v8, v9⟩ := r11
 obtain ⟨h12, h⟩|⟨h12, h⟩ := ite_out h
 ·obtain rfl := oi h; exact rf Tryz.func257 none [.sum [0, 2, 3] [] (.exit 0) [(0, .j v8), (2, .e), (3, .x v9)] [], .obj [] (.w 5 [(wr_u8 (wr_i64 (48 + v8)) : Int)]), .callv (.v (.string (bstr [(wr_u8 (wr_i64 (48 + v8)) : Int)])))] (pc (k_palingref02_number_L1 _ _ h10)<|pc (bs_ob 5 [(wr_u8 (wr_i64 (48 + v8)) : Int)])<|pc (cvb5 [(wr_u8 (wr_i64 (48 + v8)) : Int)])<|pc (rn (List.length [(wr_u8 (wr_i64 (48 + v8)) : Int)]))<|pc (of_decide_eq_true h12)<|pn)
 ·cases h

theorem k_palingref02_Text {a1 : Int} {r : ByteArray} (h : palingref02_Text a1 = some r) :
  CallsOK Tryz.prog UU 229 [.v (.int .u32 a1)] [] (.x r) [] := by
 unfold palingref02_Text at h
 obtain ⟨r2, h3, h⟩ := bo h
 obtain ⟨h4, h⟩|⟨h4, h⟩ := ite_out h
 ·obtain ⟨r5, h6, h⟩ := bo h
  obtain ⟨h7, h⟩|⟨h7, h⟩ := ite_out h
  ·obtain ⟨h8, h⟩|⟨h8, h⟩ := ite_out h
   ·obtain ⟨r9, h10, h⟩ := bo h
    obtain ⟨h11, h⟩|⟨h11, h⟩ := ite_out h
    ·obtain ⟨h12, h⟩|⟨h12, h⟩ := ite_out h
     ·obtain ⟨r13, h14, h⟩ := bo h
      obtain ⟨h15, h⟩|⟨h15, h⟩ := ite_out h
      ·obtain rfl := oi h; exact rf Tryz.func229 none [.callv (.x r2), .callv (.x r5), .callv (.x r9), .callv (.x r13)] (pc (show (16777216 : Int) ≠ 0 from by decide)<|pc (k_palingref02_number h3)<|pc (of_decide_eq_true h4)<|pc (show (65536 : Int) ≠ 0 from by decide)<|pc (show (256 : Int) ≠ 0 from by decide)<|pc (k_palingref02_number h6)<|pc (of_decide_eq_true h7)<|pc (of_decide_eq_true h8)<|pd (show (256 : Int) ≠ 0 from by decide)<|pc (k_palingref02_number h10)<|pc (of_decide_eq_true h11)<|pc (of_decide_eq_true h12)<|pc (show (256 : Int) ≠ 0 from by decide)<|pc (k_palingref02_number h14)<|pc (of_decide_eq_true h15)<|pn)
      ·cases h
     ·cases h
    ·cases h
   ·cases h
  ·cases h
 ·cases h

theorem k_palingref03_AddrsText_L1 {a1 : List Int} : LoopOK Tryz.prog UU 0 23 (subC (codeOf Tryz.f230) [1, 1, 0, 1, 0, 0]) (fun s : ByteArray × Int => match s with | (v2, v3) => palingref03_AddrsText_L1 a1 v2 v3)
  (fun s : ByteArray × Int => (match s with | (v2, v3) => [(0, .sl 33 a1), (2, .e), (3, .x v2), (4, .j v3)] : Fr DD)) (fun s : ByteArray × Int => (match s with | (v2, v3) => [] : Heap DD)) (fun r => match r with | v18 => .exit 0) (fun r => match r with | v18 => [(2, .e), (3, .x v18)]) (fun r => match r with | v18 => []) := by
 refine loop_sound3 (fun s q h => ?_) (fun r => ?_)
 ·obtain ⟨v2, v3⟩ := s; replace h : palingref03_AddrsText_L1 a1 v2 v3 = some q := h
  unfold palingref03_AddrsText_L1 at h
  obtain ⟨h4, h⟩|⟨h4, h⟩ := ite_out h
  ·obtain ⟨h5, h⟩|⟨h5, h⟩ := ite_out h
   ·obtain ⟨h6, h⟩|⟨h6, h⟩ := ite_out h
    ·obtain ⟨x7, h8, h⟩ := bo h
     obtain ⟨r9, h10, h⟩ := bo h
     obtain ⟨h11, h⟩|⟨h11, h⟩ := ite_out h
     ·obtain rfl := oi h; exact rl [0, 2, 3, 4] [] [.t, .t, .row (c33 x7), .callv (.x r9)] (pc h4<|pc h5<|pc (of_decide_eq_true h6)<|pc (ob33 h8)<|pc (k_palingref02_Text h10)<|pc (of_decide_eq_true h11)<|pn)
     ·cases h
    ·cases h
   ·obtain ⟨x12, h13, h⟩ := bo h
    obtain ⟨r14, h15, h⟩ := bo h
    obtain ⟨h16, h⟩|⟨h16, h⟩ := ite_out h
    ·obtain rfl := oi h; exact rl [0, 2, 3, 4] [] [.t, .f, .row (c33 x12), .callv (.x r14)] (pc h4<|pc h5<|pc (ob33 h13)<|pc (k_palingref02_Text h15)<|pc (of_decide_eq_true h16)<|pn)
    ·cases h
  ·obtain rfl := oi h; exact rl [2, 3] [] [.f] (pc h4<|pn)
 ·exact Ex.noConfusion

theorem k_palingref03_AddrsText {a1 : List Int} {r : ByteArray} (h : palingref03_AddrsText a1 = some r) :
  CallsOK Tryz.prog UU 230 [.sl 33 a1] [] (.x r) [] := by
 unfold palingref03_AddrsText at h
 obtain ⟨v18, h19, h⟩ := bo h
 obtain rfl := oi h; exact rf Tryz.func230 none [.sum [0, 2, 3, 4] [] (.exit 0) [(2, .e), (3, .x v18)] []] (pc (k_palingref03_AddrsText_L1 _ _ h19)<|pn)

theorem k_palingref02_Right {a1 : Api_Prefix} {r : Bool} (h : palingref02_Right a1 = some r) :
  CallsOK Tryz.prog UU 189 [.agg (c103 a1)] [] (.y r) [] := by
 unfold palingref02_Right at h
 obtain ⟨h2, h⟩|⟨h2, h⟩ := ite_out h
 ·obtain rfl := oi h; exact rf Tryz.func189 none [.t] (pc h2<|pn)
 ·obtain rfl := oi h; exact rf Tryz.func189 none [.f] (pc h2<|pn)

theorem k_palingref02_PrefixText {a1 : Api_Prefix} {r : ByteArray} (h : palingref02_PrefixText a1 = some r) :
  CallsOK Tryz.prog UU 231 [.agg (c103 a1)] [] (.x r) [] := by
 unfold palingref02_PrefixText at h
 obtain ⟨r2, h3, h⟩ := bo h
 obtain ⟨h4, h⟩|⟨h4, h⟩ := ite_out h
 ·obtain rfl := oi h; exact rf Tryz.func231 none [.b r2, .t] (pc (k_palingref02_Right h3)<|pc h4<|pn)
 ·obtain ⟨r5, h6, h⟩ := bo h
  obtain ⟨h7, h⟩|⟨h7, h⟩ := ite_out h
  ·obtain ⟨r8, h9, h⟩ := bo h
   obtain ⟨h10, h⟩|⟨h10, h⟩ := ite_out h
   ·obtain rfl := oi h; exact rf Tryz.func231 none [.b r2, .f, .callv (.x r5), .callv (.x r8)] (pc (k_palingref02_Right h3)<|pc h4<|pc (k_palingref02_Text h6)<|pc (of_decide_eq_true h7)<|pc (k_palingref02_number h9)<|pc (of_decide_eq_true h10)<|pn)
   ·cases h
  ·cases h

theorem k_palingref11_Words {a1 : Api_Line} {r : ((List ByteArray))} (h : palingref11_Words a1 = some r) :
  CallsOK Tryz.prog UU 185 [.agg (c37 a1)] [] ((fun r => match r with | l35 => .os 0 l35.length) r) ((fun r => match r with | l35 => [.w 9 l35]) r) := by
 unfold palingref11_Words at h
 obtain ⟨r2, h3, h⟩ := bo h
 obtain ⟨r4, h5, h⟩ := bo h
 obtain ⟨r6, h7, h⟩ := bo h
 obtain ⟨h8, h⟩|⟨h8, h⟩ := ite_out h
 ·obtain rfl := oi h; exact rf Tryz.func185 (some [2]) [.callv (.x r2), .callv (.x r4), .callv (.x r6), .t, .obj [] (.w 9 [(⟨#[100, 101, 118, 105, 99, 101]⟩ : ByteArray), a1.dev, r4, r6])] (pc (k_palingref03_Text h3)<|pc (k_palingref03_Text h5)<|pc (k_palingref01_Text h7)<|pc h8<|pc (bs_ob 9 [(⟨#[100, 101, 118, 105, 99, 101]⟩ : ByteArray), a1.dev, r4, r6])<|pn)
 ·obtain ⟨h9, h⟩|⟨h9, h⟩ := ite_out h
  ·obtain ⟨r10, h11, h⟩ := bo h
   obtain ⟨h12, h⟩|⟨h12, h⟩ := ite_out h
   ·obtain rfl := oi h; exact rf Tryz.func185 (some [2]) [.callv (.x r2), .callv (.x r4), .callv (.x r6), .f, .t, .callv (.x r10), .t, .obj [] (.w 9 [(⟨#[112, 111, 114, 116]⟩ : ByteArray), a1.dev, a1.port, r10, (⟨#[97, 99, 99, 101, 115, 115]⟩ : ByteArray), r2])] (pc (k_palingref03_Text h3)<|pc (k_palingref03_Text h5)<|pc (k_palingref01_Text h7)<|pc h8<|pc h9<|pc (k_palingref03_Text h11)<|pc h12<|pc (bs_ob 9 [(⟨#[112, 111, 114, 116]⟩ : ByteArray), a1.dev, a1.port, r10, (⟨#[97, 99, 99, 101, 115, 115]⟩ : ByteArray), r2])<|pn)
   ·obtain ⟨h13, h⟩|⟨h13, h⟩ := ite_out h
    ·obtain ⟨r14, h15, h⟩ := bo h
     obtain rfl := oi h; exact rf Tryz.func185 (some [2]) [.callv (.x r2), .callv (.x r4), .callv (.x r6), .f, .t, .callv (.x r10), .f, .t, .callv (.x r14), .obj [] (.w 9 [(⟨#[112, 111, 114, 116]⟩ : ByteArray), a1.dev, a1.port, r10, (⟨#[116, 114, 117, 110, 107]⟩ : ByteArray), (⟨#[45]⟩ : ByteArray), r14])] (pc (k_palingref03_Text h3)<|pc (k_palingref03_Text h5)<|pc (k_palingref01_Text h7)<|pc h8<|pc h9<|pc (k_palingref03_Text h11)<|pc h12<|pc h13<|pc (k_palingref11_spell h15)<|pc (bs_ob 9 [(⟨#[112, 111, 114, 116]⟩ : ByteArray), a1.dev, a1.port, r10, (⟨#[116, 114, 117, 110, 107]⟩ : ByteArray), (⟨#[45]⟩ : ByteArray), r14])<|pn)
    ·obtain ⟨r16, h17, h⟩ := bo h
     obtain rfl := oi h; exact rf Tryz.func185 (some [2]) [.callv (.x r2), .callv (.x r4), .callv (.x r6), .f, .t, .callv (.x r10), .f, .f, .callv (.x r16), .obj [] (.w 9 [(⟨#[112, 111, 114, 116]⟩ : ByteArray), a1.dev, a1.port, r10, (⟨#[116, 114, 117, 110, 107]⟩ : ByteArray), r2, r16])] (pc (k_palingref03_Text h3)<|pc (k_palingref03_Text h5)<|pc (k_palingref01_Text h7)<|pc h8<|pc h9<|pc (k_palingref03_Text h11)<|pc h12<|pc h13<|pc (k_palingref11_spell h17)<|pc (bs_ob 9 [(⟨#[112, 111, 114, 116]⟩ : ByteArray), a1.dev, a1.port, r10, (⟨#[116, 114, 117, 110, 107]⟩ : ByteArray), r2, r16])<|pn)
  ·obtain ⟨h18, h⟩|⟨h18, h⟩ := ite_out h
   ·obtain rfl := oi h; exact rf Tryz.func185 (some [2]) [.callv (.x r2), .callv (.x r4), .callv (.x r6), .f, .f, .t, .obj [] (.w 9 [(⟨#[108, 105, 110, 107]⟩ : ByteArray), a1.dev, a1.port, a1.peer, a1.far])] (pc (k_palingref03_Text h3)<|pc (k_palingref03_Text h5)<|pc (k_palingref01_Text h7)<|pc h8<|pc h9<|pc h18<|pc (bs_ob 9 [(⟨#[108, 105, 110, 107]⟩ : ByteArray), a1.dev, a1.port, a1.peer, a1.far])<|pn)
   ·obtain ⟨h19, h⟩|⟨h19, h⟩ := ite_out h
    ·obtain rfl := oi h; exact rf Tryz.func185 (some [2]) [.callv (.x r2), .callv (.x r4), .callv (.x r6), .f, .f, .f, .t, .obj [] (.w 9 [(⟨#[115, 116, 97, 116, 105, 99]⟩ : ByteArray), a1.dev, r2, r6, a1.port])] (pc (k_palingref03_Text h3)<|pc (k_palingref03_Text h5)<|pc (k_palingref01_Text h7)<|pc h8<|pc h9<|pc h18<|pc h19<|pc (bs_ob 9 [(⟨#[115, 116, 97, 116, 105, 99]⟩ : ByteArray), a1.dev, r2, r6, a1.port])<|pn)
    ·obtain ⟨h20, h⟩|⟨h20, h⟩ := ite_out h
     ·obtain ⟨r21, h22, h⟩ := bo h
      obtain rfl := oi h; exact rf Tryz.func185 (some [2]) [.callv (.x r2), .callv (.x r4), .callv (.x r6), .f, .f, .f, .f, .t, .callv (.x r21), .obj [] (.w 9 [(⟨#[118, 116, 101, 112]⟩ : ByteArray), a1.dev, r21])] (pc (k_palingref03_Text h3)<|pc (k_palingref03_Text h5)<|pc (k_palingref01_Text h7)<|pc h8<|pc h9<|pc h18<|pc h19<|pc h20<|pc (k_palingref02_Text h22)<|pc (bs_ob 9 [(⟨#[118, 116, 101, 112]⟩ : ByteArray), a1.dev, r21])<|pn)
     ·obtain ⟨h23, h⟩|⟨h23, h⟩ := ite_out h
      ·obtain rfl := oi h; exact rf Tryz.func185 (some [2]) [.callv (.x r2), .callv (.x r4), .callv (.x r6), .f, .f, .f, .f, .f, .t, .obj [] (.w 9 [(⟨#[118, 110, 105]⟩ : ByteArray), a1.dev, r2, r4])] (pc (k_palingref03_Text h3)<|pc (k_palingref03_Text h5)<|pc (k_palingref01_Text h7)<|pc h8<|pc h9<|pc h18<|pc h19<|pc h20<|pc h23<|pc (bs_ob 9 [(⟨#[118, 110, 105]⟩ : ByteArray), a1.dev, r2, r4])<|pn)
      ·obtain ⟨h24, h⟩|⟨h24, h⟩ := ite_out h
       ·obtain ⟨r25, h26, h⟩ := bo h
        obtain rfl := oi h; exact rf Tryz.func185 (some [2]) [.callv (.x r2), .callv (.x r4), .callv (.x r6), .f, .f, .f, .f, .f, .f, .t, .callv (.x r25), .obj [] (.w 9 [(⟨#[102, 108, 111, 111, 100]⟩ : ByteArray), a1.dev, r4, r25])] (pc (k_palingref03_Text h3)<|pc (k_palingref03_Text h5)<|pc (k_palingref01_Text h7)<|pc h8<|pc h9<|pc h18<|pc h19<|pc h20<|pc h23<|pc h24<|pc (k_palingref03_AddrsText h26)<|pc (bs_ob 9 [(⟨#[102, 108, 111, 111, 100]⟩ : ByteArray), a1.dev, r4, r25])<|pn)
       ·obtain ⟨h27, h⟩|⟨h27, h⟩ := ite_out h
        ·obtain ⟨r28, h29, h⟩ := bo h
         obtain ⟨r30, h31, h⟩ := bo h
         obtain rfl := oi h; exact rf Tryz.func185 (some [2]) [.callv (.x r2), .callv (.x r4), .callv (.x r6), .f, .f, .f, .f, .f, .f, .f, .t, .callv (.x r28), .callv (.x r30), .obj [] (.w 9 [(⟨#[118, 114, 102]⟩ : ByteArray), a1.dev, a1.name, r28, r30])] (pc (k_palingref03_Text h3)<|pc (k_palingref03_Text h5)<|pc (k_palingref01_Text h7)<|pc h8<|pc h9<|pc h18<|pc h19<|pc h20<|pc h23<|pc h24<|pc h27<|pc (k_palingref11_spell h29)<|pc (k_palingref11_spell h31)<|pc (bs_ob 9 [(⟨#[118, 114, 102]⟩ : ByteArray), a1.dev, a1.name, r28, r30])<|pn)
        ·obtain ⟨h32, h⟩|⟨h32, h⟩ := ite_out h
         ·obtain ⟨r33, h34, h⟩ := bo h
          obtain rfl := oi h; exact rf Tryz.func185 (some [2]) [.callv (.x r2), .callv (.x r4), .callv (.x r6), .f, .f, .f, .f, .f, .f, .f, .f, .t, .callv (.x r33), .obj [] (.w 9 [(⟨#[105, 114, 98]⟩ : ByteArray), a1.dev, r2, a1.name, r33])] (pc (k_palingref03_Text h3)<|pc (k_palingref03_Text h5)<|pc (k_palingref01_Text h7)<|pc h8<|pc h9<|pc h18<|pc h19<|pc h20<|pc h23<|pc h24<|pc h27<|pc h32<|pc (k_palingref02_PrefixText h34)<|pc (bs_ob 9 [(⟨#[105, 114, 98]⟩ : ByteArray), a1.dev, r2, a1.name, r33])<|pn)
         ·obtain rfl := oi h; exact rf Tryz.func185 (some [2]) [.callv (.x r2), .callv (.x r4), .callv (.x r6), .f, .f, .f, .f, .f, .f, .f, .f, .f] (pc (k_palingref03_Text h3)<|pc (k_palingref03_Text h5)<|pc (k_palingref01_Text h7)<|pc h8<|pc h9<|pc h18<|pc h19<|pc h20<|pc h23<|pc h24<|pc h27<|pc h32<|pn)

theorem k_palingref11_form {a1 : List ByteArray} {r : ByteArray} (h : palingref11_form a1 = some r) :
  CallsOK Tryz.prog UU 223 [.sl 9 a1] [] (.x r) [] := by
 unfold palingref11_form at h
 obtain ⟨h2, h⟩|⟨h2, h⟩ := ite_out h
 ·obtain rfl := oi h; exact rf Tryz.func223 none [.t] (pc h2<|pn)
 ·obtain ⟨x3, h4, h⟩ := bo h
  obtain ⟨h5, h⟩|⟨h5, h⟩ := ite_out h
  ·obtain rfl := oi h; exact rf Tryz.func223 none [.f, .row (c9 x3), .t] (pc h2<|pc (ob9 h4)<|pc h5<|pn)
  ·obtain ⟨h6, h⟩|⟨h6, h⟩ := ite_out h
   ·obtain rfl := oi h; exact rf Tryz.func223 none [.f, .row (c9 x3), .f, .t] (pc h2<|pc (ob9 h4)<|pc h5<|pc h6<|pn)
   ·obtain ⟨h7, h⟩|⟨h7, h⟩ := ite_out h
    ·obtain rfl := oi h; exact rf Tryz.func223 none [.f, .row (c9 x3), .f, .f, .t] (pc h2<|pc (ob9 h4)<|pc h5<|pc h6<|pc h7<|pn)
    ·obtain ⟨h8, h⟩|⟨h8, h⟩ := ite_out h
     ·obtain rfl := oi h; exact rf Tryz.func223 none [.f, .row (c9 x3), .f, .f, .f, .t] (pc h2<|pc (ob9 h4)<|pc h5<|pc h6<|pc h7<|pc h8<|pn)
     ·obtain ⟨h9, h⟩|⟨h9, h⟩ := ite_out h
      ·obtain rfl := oi h; exact rf Tryz.func223 none [.f, .row (c9 x3), .f, .f, .f, .f, .t] (pc h2<|pc (ob9 h4)<|pc h5<|pc h6<|pc h7<|pc h8<|pc h9<|pn)
      ·obtain ⟨h10, h⟩|⟨h10, h⟩ := ite_out h
       ·obtain rfl := oi h; exact rf Tryz.func223 none [.f, .row (c9 x3), .f, .f, .f, .f, .f, .t] (pc h2<|pc (ob9 h4)<|pc h5<|pc h6<|pc h7<|pc h8<|pc h9<|pc h10<|pn)
       ·obtain ⟨h11, h⟩|⟨h11, h⟩ := ite_out h
        ·obtain rfl := oi h; exact rf Tryz.func223 none [.f, .row (c9 x3), .f, .f, .f, .f, .f, .f, .t] (pc h2<|pc (ob9 h4)<|pc h5<|pc h6<|pc h7<|pc h8<|pc h9<|pc h10<|pc h11<|pn)
        ·obtain ⟨h12, h⟩|⟨h12, h⟩ := ite_out h
         ·obtain rfl := oi h; exact rf Tryz.func223 none [.f, .row (c9 x3), .f, .f, .f, .f, .f, .f, .f, .t] (pc h2<|pc (ob9 h4)<|pc h5<|pc h6<|pc h7<|pc h8<|pc h9<|pc h10<|pc h11<|pc h12<|pn)
         ·obtain ⟨h13, h⟩|⟨h13, h⟩ := ite_out h
          ·obtain ⟨h14, h⟩|⟨h14, h⟩ := ite_out h
           ·obtain ⟨x15, h16, h⟩ := bo h
            obtain ⟨h17, h⟩|⟨h17, h⟩ := ite_out h
            ·obtain rfl := oi h; exact rf Tryz.func223 none [.f, .row (c9 x3), .f, .f, .f, .f, .f, .f, .f, .f, .t, .t, .row (c9 x15), .t] (pc h2<|pc (ob9 h4)<|pc h5<|pc h6<|pc h7<|pc h8<|pc h9<|pc h10<|pc h11<|pc h12<|pc h13<|pc h14<|pc (ob9 h16)<|pc h17<|pn)
            ·obtain ⟨h18, h⟩|⟨h18, h⟩ := ite_out h
             ·obtain ⟨x19, h20, h⟩ := bo h
              obtain ⟨h21, h⟩|⟨h21, h⟩ := ite_out h
              ·obtain rfl := oi h; exact rf Tryz.func223 none [.f, .row (c9 x3), .f, .f, .f, .f, .f, .f, .f, .f, .t, .t, .row (c9 x15), .f, .t, .row (c9 x19), .t] (pc h2<|pc (ob9 h4)<|pc h5<|pc h6<|pc h7<|pc h8<|pc h9<|pc h10<|pc h11<|pc h12<|pc h13<|pc h14<|pc (ob9 h16)<|pc h17<|pc h18<|pc (ob9 h20)<|pc h21<|pn)
              ·obtain rfl := oi h; exact rf Tryz.func223 none [.f, .row (c9 x3), .f, .f, .f, .f, .f, .f, .f, .f, .t, .t, .row (c9 x15), .f, .t, .row (c9 x19), .f] (pc h2<|pc (ob9 h4)<|pc h5<|pc h6<|pc h7<|pc h8<|pc h9<|pc h10<|pc h11<|pc h12<|pc h13<|pc h14<|pc (ob9 h16)<|pc h17<|pc h18<|pc (ob9 h20)<|pc h21<|pn)
             ·obtain rfl := oi h; exact rf Tryz.func223 none [.f, .row (c9 x3), .f, .f, .f, .f, .f, .f, .f, .f, .t, .t, .row (c9 x15), .f, .f] (pc h2<|pc (ob9 h4)<|pc h5<|pc h6<|pc h7<|pc h8<|pc h9<|pc h10<|pc h11<|pc h12<|pc h13<|pc h14<|pc (ob9 h16)<|pc h17<|pc h18<|pn)
           ·obtain ⟨h22, h⟩|⟨h22, h⟩ := ite_out h
            ·obtain ⟨x23, h24, h⟩ := bo h
             obtain ⟨h25, h⟩|⟨h25, h⟩ := ite_out h
             ·obtain rfl := oi h; exact rf Tryz.func223 none [.f, .row (c9 x3), .f, .f, .f, .f, .f, .f, .f, .f, .t, .f, .t, .row (c9 x23), .t] (pc h2<|pc (ob9 h4)<|pc h5<|pc h6<|pc h7<|pc h8<|pc h9<|pc h10<|pc h11<|pc h12<|pc h13<|pc h14<|pc h22<|pc (ob9 h24)<|pc h25<|pn)
             ·obtain rfl := oi h; exact rf Tryz.func223 none [.f, .row (c9 x3), .f, .f, .f, .f, .f, .f, .f, .f, .t, .f, .t, .row (c9 x23), .f] (pc h2<|pc (ob9 h4)<|pc h5<|pc h6<|pc h7<|pc h8<|pc h9<|pc h10<|pc h11<|pc h12<|pc h13<|pc h14<|pc h22<|pc (ob9 h24)<|pc h25<|pn)
            ·obtain rfl := oi h; exact rf Tryz.func223 none [.f, .row (c9 x3), .f, .f, .f, .f, .f, .f, .f, .f, .t, .f, .f] (pc h2<|pc (ob9 h4)<|pc h5<|pc h6<|pc h7<|pc h8<|pc h9<|pc h10<|pc h11<|pc h12<|pc h13<|pc h14<|pc h22<|pn)
          ·obtain rfl := oi h; exact rf Tryz.func223 none [.f, .row (c9 x3), .f, .f, .f, .f, .f, .f, .f, .f, .f] (pc h2<|pc (ob9 h4)<|pc h5<|pc h6<|pc h7<|pc h8<|pc h9<|pc h10<|pc h11<|pc h12<|pc h13<|pn)

theorem k_palingref11_kind_L1 {a1 : ByteArray} : LoopOK Tryz.prog UU 0 19 (subC (codeOf Tryz.f224) [1, 1, 0, 1, 0, 0]) (ρ := Int ⊕ Unit) (palingref11_kind_L1 a1)
  (fun v2 : Int => ([(0, .x a1), (2, .z), (3, .os 0 (List.length [(⟨#[]⟩ : ByteArray), (⟨#[100, 101, 118, 105, 99, 101]⟩ : ByteArray), (⟨#[112, 111, 114, 116]⟩ : ByteArray), (⟨#[108, 105, 110, 107]⟩ : ByteArray), (⟨#[115, 116, 97, 116, 105, 99]⟩ : ByteArray), (⟨#[118, 116, 101, 112]⟩ : ByteArray), (⟨#[118, 110, 105]⟩ : ByteArray), (⟨#[102, 108, 111, 111, 100]⟩ : ByteArray), (⟨#[118, 114, 102]⟩ : ByteArray), (⟨#[105, 114, 98]⟩ : ByteArray)])), (4, .j v2)] : Fr DD)) (fun v2 : Int => ([.w 9 [(⟨#[]⟩ : ByteArray), (⟨#[100, 101, 118, 105, 99, 101]⟩ : ByteArray), (⟨#[112, 111, 114, 116]⟩ : ByteArray), (⟨#[108, 105, 110, 107]⟩ : ByteArray), (⟨#[115, 116, 97, 116, 105, 99]⟩ : ByteArray), (⟨#[118, 116, 101, 112]⟩ : ByteArray), (⟨#[118, 110, 105]⟩ : ByteArray), (⟨#[102, 108, 111, 111, 100]⟩ : ByteArray), (⟨#[118, 114, 102]⟩ : ByteArray), (⟨#[105, 114, 98]⟩ : ByteArray)]] : Heap DD)) (fun r => match r with | Sum.inl v9 => .ret | Sum.inr _ => .exit 0) (fun r => match r with | Sum.inl v9 => [(2, .j v9)] | Sum.inr _ => [(2, .z)]) (fun r => match r with | Sum.inl v9 => [] | Sum.inr _ => []) := by
 refine loop_sound3 (fun s q h => ?_) (fun r => ?_)
 ·replace h : palingref11_kind_L1 a1 s = some q := h; revert h; revert s; intro v2 h
  unfold palingref11_kind_L1 at h
  obtain ⟨h3, h⟩|⟨h3, h⟩ := ite_out h
  ·obtain ⟨h4, h⟩|⟨h4, h⟩ := ite_out h
   ·obtain ⟨x5, h6, h⟩ := bo h
    obtain ⟨h7, h⟩|⟨h7, h⟩ := ite_out h
    ·obtain rfl := oi h; exact rl [2] [] [.t, .row (c9 x5), .t] (pc (rn (List.length [(⟨#[]⟩ : ByteArray), (⟨#[100, 101, 118, 105, 99, 101]⟩ : ByteArray), (⟨#[112, 111, 114, 116]⟩ : ByteArray), (⟨#[108, 105, 110, 107]⟩ : ByteArray), (⟨#[115, 116, 97, 116, 105, 99]⟩ : ByteArray), (⟨#[118, 116, 101, 112]⟩ : ByteArray), (⟨#[118, 110, 105]⟩ : ByteArray), (⟨#[102, 108, 111, 111, 100]⟩ : ByteArray), (⟨#[118, 114, 102]⟩ : ByteArray), (⟨#[105, 114, 98]⟩ : ByteArray)]))<|pc h3<|pc (an (List.length [(⟨#[]⟩ : ByteArray), (⟨#[100, 101, 118, 105, 99, 101]⟩ : ByteArray), (⟨#[112, 111, 114, 116]⟩ : ByteArray), (⟨#[108, 105, 110, 107]⟩ : ByteArray), (⟨#[115, 116, 97, 116, 105, 99]⟩ : ByteArray), (⟨#[118, 116, 101, 112]⟩ : ByteArray), (⟨#[118, 110, 105]⟩ : ByteArray), (⟨#[102, 108, 111, 111, 100]⟩ : ByteArray), (⟨#[118, 114, 102]⟩ : ByteArray), (⟨#[105, 114, 98]⟩ : ByteArray)]) (lin_ob h4))<|pc (an (List.length [(⟨#[]⟩ : ByteArray), (⟨#[100, 101, 118, 105, 99, 101]⟩ : ByteArray), (⟨#[112, 111, 114, 116]⟩ : ByteArray), (⟨#[108, 105, 110, 107]⟩ : ByteArray), (⟨#[115, 116, 97, 116, 105, 99]⟩ : ByteArray), (⟨#[118, 116, 101, 112]⟩ : ByteArray), (⟨#[118, 110, 105]⟩ : ByteArray), (⟨#[102, 108, 111, 111, 100]⟩ : ByteArray), (⟨#[118, 114, 102]⟩ : ByteArray), (⟨#[105, 114, 98]⟩ : ByteArray)]) (obn9 h6))<|pc h7<|pn)
    ·obtain rfl := oi h; exact rl [0, 2, 3, 4] [0] [.t, .row (c9 x5), .f] (pc (rn (List.length [(⟨#[]⟩ : ByteArray), (⟨#[100, 101, 118, 105, 99, 101]⟩ : ByteArray), (⟨#[112, 111, 114, 116]⟩ : ByteArray), (⟨#[108, 105, 110, 107]⟩ : ByteArray), (⟨#[115, 116, 97, 116, 105, 99]⟩ : ByteArray), (⟨#[118, 116, 101, 112]⟩ : ByteArray), (⟨#[118, 110, 105]⟩ : ByteArray), (⟨#[102, 108, 111, 111, 100]⟩ : ByteArray), (⟨#[118, 114, 102]⟩ : ByteArray), (⟨#[105, 114, 98]⟩ : ByteArray)]))<|pc h3<|pc (an (List.length [(⟨#[]⟩ : ByteArray), (⟨#[100, 101, 118, 105, 99, 101]⟩ : ByteArray), (⟨#[112, 111, 114, 116]⟩ : ByteArray), (⟨#[108, 105, 110, 107]⟩ : ByteArray), (⟨#[115, 116, 97, 116, 105, 99]⟩ : ByteArray), (⟨#[118, 116, 101, 112]⟩ : ByteArray), (⟨#[118, 110, 105]⟩ : ByteArray), (⟨#[102, 108, 111, 111, 100]⟩ : ByteArray), (⟨#[118, 114, 102]⟩ : ByteArray), (⟨#[105, 114, 98]⟩ : ByteArray)]) (lin_ob h4))<|pc (an (List.length [(⟨#[]⟩ : ByteArray), (⟨#[100, 101, 118, 105, 99, 101]⟩ : ByteArray), (⟨#[112, 111, 114, 116]⟩ : ByteArray), (⟨#[108, 105, 110, 107]⟩ : ByteArray), (⟨#[115, 116, 97, 116, 105, 99]⟩ : ByteArray), (⟨#[118, 116, 101, 112]⟩ : ByteArray), (⟨#[118, 110, 105]⟩ : ByteArray), (⟨#[102, 108, 111, 111, 100]⟩ : ByteArray), (⟨#[118, 114, 102]⟩ : ByteArray), (⟨#[105, 114, 98]⟩ : ByteArray)]) (obn9 h6))<|pc h7<|pn)
   ·cases h
  ·obtain rfl := oi h; exact rl [2] [] [.f] (pc (rn (List.length [(⟨#[]⟩ : ByteArray), (⟨#[100, 101, 118, 105, 99, 101]⟩ : ByteArray), (⟨#[112, 111, 114, 116]⟩ : ByteArray), (⟨#[108, 105, 110, 107]⟩ : ByteArray), (⟨#[115, 116, 97, 116, 105, 99]⟩ : ByteArray), (⟨#[118, 116, 101, 112]⟩ : ByteArray), (⟨#[118, 110, 105]⟩ : ByteArray), (⟨#[102, 108, 111, 111, 100]⟩ : ByteArray), (⟨#[118, 114, 102]⟩ : ByteArray), (⟨#[105, 114, 98]⟩ : ByteArray)]))<|pc h3<|pn)
 ·rcases r with _ | _ <;> exact Ex.noConfusion

theorem k_palingref11_kind {a1 : ByteArray} {r : Int} (h : palingref11_kind a1 = some r) :
  CallsOK Tryz.prog UU 224 [.x a1] [] (.j r) [] := by
 unfold palingref11_kind at h
 obtain ⟨r11, h10, h⟩ := bo h
 rcases r11 with v9 | _
 ·obtain rfl := oi h; exact rf Tryz.func224 none [.obj [] (.w 9 [(⟨#[]⟩ : ByteArray), (⟨#[100, 101, 118, 105, 99, 101]⟩ : ByteArray), (⟨#[112, 111, 114, 116]⟩ : ByteArray), (⟨#[108, 105, 110, 107]⟩ : ByteArray), (⟨#[115, 116, 97, 116, 105, 99]⟩ : ByteArray), (⟨#[118, 116, 101, 112]⟩ : ByteArray), (⟨#[118, 110, 105]⟩ : ByteArray), (⟨#[102, 108, 111, 111, 100]⟩ : ByteArray), (⟨#[118, 114, 102]⟩ : ByteArray), (⟨#[105, 114, 98]⟩ : ByteArray)]), .sum [0, 2, 3, 4] [0] .ret [(2, .j v9)] []] (pc (bs_ob 9 [(⟨#[]⟩ : ByteArray), (⟨#[100, 101, 118, 105, 99, 101]⟩ : ByteArray), (⟨#[112, 111, 114, 116]⟩ : ByteArray), (⟨#[108, 105, 110, 107]⟩ : ByteArray), (⟨#[115, 116, 97, 116, 105, 99]⟩ : ByteArray), (⟨#[118, 116, 101, 112]⟩ : ByteArray), (⟨#[118, 110, 105]⟩ : ByteArray), (⟨#[102, 108, 111, 111, 100]⟩ : ByteArray), (⟨#[118, 114, 102]⟩ : ByteArray), (⟨#[105, 114, 98]⟩ : ByteArray)])<|pc (k_palingref11_kind_L1 _ _ h10)<|pn)
 ·obtain rfl := oi h; exact rf Tryz.func224 none [.obj [] (.w 9 [(⟨#[]⟩ : ByteArray), (⟨#[100, 101, 118, 105, 99, 101]⟩ : ByteArray), (⟨#[112, 111, 114, 116]⟩ : ByteArray), (⟨#[108, 105, 110, 107]⟩ : ByteArray), (⟨#[115, 116, 97, 116, 105, 99]⟩ : ByteArray), (⟨#[118, 116, 101, 112]⟩ : ByteArray), (⟨#[118, 110, 105]⟩ : ByteArray), (⟨#[102, 108, 111, 111, 100]⟩ : ByteArray), (⟨#[118, 114, 102]⟩ : ByteArray), (⟨#[105, 114, 98]⟩ : ByteArray)]), .sum [0, 2, 3, 4] [0] (.exit 0) [(2, .z)] []] (pc (bs_ob 9 [(⟨#[]⟩ : ByteArray), (⟨#[100, 101, 118, 105, 99, 101]⟩ : ByteArray), (⟨#[112, 111, 114, 116]⟩ : ByteArray), (⟨#[108, 105, 110, 107]⟩ : ByteArray), (⟨#[115, 116, 97, 116, 105, 99]⟩ : ByteArray), (⟨#[118, 116, 101, 112]⟩ : ByteArray), (⟨#[118, 110, 105]⟩ : ByteArray), (⟨#[102, 108, 111, 111, 100]⟩ : ByteArray), (⟨#[118, 114, 102]⟩ : ByteArray), (⟨#[105, 114, 98]⟩ : ByteArray)])<|pc (k_palingref11_kind_L1 _ _ h10)<|pn)

theorem k_palingref03_Name_L1 {a1 : ByteArray} : LoopOK Tryz.prog UU 0 50 (subC (codeOf Tryz.f169) [1, 1, 0, 1, 0, 0]) (ρ := Unit ⊕ Unit) (palingref03_Name_L1 a1)
  (fun v7 : Int => ([(0, .x a1), (2, .y false), (3, .j v7)] : Fr DD)) (fun v7 : Int => ([] : Heap DD)) (fun r => match r with | Sum.inl _ => .ret | Sum.inr _ => .exit 0) (fun r => match r with | Sum.inl _ => [(2, .y false)] | Sum.inr _ => [(2, .y false)]) (fun r => match r with | Sum.inl _ => [] | Sum.inr _ => []) := by
 refine loop_sound3 (fun s q h => ?_) (fun r => ?_)
 ·replace h : palingref03_Name_L1 a1 s = some q := h; revert h; revert s; intro v7 h
  unfold palingref03_Name_L1 at h
  obtain ⟨h8, h⟩|⟨h8, h⟩ := ite_out h
  ·obtain ⟨h9, h⟩|⟨h9, h⟩ := ite_out h
   ·obtain ⟨h10, h⟩|⟨h10, h⟩ := ite_out h
    ·obtain ⟨h11, h⟩|⟨h11, h⟩ := ite_out h
     ·obtain rfl := oi h; exact rl [2] [] [.t, .t, .t] (pc h8<|pc (of_decide_eq_true h9)<|pc h10<|pc (of_decide_eq_true h9)<|pc h11<|pn)
     ·obtain ⟨h12, h⟩|⟨h12, h⟩ := ite_out h
      ·obtain rfl := oi h; exact rl [2] [] [.t, .t, .f, .t] (pc h8<|pc (of_decide_eq_true h9)<|pc h10<|pc (of_decide_eq_true h9)<|pc h11<|pc (of_decide_eq_true h9)<|pc h12<|pn)
      ·obtain rfl := oi h; exact rl [0, 2, 3] [] [.t, .t, .f, .f] (pc h8<|pc (of_decide_eq_true h9)<|pc h10<|pc (of_decide_eq_true h9)<|pc h11<|pc (of_decide_eq_true h9)<|pc h12<|pn)
    ·obtain ⟨h13, h⟩|⟨h13, h⟩ := ite_out h
     ·obtain ⟨h14, h⟩|⟨h14, h⟩ := ite_out h
      ·obtain rfl := oi h; exact rl [2] [] [.t, .f, .t, .t] (pc h8<|pc (of_decide_eq_true h9)<|pc h10<|pc (of_decide_eq_true h9)<|pc h13<|pc (of_decide_eq_true h9)<|pc h14<|pn)
      ·obtain ⟨h15, h⟩|⟨h15, h⟩ := ite_out h
       ·obtain rfl := oi h; exact rl [2] [] [.t, .f, .t, .f, .t] (pc h8<|pc (of_decide_eq_true h9)<|pc h10<|pc (of_decide_eq_true h9)<|pc h13<|pc (of_decide_eq_true h9)<|pc h14<|pc (of_decide_eq_true h9)<|pc h15<|pn)
       ·obtain rfl := oi h; exact rl [0, 2, 3] [] [.t, .f, .t, .f, .f] (pc h8<|pc (of_decide_eq_true h9)<|pc h10<|pc (of_decide_eq_true h9)<|pc h13<|pc (of_decide_eq_true h9)<|pc h14<|pc (of_decide_eq_true h9)<|pc h15<|pn)
     ·obtain rfl := oi h; exact rl [0, 2, 3] [] [.t, .f, .f] (pc h8<|pc (of_decide_eq_true h9)<|pc h10<|pc (of_decide_eq_true h9)<|pc h13<|pn)
   ·cases h
  ·obtain rfl := oi h; exact rl [2] [] [.f] (pc h8<|pn)
 ·rcases r with _ | _ <;> exact Ex.noConfusion

theorem k_palingref03_Name {a1 : ByteArray} {r : Bool} (h : palingref03_Name a1 = some r) :
  CallsOK Tryz.prog UU 169 [.x a1] [] (.y r) [] := by
 unfold palingref03_Name at h
 obtain ⟨h2, h⟩|⟨h2, h⟩ := ite_out h
 ·obtain rfl := oi h; exact rf Tryz.func169 none [.t] (pc h2<|pn)
 ·obtain ⟨h3, h⟩|⟨h3, h⟩ := ite_out h
  ·obtain rfl := oi h; exact rf Tryz.func169 none [.f, .t] (pc h2<|pc h3<|pn)
  ·obtain ⟨h4, h⟩|⟨h4, h⟩ := ite_out h
   ·obtain ⟨h5, h⟩|⟨h5, h⟩ := ite_out h
    ·obtain rfl := oi h; exact rf Tryz.func169 none [.f, .f, .t] (pc h2<|pc h3<|pc (of_decide_eq_true h4)<|pc h5<|pn)
    ·obtain ⟨h6, h⟩|⟨h6, h⟩ := ite_out h
     ·obtain rfl := oi h; exact rf Tryz.func169 none [.f, .f, .f, .t] (pc h2<|pc h3<|pc (of_decide_eq_true h4)<|pc h5<|pc (of_decide_eq_true h4)<|pc h6<|pn)
     ·obtain ⟨r17, h16, h⟩ := bo h
      rcases r17 with _ | _
      ·obtain rfl := oi h; exact rf Tryz.func169 none [.f, .f, .f, .f, .sum [0, 2, 3] [] .ret [(2, .y false)] []] (pc h2<|pc h3<|pc (of_decide_eq_true h4)<|pc h5<|pc (of_decide_eq_true h4)<|pc h6<|pc (k_palingref03_Name_L1 _ _ h16)<|pn)
      ·obtain rfl := oi h; exact rf Tryz.func169 none [.f, .f, .f, .f, .sum [0, 2, 3] [] (.exit 0) [(2, .y false)] []] (pc h2<|pc h3<|pc (of_decide_eq_true h4)<|pc h5<|pc (of_decide_eq_true h4)<|pc h6<|pc (k_palingref03_Name_L1 _ _ h16)<|pn)
   ·cases h

theorem k_palingref11_name_own_J1 {a1 : ByteArray} {a2 : Int} {a3 : Int} {a4 : Int} {a5 : ByteArray} {a6 : ByteArray} {a7 : ByteArray} {a8 : ByteArray} {a9 : ByteArray} {a10 : Int} {a11 : Int} {a12 : Int} {a13 : Int} {a14 : Int} {a15 : Int} {a16 : List Int} {a17 : List Int} {a18 : List Int} {a19 : List Int} {r : ByteArray} (h : palingref11_name_own_J1 a1 a2 a3 a4 a5 a6 a7 a8 a9 a10 a11 a12 a13 a14 a15 a16 a17 a18 a19 = some r) :
  ExecOK Tryz.prog UU 5 46 (subC (codeOf Tryz.f246) [1, 1, 0]) [(0, .x a1), (1, .j a2), (2, .o 0)] [.box 37 [.j a3, .j a4, .x a5, .x a6, .x a7, .x a8, .x a9, .v (.int .u64 a10), .v (.int .u32 a11), .j a12, .j a13, .j a14, .j a15, .os 1 a16.length, .os 2 a17.length, .os 3 a18.length, .os 4 a19.length] false, .w 3 a16, .w 3 a17, .w 3 a18, .w 33 a19] ((fun r => match r with | v27 => .nor) r) ((fun r => match r with | v27 => [(0, .x a1), (1, .j a2), (2, .o 0)]) r) ((fun r => match r with | v27 => [.box 37 [.j a3, .j a4, .x a5, .x v27, .x a7, .x a8, .x a9, .v (.int .u64 a10), .v (.int .u32 a11), .j a12, .j a13, .j a14, .j a15, .os 1 a16.length, .os 2 a17.length, .os 3 a18.length, .os 4 a19.length] false, .w 3 a16, .w 3 a17, .w 3 a18, .w 33 a19]) r) := by
 unfold palingref11_name_own_J1 at h
 obtain ⟨h23, h⟩|⟨h23, h⟩ := ite_out h
 ·obtain rfl := oi h; exact rl [0, 1, 2] [0, 1, 2, 3, 4] [.t] (pc h23<|pn)
 ·obtain rfl := oi h; exact rl [0, 1, 2] [0, 1, 2, 3, 4] [.f] (pc h23<|pn)

theorem k_palingref11_name_own {a1 : ByteArray} {a2 : Int} {a3 : Int} {a4 : Int} {a5 : ByteArray} {a6 : ByteArray} {a7 : ByteArray} {a8 : ByteArray} {a9 : ByteArray} {a10 : Int} {a11 : Int} {a12 : Int} {a13 : Int} {a14 : Int} {a15 : Int} {a16 : List Int} {a17 : List Int} {a18 : List Int} {a19 : List Int} {r : (ByteArray × ByteArray × ByteArray × ByteArray × ByteArray)} (h : palingref11_name_own a1 a2 a3 a4 a5 a6 a7 a8 a9 a10 a11 a12 a13 a14 a15 a16 a17 a18 a19 = some r) :
  CallsOK Tryz.prog UU 246 [.x a1, .j a2, .o 0] [.box 37 [.j a3, .j a4, .x a5, .x a6, .x a7, .x a8, .x a9, .v (.int .u64 a10), .v (.int .u32 a11), .j a12, .j a13, .j a14, .j a15, .os 1 a16.length, .os 2 a17.length, .os 3 a18.length, .os 4 a19.length] false, .w 3 a16, .w 3 a17, .w 3 a18, .w 33 a19] ((fun r => match r with | (v33, v34, v35, v36, v37) => .tup []) r) ((fun r => match r with | (v33, v34, v35, v36, v37) => [.box 37 [.j a3, .j a4, .x v33, .x v34, .x v35, .x v36, .x v37, .v (.int .u64 a10), .v (.int .u32 a11), .j a12, .j a13, .j a14, .j a15, .os 1 a16.length, .os 2 a17.length, .os 3 a18.length, .os 4 a19.length] false, .w 3 a16, .w 3 a17, .w 3 a18, .w 33 a19]) r) := by
 unfold palingref11_name_own at h
 obtain ⟨h20, h⟩|⟨h20, h⟩ := ite_out h
 ·obtain rfl := oi h; exact rf Tryz.func246 (some [0, 1, 2, 3, 4]) [.t] (pc h20<|pn)
 ·obtain ⟨h21, h⟩|⟨h21, h⟩ := ite_out h
  ·obtain rfl := oi h; exact rf Tryz.func246 (some [0, 1, 2, 3, 4]) [.f, .t] (pc h20<|pc h21<|pn)
  ·obtain ⟨h22, h⟩|⟨h22, h⟩ := ite_out h
   ·obtain rfl := oi h; exact rf Tryz.func246 (some [0, 1, 2, 3, 4]) [.f, .f, .t] (pc h20<|pc h21<|pc h22<|pn)
   ·obtain ⟨v27, h28, h⟩ := bo h
    obtain ⟨h30, h⟩|⟨h30, h⟩ := ite_out h
    ·obtain ⟨h31, h⟩|⟨h31, h⟩ := ite_out h
     ·obtain rfl := oi h; exact rf Tryz.func246 (some [0, 1, 2, 3, 4]) [.f, .f, .f, .cut [0, 1, 2] [0, 1, 2, 3, 4] .nor [(0, .x a1), (1, .j a2), (2, .o 0)] [.box 37 [.j a3, .j a4, .x a5, .x v27, .x a7, .x a8, .x a9, .v (.int .u64 a10), .v (.int .u32 a11), .j a12, .j a13, .j a14, .j a15, .os 1 a16.length, .os 2 a17.length, .os 3 a18.length, .os 4 a19.length] false, .w 3 a16, .w 3 a17, .w 3 a18, .w 33 a19], .t, .t] (pc h20<|pc h21<|pc h22<|pc (k_palingref11_name_own_J1 h28)<|pc h30<|pc h31<|pn)
     ·obtain rfl := oi h; exact rf Tryz.func246 (some [0, 1, 2, 3, 4]) [.f, .f, .f, .cut [0, 1, 2] [0, 1, 2, 3, 4] .nor [(0, .x a1), (1, .j a2), (2, .o 0)] [.box 37 [.j a3, .j a4, .x a5, .x v27, .x a7, .x a8, .x a9, .v (.int .u64 a10), .v (.int .u32 a11), .j a12, .j a13, .j a14, .j a15, .os 1 a16.length, .os 2 a17.length, .os 3 a18.length, .os 4 a19.length] false, .w 3 a16, .w 3 a17, .w 3 a18, .w 33 a19], .t, .f] (pc h20<|pc h21<|pc h22<|pc (k_palingref11_name_own_J1 h28)<|pc h30<|pc h31<|pn)
    ·obtain ⟨h32, h⟩|⟨h32, h⟩ := ite_out h
     ·obtain rfl := oi h; exact rf Tryz.func246 (some [0, 1, 2, 3, 4]) [.f, .f, .f, .cut [0, 1, 2] [0, 1, 2, 3, 4] .nor [(0, .x a1), (1, .j a2), (2, .o 0)] [.box 37 [.j a3, .j a4, .x a5, .x v27, .x a7, .x a8, .x a9, .v (.int .u64 a10), .v (.int .u32 a11), .j a12, .j a13, .j a14, .j a15, .os 1 a16.length, .os 2 a17.length, .os 3 a18.length, .os 4 a19.length] false, .w 3 a16, .w 3 a17, .w 3 a18, .w 33 a19], .f, .t] (pc h20<|pc h21<|pc h22<|pc (k_palingref11_name_own_J1 h28)<|pc h30<|pc h32<|pn)
     ·obtain rfl := oi h; exact rf Tryz.func246 (some [0, 1, 2, 3, 4]) [.f, .f, .f, .cut [0, 1, 2] [0, 1, 2, 3, 4] .nor [(0, .x a1), (1, .j a2), (2, .o 0)] [.box 37 [.j a3, .j a4, .x a5, .x v27, .x a7, .x a8, .x a9, .v (.int .u64 a10), .v (.int .u32 a11), .j a12, .j a13, .j a14, .j a15, .os 1 a16.length, .os 2 a17.length, .os 3 a18.length, .os 4 a19.length] false, .w 3 a16, .w 3 a17, .w 3 a18, .w 33 a19], .f, .f] (pc h20<|pc h21<|pc h22<|pc (k_palingref11_name_own_J1 h28)<|pc h30<|pc h32<|pn)

end Go.Eng
