/- Part of the proof of OverlayPuts: printed mirrors of the functions, or their contracts. No conditions. -/
import Derived.Test.YtgohlmiaddkkeaaGreatMAK4
set_option linter.unusedVariables false
set_option maxRecDepth 100000
namespace Go.Eng
open Go Go.Proofs
theorem k_palinglaw19_works {r : Bool} (h : palinglaw19_works = some r) :
  CallsOK Tryz.prog UU 12 [] [] (.y r) [] := by
 have hr : some true = some r := (by kernel_rfl : palinglaw19_works = some true).symm.trans h
 unfold palinglaw19_works at h
 obtain ⟨r1, h2, h⟩ := bo h
 obtain ⟨l3, l4, l5, l6, l7, l8, l9, l10, n11, n12, n13, v14⟩ := r1
 obtain ⟨r15, h16, h⟩ := bo h
 obtain ⟨l17, l18, l19, l20, l21, l22, l23, l24, n25, n26, n27, n28, v29, v30⟩ := r15
 obtain ⟨r31, h32, h⟩ := bo h
 obtain ⟨l33, l34, l35, l36, l37, l38, l39, l40, n41, n42, n43, v44⟩ := r31
 obtain ⟨r45, h46, h⟩ := bo h
 obtain ⟨l47, l48, l49, l50, l51, l52, l53, l54, n55, n56, n57, n58, v59, v60⟩ := r45
 obtain ⟨h61, h⟩|⟨h61, h⟩ := ite_out h
 ·obtain ⟨h62, h⟩|⟨h62, h⟩ := ite_out h
  ·obtain ⟨h63, h⟩|⟨h63, h⟩ := ite_out h
   ·obtain ⟨h64, h⟩|⟨h64, h⟩ := ite_out h
    ·obtain ⟨h65, h⟩|⟨h65, h⟩ := ite_out h
     ·obtain ⟨h66, h⟩|⟨h66, h⟩ := ite_out h
      ·obtain ⟨h67, h⟩|⟨h67, h⟩ := ite_out h
       ·obtain ⟨x68, h69, h⟩ := bo h
        obtain ⟨h70, h⟩|⟨h70, h⟩ := ite_out h
        ·obtain ⟨x71, h72, h⟩ := bo h
         obtain ⟨x73, h74, h⟩ := bo h
         obtain rfl := oi h; exact rf Tryz.func12 none [.obj [] (.w 56 [(⟨0, 0, (⟨#[97]⟩ : ByteArray), 0, 1⟩ : Api_Device), (⟨0, 0, (⟨#[98]⟩ : ByteArray), 0, 2⟩ : Api_Device)]), .obj [] (.w 50 [(⟨0, 10, 5010, (-1), 0, []⟩ : Api_Domain), (⟨1, 10, 5010, (-1), 0, []⟩ : Api_Domain)]), .obj [] (.w 33 [(2 : Int)]), .frz [0, 11, 12, 1, 13, 14, 15, 16, 17], .callm [] (.tup [.agg [.os 0 l3.length, .os 1 n11, .os 2 l5.length, .os 3 n12, .os 4 l7.length, .os 5 l8.length, .os 6 n13, .os 7 l10.length], .j v14]) [.w 56 l3, .arr 66 l4 n11 false, .w 93 l5, .arr 50 l6 n12 false, .w 95 l7, .w 72 l8, .arr 75 l9 n13 false, .w 99 l10], .frz [18, 19, 20, 21, 22, 23, 24, 25], .callm [] (.tup [.agg [.os 0 l17.length, .os 1 n25, .os 2 l19.length, .os 3 n26, .os 4 l21.length, .os 5 n27, .os 6 n28, .os 7 l24.length], .j v29, .j v30]) [.w 56 l17, .arr 66 l18 n25 false, .w 93 l19, .arr 50 l20 n26 false, .w 95 l21, .arr 72 l22 n27 false, .arr 75 l23 n28 false, .w 99 l24], .obj [] (.w 33 [(1 : Int)]), .frz [18, 19, 20, 21, 22, 23, 24, 25, 52], .callm [] (.tup [.agg [.os 0 l33.length, .os 1 n41, .os 2 l35.length, .os 3 n42, .os 4 l37.length, .os 5 l38.length, .os 6 n43, .os 7 l40.length], .j v44]) [.w 56 l33, .arr 66 l34 n41 false, .w 93 l35, .arr 50 l36 n42 false, .w 95 l37, .w 72 l38, .arr 75 l39 n43 false, .w 99 l40], .frz [53, 54, 55, 56, 57, 58, 59, 60], .callm [] (.tup [.agg [.os 0 l47.length, .os 1 n55, .os 2 l49.length, .os 3 n56, .os 4 l51.length, .os 5 n57, .os 6 n58, .os 7 l54.length], .j v59, .j v60]) [.w 56 l47, .arr 66 l48 n55 false, .w 93 l49, .arr 50 l50 n56 false, .w 95 l51, .arr 72 l52 n57 false, .arr 75 l53 n58 false, .w 99 l54], .t, .t, .t, .t, .t, .t, .row (c50 x68), .t, .row (c50 x71), .row (c3 x73)] (pc (bs_ob 56 [(⟨0, 0, (⟨#[97]⟩ : ByteArray), 0, 1⟩ : Api_Device), (⟨0, 0, (⟨#[98]⟩ : ByteArray), 0, 2⟩ : Api_Device)])<|pc (bs_ob 50 [(⟨0, 10, 5010, (-1), 0, []⟩ : Api_Domain), (⟨1, 10, 5010, (-1), 0, []⟩ : Api_Domain)])<|pc (bs_ob 33 [(2 : Int)])<|pc (rn (List.length [(⟨0, 0, (⟨#[97]⟩ : ByteArray), 0, 1⟩ : Api_Device), (⟨0, 0, (⟨#[98]⟩ : ByteArray), 0, 2⟩ : Api_Device)]))<|pd (rn 0)<|pc (rn (List.length [(⟨0, 10, 5010, (-1), 0, []⟩ : Api_Domain), (⟨1, 10, 5010, (-1), 0, []⟩ : Api_Domain)]))<|pd (rn 0)<|pd (rn 0)<|pc (rn (List.length [(2 : Int)]))<|pc (k_overlay_Flood h2)<|pc (rn l3.length)<|pc (rn n11)<|pc (rn l5.length)<|pc (rn n12)<|pc (rn l7.length)<|pc (rn l8.length)<|pc (rn n13)<|pc (rn l10.length)<|pc (k_overlay_Mesh h16)<|pc (bs_ob 33 [(1 : Int)])<|pc (rn l3.length)<|pc (rn n11)<|pc (rn l5.length)<|pc (rn n12)<|pc (rn l7.length)<|pc (rn l8.length)<|pc (rn n13)<|pc (rn l10.length)<|pc (rn (List.length [(1 : Int)]))<|pc (k_overlay_Flood h32)<|pc (rn l33.length)<|pc (rn n41)<|pc (rn l35.length)<|pc (rn n42)<|pc (rn l37.length)<|pc (rn l38.length)<|pc (rn n43)<|pc (rn l40.length)<|pc (k_overlay_Mesh h46)<|pc h61<|pc h62<|pc h63<|pc h64<|pc h65<|pc (rn n56)<|pc h66<|pc (an n56 (lin_ob h67))<|pc (rn n56)<|pc (an n56 (obn50 h69))<|pc h70<|pc (an n56 (lin_ob h67))<|pc (rn n56)<|pc (an n56 (obn50 h72))<|pc (ob3 h74)<|pn)
        ·exact absurd (hr.trans h.symm) (by decide)
       ·cases h
      ·exact absurd (hr.trans h.symm) (by decide)
     ·exact absurd (hr.trans h.symm) (by decide)
    ·exact absurd (hr.trans h.symm) (by decide)
   ·exact absurd (hr.trans h.symm) (by decide)
  ·exact absurd (hr.trans h.symm) (by decide)
 ·exact absurd (hr.trans h.symm) (by decide)

theorem k_overlay_Vtep {a1 : Api_Net} {a2 : Api_Line} {r : ((List Api_Device) × (List Api_Port) × (List Api_Link) × (List Api_Domain) × (List Api_Static) × (List Api_Flood) × (List Api_Vrf) × (List Api_Irb) × Nat × Nat × Nat × Nat × Nat × Int)} (h : overlay_Vtep a1 a2 = some r) :
  CallsOK Tryz.prog UU 13 [.agg (c31 a1), .agg (c37 a2)] [] ((fun r => match r with | (l29, l30, l31, l32, l33, l34, l35, l36, n37, n38, n39, n40, n41, v42) => .tup [.agg [.os 0 n37, .os 1 n38, .os 2 l31.length, .os 3 n39, .os 4 l33.length, .os 5 n40, .os 6 n41, .os 7 l36.length], .j v42]) r) ((fun r => match r with | (l29, l30, l31, l32, l33, l34, l35, l36, n37, n38, n39, n40, n41, v42) => [.arr 56 l29 n37 false, .arr 66 l30 n38 false, .w 93 l31, .arr 50 l32 n39 false, .w 95 l33, .arr 72 l34 n40 false, .arr 75 l35 n41 false, .w 99 l36]) r) := by
 unfold overlay_Vtep at h
 obtain ⟨r3, h4, h⟩ := bo h
 obtain ⟨h5, h⟩|⟨h5, h⟩ := ite_out h
 ·obtain rfl := oi h; exact rf Tryz.func13 (some [11, 12, 13, 14, 15, 16, 17, 18]) [.callv (.tup [.j r3.1, .j r3.2]), .t] (pc (k_overlay_begin h4)<|pc h5<|pn)
 ·obtain ⟨x6, h7, h⟩ := bo h
  obtain ⟨h8, h⟩|⟨h8, h⟩ := ite_out h
  ·obtain rfl := oi h; exact rf Tryz.func13 (some [11, 12, 13, 14, 15, 16, 17, 18]) [.callv (.tup [.j r3.1, .j r3.2]), .f, .row (c56 x6), .t] (pc (k_overlay_begin h4)<|pc h5<|pc (ob56 h7)<|pc h8<|pn)
  ·obtain ⟨r9, h10, h⟩ := bo h
   obtain ⟨h11, h⟩|⟨h11, h⟩ := ite_out h
   ·obtain rfl := oi h; exact rf Tryz.func13 (some [11, 12, 13, 14, 15, 16, 17, 18]) [.callv (.tup [.j r3.1, .j r3.2]), .f, .row (c56 x6), .f, .callv (.j r9), .t] (pc (k_overlay_begin h4)<|pc h5<|pc (ob56 h7)<|pc h8<|pc (k_overlay_owner h10)<|pc h11<|pn)
   ·obtain ⟨r12, h13, h⟩ := bo h
    obtain ⟨l14, l15, l16, l17, l18, l19, l20, l21, n22, n23, n24, n25⟩ := r12
    obtain ⟨h26, h⟩|⟨h26, h⟩ := ite_out h
    ·obtain ⟨x27, h28, h⟩ := bo h
     obtain rfl := oi h; exact rf Tryz.func13 (some [11, 12, 13, 14, 15, 16, 17, 18]) [.callv (.tup [.j r3.1, .j r3.2]), .f, .row (c56 x6), .f, .callv (.j r9), .f, .callm [] (.agg [.os 0 l14.length, .os 1 n22, .os 2 l16.length, .os 3 n23, .os 4 l18.length, .os 5 n24, .os 6 n25, .os 7 l21.length]) [.w 56 l14, .arr 66 l15 n22 false, .w 93 l16, .arr 50 l17 n23 false, .w 95 l18, .arr 72 l19 n24 false, .arr 75 l20 n25 false, .w 99 l21], .row (c56 x27), .obj [] (.arr 56 (List.set l14 (Int.toNat r3.1) (⟨x27.row, x27.priority, x27.name, x27.mac, a2.addr⟩ : Api_Device)) l14.length false)] (pc (k_overlay_begin h4)<|pc h5<|pc (ob56 h7)<|pc h8<|pc (k_overlay_owner h10)<|pc h11<|pc (k_names_Copy h13)<|pc (an l14.length (lin_ob h26))<|pc (rn l14.length)<|pc (st_ob (e := 56) (n := l14.length) (l := l14) (i := (Int.toNat r3.1)) (⟨x27.row, x27.priority, x27.name, x27.mac, a2.addr⟩ : Api_Device) [.j x27.row, .j x27.priority, .x x27.name, .v (.int .u64 x27.mac), .v (.int .u32 a2.addr)] (obn56 h28) rfl)<|pn)
    ·cases h

theorem k_palingref03_digits_L1 : LoopOK Tryz.prog UU 0 23 (subC (codeOf Tryz.f159) [1, 1, 0, 0, 0]) (fun s : Int × ByteArray => match s with | (v2, v3) => palingref03_digits_L1 v2 v3)
  (fun s : Int × ByteArray => (match s with | (v2, v3) => [(0, .v (.int .u64 v2)), (2, .e), (3, .x v3)] : Fr DD)) (fun s : Int × ByteArray => (match s with | (v2, v3) => [] : Heap DD)) (fun r => match r with | (v8, v9) => .exit 0) (fun r => match r with | (v8, v9) => [(0, .v (.int .u64 v8)), (2, .e), (3, .x v9)]) (fun r => match r with | (v8, v9) => []) := by
 refine loop_sound3 (fun s q h => ?_) (fun r => ?_)
 ·obtain ⟨v2, v3⟩ := s; replace h : palingref03_digits_L1 v2 v3 = some q := h
  unfold palingref03_digits_L1 at h
  obtain ⟨h4, h⟩|⟨h4, h⟩ := ite_out h
  ·obtain ⟨h5, h⟩|⟨h5, h⟩ := ite_out h
   ·obtain rfl := oi h; exact rl [0, 2, 3] [] [.t, .obj [] (.w 5 [(wr_u8 (wr_u64 (48 + (Int.tmod v2 10))) : Int)]), .callv (.v (.string (bstr [(wr_u8 (wr_u64 (48 + (Int.tmod v2 10))) : Int)])))] (pc h4<|pc (show (10 : Int) ≠ 0 from by decide)<|pc (bs_ob 5 [(wr_u8 (wr_u64 (48 + (Int.tmod v2 10))) : Int)])<|pc (cvb5 [(wr_u8 (wr_u64 (48 + (Int.tmod v2 10))) : Int)])<|pc (rn (List.length [(wr_u8 (wr_u64 (48 + (Int.tmod v2 10))) : Int)]))<|pc (of_decide_eq_true h5)<|pc (show (10 : Int) ≠ 0 from by decide)<|pn)
   ·cases h
  ·obtain rfl := oi h; exact rl [0, 2, 3] [] [.f] (pc h4<|pn)
 ·exact Ex.noConfusion

theorem k_palingref03_digits {a1 : Int} {r : ByteArray} (h : palingref03_digits a1 = some r) :
  CallsOK Tryz.prog UU 159 [.v (.int .u64 a1)] [] (.x r) [] := by
 unfold palingref03_digits at h
 obtain ⟨r11, h10, h⟩ := bo h
 obtain ⟨v8, v9⟩ := r11
 obtain ⟨h12, h⟩|⟨h12, h⟩ := ite_out h
 ·obtain rfl := oi h; exact rf Tryz.func159 none [.sum [0, 2, 3] [] (.exit 0) [(0, .v (.int .u64 v8)), (2, .e), (3, .x v9)] [], .obj [] (.w 5 [(wr_u8 (wr_u64 (48 + v8)) : Int)]), .callv (.v (.string (bstr [(wr_u8 (wr_u64 (48 + v8)) : Int)])))] (pc (k_palingref03_digits_L1 _ _ h10)<|pc (bs_ob 5 [(wr_u8 (wr_u64 (48 + v8)) : Int)])<|pc (cvb5 [(wr_u8 (wr_u64 (48 + v8)) : Int)])<|pc (rn (List.length [(wr_u8 (wr_u64 (48 + v8)) : Int)]))<|pc (of_decide_eq_true h12)<|pn)
 ·cases h

theorem k_palingref03_Text {a1 : Int} {r : ByteArray} (h : palingref03_Text a1 = some r) :
  CallsOK Tryz.prog UU 132 [.j a1] [] (.x r) [] := by
 unfold palingref03_Text at h
 obtain ⟨h2, h⟩|⟨h2, h⟩ := ite_out h
 ·obtain ⟨r3, h4, h⟩ := bo h
  obtain ⟨h5, h⟩|⟨h5, h⟩ := ite_out h
  ·obtain rfl := oi h; exact rf Tryz.func132 none [.t, .callv (.x r3)] (pc h2<|pc (k_palingref03_digits h4)<|pc (of_decide_eq_true h5)<|pn)
  ·cases h
 ·obtain ⟨r6, h7, h⟩ := bo h
  obtain rfl := oi h; exact rf Tryz.func132 none [.f, .callv (.x r6)] (pc h2<|pc (k_palingref03_digits h7)<|pn)

theorem k_palingref01_Bytes_L2 {a1 : Int} {l2 : List Int} {v3 : Int} : LoopOK Tryz.prog UU 0 26 (subC (codeOf Tryz.f160) [1, 1, 0, 1, 0, 0, 1, 0, 0, 1, 0, 1, 0, 0]) (fun s : Int × Int => match s with | (v5, v6) => palingref01_Bytes_L2 a1 l2 v3 v5 v6)
  (fun s : Int × Int => (match s with | (v5, v6) => [(0, .v (.int .u64 a1)), (2, .os 0 0), (3, .os 1 l2.length), (4, .j v3), (5, .v (.int .u64 v5)), (6, .j v6)] : Fr DD)) (fun s : Int × Int => (match s with | (v5, v6) => [.n 5, .w 5 l2] : Heap DD)) (fun r => match r with | v9 => .exit 2) (fun r => match r with | v9 => [(0, .v (.int .u64 a1)), (2, .os 0 0), (3, .os 1 l2.length), (4, .j v3), (5, .v (.int .u64 v9))]) (fun r => match r with | v9 => [.n 5, .w 5 l2]) := by
 refine loop_sound3 (fun s q h => ?_) (fun r => ?_)
 ·obtain ⟨v5, v6⟩ := s; replace h : palingref01_Bytes_L2 a1 l2 v3 v5 v6 = some q := h
  unfold palingref01_Bytes_L2 at h
  obtain ⟨h7, h⟩|⟨h7, h⟩ := ite_out h
  ·obtain rfl := oi h; exact rl [0, 2, 3, 4, 5, 6] [0, 1] [.t] (pc h7<|pc (show (256 : Int) ≠ 0 from by decide)<|pn)
  ·obtain rfl := oi h; exact rl [0, 2, 3, 4, 5] [0, 1] [.f] (pc h7<|pn)
 ·exact Ex.noConfusion

theorem k_palingref01_Bytes_L1 {a1 : Int} : LoopOK Tryz.prog UU 0 26 (subC (codeOf Tryz.f160) [1, 1, 0, 1, 0, 0]) (fun s : (List Int) × Int => match s with | (l2, v3) => palingref01_Bytes_L1 a1 l2 v3)
  (fun s : (List Int) × Int => (match s with | (l2, v3) => [(0, .v (.int .u64 a1)), (2, .os 0 0), (3, .os 1 l2.length), (4, .j v3)] : Fr DD)) (fun s : (List Int) × Int => (match s with | (l2, v3) => [.n 5, .w 5 l2] : Heap DD)) (fun r => match r with | l15 => .exit 0) (fun r => match r with | l15 => [(2, .os 0 0), (3, .os 1 l15.length)]) (fun r => match r with | l15 => [.n 5, .w 5 l15]) := by
 refine loop_sound3 (fun s q h => ?_) (fun r => ?_)
 ·obtain ⟨l2, v3⟩ := s; replace h : palingref01_Bytes_L1 a1 l2 v3 = some q := h
  unfold palingref01_Bytes_L1 at h
  obtain ⟨h4, h⟩|⟨h4, h⟩ := ite_out h
  ·obtain ⟨v9, h10, h⟩ := bo h
   obtain ⟨h12, h⟩|⟨h12, h⟩ := ite_out h
   ·obtain rfl := oi h; exact rl [0, 2, 3, 4] [0, 1] [.t, .sum [0, 2, 3, 4, 5, 6] [0, 1] (.exit 2) [(0, .v (.int .u64 a1)), (2, .os 0 0), (3, .os 1 l2.length), (4, .j v3), (5, .v (.int .u64 v9))] [.n 5, .w 5 l2], .obj [] (.w 5 [(wr_u8 (Int.tmod v9 256) : Int)]), .obj [] (.w 5 (l2 ++ [(wr_u8 (Int.tmod v9 256) : Int)]))] (pc h4<|pc (k_palingref01_Bytes_L2 _ _ h10)<|pc (show (256 : Int) ≠ 0 from by decide)<|pc (bs_ob 5 [(wr_u8 (Int.tmod v9 256) : Int)])<|pc (app_ob 5 (n := l2.length) (l := l2) (xs := [(wr_u8 (Int.tmod v9 256) : Int)]) h12)<|pc (rn (List.length [(wr_u8 (Int.tmod v9 256) : Int)]))<|pn)
   ·cases h
  ·obtain rfl := oi h; exact rl [2, 3] [0, 1] [.f] (pc h4<|pn)
 ·exact Ex.noConfusion

theorem k_palingref01_Bytes {a1 : Int} {r : ((List Int))} (h : palingref01_Bytes a1 = some r) :
  CallsOK Tryz.prog UU 160 [.v (.int .u64 a1)] [] ((fun r => match r with | l18 => .os 0 l18.length) r) ((fun r => match r with | l18 => [.w 5 l18]) r) := by
 unfold palingref01_Bytes at h
 obtain ⟨l15, h16, h⟩ := bo h
 obtain rfl := oi h; exact rf Tryz.func160 (some [1]) [.sum [0, 2, 3, 4] [0, 1] (.exit 0) [(2, .os 0 0), (3, .os 1 l15.length)] [.n 5, .w 5 l15]] (pc (k_palingref01_Bytes_L1 _ _ h16)<|pn)

theorem k_palingref01_Text_J2 {l4 : List Int} {v5 : ByteArray} {v6 : Int} {r : ByteArray} (h : palingref01_Text_J2 l4 v5 v6 = some r) :
  ExecOK Tryz.prog UU 0 47 (subC (codeOf Tryz.f133) [1, 1, 1, 1, 0, 1, 0, 0, 1, 0, 0, 0]) [(2, .e), (3, .v (.string (⟨#[48, 49, 50, 51, 52, 53, 54, 55, 56, 57, 97, 98, 99, 100, 101, 102]⟩ : ByteArray))), (4, .os 0 l4.length), (5, .x v5), (6, .j v6)] [.w 5 l4] ((fun r => match r with | v11 => .nor) r) ((fun r => match r with | v11 => [(2, .e), (3, .v (.string (⟨#[48, 49, 50, 51, 52, 53, 54, 55, 56, 57, 97, 98, 99, 100, 101, 102]⟩ : ByteArray))), (4, .os 0 l4.length), (5, .x v11), (6, .j v6)]) r) ((fun r => match r with | v11 => [.w 5 l4]) r) := by
 unfold palingref01_Text_J2 at h
 obtain ⟨h8, h⟩|⟨h8, h⟩ := ite_out h
 ·obtain ⟨h9, h⟩|⟨h9, h⟩ := ite_out h
  ·obtain rfl := oi h; exact rl [2, 3, 4, 5, 6] [0] [.t] (pc h8<|pc (of_decide_eq_true h9)<|pn)
  ·cases h
 ·obtain rfl := oi h; exact rl [2, 3, 4, 5, 6] [0] [.f] (pc h8<|pn)

theorem k_palingref01_Text_L1 {l4 : List Int} : LoopOK Tryz.prog UU 0 47 (subC (codeOf Tryz.f133) [1, 1, 1, 1, 0, 1, 0, 0]) (fun s : ByteArray × Int => match s with | (v5, v6) => palingref01_Text_L1 l4 v5 v6)
  (fun s : ByteArray × Int => (match s with | (v5, v6) => [(2, .e), (3, .v (.string (⟨#[48, 49, 50, 51, 52, 53, 54, 55, 56, 57, 97, 98, 99, 100, 101, 102]⟩ : ByteArray))), (4, .os 0 l4.length), (5, .x v5), (6, .j v6)] : Fr DD)) (fun s : ByteArray × Int => (match s with | (v5, v6) => [.w 5 l4] : Heap DD)) (fun r => match r with | v28 => .exit 0) (fun r => match r with | v28 => [(2, .e), (5, .x v28)]) (fun r => match r with | v28 => []) := by
 refine loop_sound3 (fun s q h => ?_) (fun r => ?_)
 ·obtain ⟨v5, v6⟩ := s; replace h : palingref01_Text_L1 l4 v5 v6 = some q := h
  unfold palingref01_Text_L1 at h
  obtain ⟨h7, h⟩|⟨h7, h⟩ := ite_out h
  ·obtain ⟨v11, h12, h⟩ := bo h
   obtain ⟨h14, h⟩|⟨h14, h⟩ := ite_out h
   ·obtain ⟨x15, h16, h⟩ := bo h
    obtain ⟨x17, h18, h⟩ := bo h
    obtain ⟨h19, h⟩|⟨h19, h⟩ := ite_out h
    ·obtain ⟨h20, h⟩|⟨h20, h⟩ := ite_out h
     ·obtain ⟨x21, h22, h⟩ := bo h
      obtain ⟨x23, h24, h⟩ := bo h
      obtain ⟨h25, h⟩|⟨h25, h⟩ := ite_out h
      ·obtain ⟨h26, h⟩|⟨h26, h⟩ := ite_out h
       ·obtain rfl := oi h; exact rl [2, 3, 4, 5, 6] [0] [.t, .skp, .cut [2, 3, 4, 5, 6] [0] .nor [(2, .e), (3, .v (.string (⟨#[48, 49, 50, 51, 52, 53, 54, 55, 56, 57, 97, 98, 99, 100, 101, 102]⟩ : ByteArray))), (4, .os 0 l4.length), (5, .x v11), (6, .j v6)] [.w 5 l4], .row (c5 x15), .row (c5 x17), .row (c5 x21), .row (c5 x23)] (pc h7<|pc (k_palingref01_Text_J2 h12)<|pc (an l4.length (lin_ob h14))<|pc (an l4.length (obn5 h16))<|pc (show (16 : Int) ≠ 0 from by decide)<|pc (an l4.length (lin_ob h14))<|pc (an l4.length (obn5 h18))<|pc (show (16 : Int) ≠ 0 from by decide)<|pc (sl_ob h19)<|pc (of_decide_eq_true h20)<|pc (an l4.length (lin_ob h14))<|pc (an l4.length (obn5 h22))<|pc (show (16 : Int) ≠ 0 from by decide)<|pc (an l4.length (lin_ob h14))<|pc (an l4.length (obn5 h24))<|pc (show (16 : Int) ≠ 0 from by decide)<|pc (sl_ob h25)<|pc (of_decide_eq_true h26)<|pn)
       ·cases h
      ·cases h
     ·cases h
    ·cases h
   ·cases h
  ·obtain rfl := oi h; exact rl [2, 5] [] [.f] (pc h7<|pn)
 ·exact Ex.noConfusion

theorem k_palingref01_Text {a1 : Int} {r : ByteArray} (h : palingref01_Text a1 = some r) :
  CallsOK Tryz.prog UU 133 [.v (.int .u64 a1)] [] (.x r) [] := by
 unfold palingref01_Text at h
 obtain ⟨l4, h3, h⟩ := bo h
 obtain ⟨v28, h29, h⟩ := bo h
 obtain rfl := oi h; exact rf Tryz.func133 none [.callo (.os 0 l4.length) [.w 5 l4], .sum [2, 3, 4, 5, 6] [0] (.exit 0) [(2, .e), (5, .x v28)] []] (pc (k_palingref01_Bytes h3)<|pc (im5 l4)<|pc (k_palingref01_Text_L1 _ _ h29)<|pn)

theorem k_palingref03_ListText_L1 {a1 : List Int} : LoopOK Tryz.prog UU 0 23 (subC (codeOf Tryz.f161) [1, 1, 0, 1, 0, 0]) (fun s : ByteArray × Int => match s with | (v2, v3) => palingref03_ListText_L1 a1 v2 v3)
  (fun s : ByteArray × Int => (match s with | (v2, v3) => [(0, .sl 3 a1), (2, .e), (3, .x v2), (4, .j v3)] : Fr DD)) (fun s : ByteArray × Int => (match s with | (v2, v3) => [] : Heap DD)) (fun r => match r with | v18 => .exit 0) (fun r => match r with | v18 => [(2, .e), (3, .x v18)]) (fun r => match r with | v18 => []) := by
 refine loop_sound3 (fun s q h => ?_) (fun r => ?_)
 ·obtain ⟨v2, v3⟩ := s; replace h : palingref03_ListText_L1 a1 v2 v3 = some q := h
  unfold palingref03_ListText_L1 at h
  obtain ⟨h4, h⟩|⟨h4, h⟩ := ite_out h
  ·obtain ⟨h5, h⟩|⟨h5, h⟩ := ite_out h
   ·obtain ⟨h6, h⟩|⟨h6, h⟩ := ite_out h
    ·obtain ⟨x7, h8, h⟩ := bo h
     obtain ⟨r9, h10, h⟩ := bo h
     obtain ⟨h11, h⟩|⟨h11, h⟩ := ite_out h
     ·obtain rfl := oi h; exact rl [0, 2, 3, 4] [] [.t, .t, .row (c3 x7), .callv (.x r9)] (pc h4<|pc h5<|pc (of_decide_eq_true h6)<|pc (ob3 h8)<|pc (k_palingref03_Text h10)<|pc (of_decide_eq_true h11)<|pn)
     ·cases h
    ·cases h
   ·obtain ⟨x12, h13, h⟩ := bo h
    obtain ⟨r14, h15, h⟩ := bo h
    obtain ⟨h16, h⟩|⟨h16, h⟩ := ite_out h
    ·obtain rfl := oi h; exact rl [0, 2, 3, 4] [] [.t, .f, .row (c3 x12), .callv (.x r14)] (pc h4<|pc h5<|pc (ob3 h13)<|pc (k_palingref03_Text h15)<|pc (of_decide_eq_true h16)<|pn)
    ·cases h
  ·obtain rfl := oi h; exact rl [2, 3] [] [.f] (pc h4<|pn)
 ·exact Ex.noConfusion

theorem k_palingref03_ListText {a1 : List Int} {r : ByteArray} (h : palingref03_ListText a1 = some r) :
  CallsOK Tryz.prog UU 161 [.sl 3 a1] [] (.x r) [] := by
 unfold palingref03_ListText at h
 obtain ⟨v18, h19, h⟩ := bo h
 obtain rfl := oi h; exact rf Tryz.func161 none [.sum [0, 2, 3, 4] [] (.exit 0) [(2, .e), (3, .x v18)] []] (pc (k_palingref03_ListText_L1 _ _ h19)<|pn)

theorem k_palingref11_spell {a1 : List Int} {r : ByteArray} (h : palingref11_spell a1 = some r) :
  CallsOK Tryz.prog UU 134 [.sl 3 a1] [] (.x r) [] := by
 unfold palingref11_spell at h
 obtain ⟨h2, h⟩|⟨h2, h⟩ := ite_out h
 ·obtain rfl := oi h; exact rf Tryz.func134 none [.t] (pc h2<|pn)
 ·obtain ⟨r3, h4, h⟩ := bo h
  obtain rfl := oi h; exact rf Tryz.func134 none [.f, .callv (.x r3)] (pc h2<|pc (k_palingref03_ListText h4)<|pn)

theorem k_palingref02_number_L1 : LoopOK Tryz.prog UU 0 23 (subC (codeOf Tryz.f162) [1, 1, 0, 0, 0]) (fun s : Int × ByteArray => match s with | (v2, v3) => palingref02_number_L1 v2 v3)
  (fun s : Int × ByteArray => (match s with | (v2, v3) => [(0, .j v2), (2, .e), (3, .x v3)] : Fr DD)) (fun s : Int × ByteArray => (match s with | (v2, v3) => [] : Heap DD)) (fun r => match r with | (v8, v9) => .exit 0) (fun r => match r with | (v8, v9) => [(0, .j v8), (2, .e), (3, .x v9)]) (fun r => match r with | (v8, v9) => []) := by
 refine loop_sound3 (fun s q h => ?_) (fun r => ?_)
 ·obtain ⟨v2, v3⟩ := s; replace h : palingref02_number_L1 v2 v3 = some q := h
  unfold palingref02_number_L1 at h
  obtain ⟨h4, h⟩|⟨h4, h⟩ := ite_out h
  ·obtain ⟨h5, h⟩|⟨h5, h⟩ := ite_out h
   ·obtain rfl := oi h; exact rl [0, 2, 3] [] [.t, .obj [] (.w 5 [(wr_u8 (wr_i64 (48 + (Int.tmod v2 10))) : Int)]), .callv (.v (.string (bstr [(wr_u8 (wr_i64 (48 + (Int.tmod v2 10))) : Int)])))] (pc h4<|pc (show (10 : Int) ≠ 0 from by decide)<|pc (bs_ob 5 [(wr_u8 (wr_i64 (48 + (Int.tmod v2 10))) : Int)])<|pc (cvb5 [(wr_u8 (wr_i64 (48 + (Int.tmod v2 10))) : Int)])<|pc (rn (List.length [(wr_u8 (wr_i64 (48 + (Int.tmod v2 10))) : Int)]))<|pc (of_decide_eq_true h5)<|pc (show (10 : Int) ≠ 0 from by decide)<|pn)
   ·cases h
  ·obtain rfl := oi h; exact rl [0, 2, 3] [] [.f] (pc h4<|pn)
 ·exact Ex.noConfusion

theorem k_palingref02_number {a1 : Int} {r : ByteArray} (h : palingref02_number a1 = some r) :
  CallsOK Tryz.prog UU 162 [.j a1] [] (.x r) [] := by
 unfold palingref02_number at h
 obtain ⟨r11, h10, h⟩ := bo h
 obtain ⟨v8, v9⟩ := r11
 obtain ⟨h12, h⟩|⟨h12, h⟩ := ite_out h
 ·obtain rfl := oi h; exact rf Tryz.func162 none [.sum [0, 2, 3] [] (.exit 0) [(0, .j v8), (2, .e), (3, .x v9)] [], .obj [] (.w 5 [(wr_u8 (wr_i64 (48 + v8)) : Int)]), .callv (.v (.string (bstr [(wr_u8 (wr_i64 (48 + v8)) : Int)])))] (pc (k_palingref02_number_L1 _ _ h10)<|pc (bs_ob 5 [(wr_u8 (wr_i64 (48 + v8)) : Int)])<|pc (cvb5 [(wr_u8 (wr_i64 (48 + v8)) : Int)])<|pc (rn (List.length [(wr_u8 (wr_i64 (48 + v8)) : Int)]))<|pc (of_decide_eq_true h12)<|pn)
 ·cases h

theorem k_palingref02_Text {a1 : Int} {r : ByteArray} (h : palingref02_Text a1 = some r) :
  CallsOK Tryz.prog UU 135 [.v (.int .u32 a1)] [] (.x r) [] := by
 unfold palingref02_Text at h
 obtain ⟨r2, h3, h⟩ := bo h
 obtain ⟨h4, h⟩|⟨h4, h⟩ := ite_out h
 ·obtain ⟨r5, h6, h⟩ := bo h
  obtain ⟨h7, h⟩|⟨h7, h⟩ := ite_out h
  ·obtain ⟨h8, h⟩|⟨h8, h⟩ := ite_out h
   ·obtain ⟨r9, h10, h⟩ := bo h
    obtain ⟨h11, h⟩|⟨h11, h⟩ := ite_out h
    ·obtain ⟨h12, h⟩|⟨h12, h⟩ := ite_out h
     ·obtain ⟨r13, h14, h⟩ := bo h
      obtain ⟨h15, h⟩|⟨h15, h⟩ := ite_out h
      ·obtain rfl := oi h; exact rf Tryz.func135 none [.callv (.x r2), .callv (.x r5), .callv (.x r9), .callv (.x r13)] (pc (show (16777216 : Int) ≠ 0 from by decide)<|pc (k_palingref02_number h3)<|pc (of_decide_eq_true h4)<|pc (show (65536 : Int) ≠ 0 from by decide)<|pc (show (256 : Int) ≠ 0 from by decide)<|pc (k_palingref02_number h6)<|pc (of_decide_eq_true h7)<|pc (of_decide_eq_true h8)<|pd (show (256 : Int) ≠ 0 from by decide)<|pc (k_palingref02_number h10)<|pc (of_decide_eq_true h11)<|pc (of_decide_eq_true h12)<|pc (show (256 : Int) ≠ 0 from by decide)<|pc (k_palingref02_number h14)<|pc (of_decide_eq_true h15)<|pn)
      ·cases h
     ·cases h
    ·cases h
   ·cases h
  ·cases h
 ·cases h

theorem k_palingref03_AddrsText_L1 {a1 : List Int} : LoopOK Tryz.prog UU 0 23 (subC (codeOf Tryz.f136) [1, 1, 0, 1, 0, 0]) (fun s : ByteArray × Int => match s with | (v2, v3) => palingref03_AddrsText_L1 a1 v2 v3)
  (fun s : ByteArray × Int => (match s with | (v2, v3) => [(0, .sl 33 a1), (2, .e), (3, .x v2), (4, .j v3)] : Fr DD)) (fun s : ByteArray × Int => (match s with | (v2, v3) => [] : Heap DD)) (fun r => match r with | v18 => .exit 0) (fun r => match r with | v18 => [(2, .e), (3, .x v18)]) (fun r => match r with | v18 => []) := by
 refine loop_sound3 (fun s q h => ?_) (fun r => ?_)
 ·obtain ⟨v2, v3⟩ := s; replace h : palingref03_AddrsText_L1 a1 v2 v3 = some q := h
  unfold palingref03_AddrsText_L1 at h
  obtain ⟨h4, h⟩|⟨h4, h⟩ := ite_out h
  ·obtain ⟨h5, h⟩|⟨h5, h⟩ := ite_out h
   ·obtain ⟨h6, h⟩|⟨h6, h⟩ := ite_out h
    ·obtain ⟨x7, h8, h⟩ := bo h
     obtain ⟨r9, h10, h⟩ := bo h
     obtain ⟨h11, h⟩|⟨h11, h⟩ := ite_out h
     ·obtain rfl := oi h; exact rl [0, 2, 3, 4] [] [.t, .t, .row (c33 x7), .callv (.x r9)] (pc h4<|pc h5<|pc (of_decide_eq_true h6)<|pc (ob33 h8)<|pc (k_palingref02_Text h10)<|pc (of_decide_eq_true h11)<|pn)
     ·cases h
    ·cases h
   ·obtain ⟨x12, h13, h⟩ := bo h
    obtain ⟨r14, h15, h⟩ := bo h
    obtain ⟨h16, h⟩|⟨h16, h⟩ := ite_out h
    ·obtain rfl := oi h; exact rl [0, 2, 3, 4] [] [.t, .f, .row (c33 x12), .callv (.x r14)] (pc h4<|pc h5<|pc (ob33 h13)<|pc (k_palingref02_Text h15)<|pc (of_decide_eq_true h16)<|pn)
    ·cases h
  ·obtain rfl := oi h; exact rl [2, 3] [] [.f] (pc h4<|pn)
 ·exact Ex.noConfusion

theorem k_palingref03_AddrsText {a1 : List Int} {r : ByteArray} (h : palingref03_AddrsText a1 = some r) :
  CallsOK Tryz.prog UU 136 [.sl 33 a1] [] (.x r) [] := by
 unfold palingref03_AddrsText at h
 obtain ⟨v18, h19, h⟩ := bo h
 obtain rfl := oi h; exact rf Tryz.func136 none [.sum [0, 2, 3, 4] [] (.exit 0) [(2, .e), (3, .x v18)] []] (pc (k_palingref03_AddrsText_L1 _ _ h19)<|pn)

theorem k_palingref02_Right {a1 : Api_Prefix} {r : Bool} (h : palingref02_Right a1 = some r) :
  CallsOK Tryz.prog UU 163 [.agg (c97 a1)] [] (.y r) [] := by
 unfold palingref02_Right at h
 obtain ⟨h2, h⟩|⟨h2, h⟩ := ite_out h
 ·obtain rfl := oi h; exact rf Tryz.func163 none [.t] (pc h2<|pn)
 ·obtain rfl := oi h; exact rf Tryz.func163 none [.f] (pc h2<|pn)

theorem k_palingref02_PrefixText {a1 : Api_Prefix} {r : ByteArray} (h : palingref02_PrefixText a1 = some r) :
  CallsOK Tryz.prog UU 137 [.agg (c97 a1)] [] (.x r) [] := by
 unfold palingref02_PrefixText at h
 obtain ⟨r2, h3, h⟩ := bo h
 obtain ⟨h4, h⟩|⟨h4, h⟩ := ite_out h
 ·obtain rfl := oi h; exact rf Tryz.func137 none [.b r2, .t] (pc (k_palingref02_Right h3)<|pc h4<|pn)
 ·obtain ⟨r5, h6, h⟩ := bo h
  obtain ⟨h7, h⟩|⟨h7, h⟩ := ite_out h
  ·obtain ⟨r8, h9, h⟩ := bo h
   obtain ⟨h10, h⟩|⟨h10, h⟩ := ite_out h
   ·obtain rfl := oi h; exact rf Tryz.func137 none [.b r2, .f, .callv (.x r5), .callv (.x r8)] (pc (k_palingref02_Right h3)<|pc h4<|pc (k_palingref02_Text h6)<|pc (of_decide_eq_true h7)<|pc (k_palingref02_number h9)<|pc (of_decide_eq_true h10)<|pn)
   ·cases h
  ·cases h

theorem k_palingref11_Words {a1 : Api_Line} {r : ((List ByteArray))} (h : palingref11_Words a1 = some r) :
  CallsOK Tryz.prog UU 100 [.agg (c37 a1)] [] ((fun r => match r with | l35 => .os 0 l35.length) r) ((fun r => match r with | l35 => [.w 9 l35]) r) := by
 unfold palingref11_Words at h
 obtain ⟨r2, h3, h⟩ := bo h
 obtain ⟨r4, h5, h⟩ := bo h
 obtain ⟨r6, h7, h⟩ := bo h
 obtain ⟨h8, h⟩|⟨h8, h⟩ := ite_out h
 ·obtain rfl := oi h; exact rf Tryz.func100 (some [2]) [.callv (.x r2), .callv (.x r4), .callv (.x r6), .t, .obj [] (.w 9 [(⟨#[100, 101, 118, 105, 99, 101]⟩ : ByteArray), a1.dev, r4, r6])] (pc (k_palingref03_Text h3)<|pc (k_palingref03_Text h5)<|pc (k_palingref01_Text h7)<|pc h8<|pc (bs_ob 9 [(⟨#[100, 101, 118, 105, 99, 101]⟩ : ByteArray), a1.dev, r4, r6])<|pn)
 ·obtain ⟨h9, h⟩|⟨h9, h⟩ := ite_out h
  ·obtain ⟨r10, h11, h⟩ := bo h
   obtain ⟨h12, h⟩|⟨h12, h⟩ := ite_out h
   ·obtain rfl := oi h; exact rf Tryz.func100 (some [2]) [.callv (.x r2), .callv (.x r4), .callv (.x r6), .f, .t, .callv (.x r10), .t, .obj [] (.w 9 [(⟨#[112, 111, 114, 116]⟩ : ByteArray), a1.dev, a1.port, r10, (⟨#[97, 99, 99, 101, 115, 115]⟩ : ByteArray), r2])] (pc (k_palingref03_Text h3)<|pc (k_palingref03_Text h5)<|pc (k_palingref01_Text h7)<|pc h8<|pc h9<|pc (k_palingref03_Text h11)<|pc h12<|pc (bs_ob 9 [(⟨#[112, 111, 114, 116]⟩ : ByteArray), a1.dev, a1.port, r10, (⟨#[97, 99, 99, 101, 115, 115]⟩ : ByteArray), r2])<|pn)
   ·obtain ⟨h13, h⟩|⟨h13, h⟩ := ite_out h
    ·obtain ⟨r14, h15, h⟩ := bo h
     obtain rfl := oi h; exact rf Tryz.func100 (some [2]) [.callv (.x r2), .callv (.x r4), .callv (.x r6), .f, .t, .callv (.x r10), .f, .t, .callv (.x r14), .obj [] (.w 9 [(⟨#[112, 111, 114, 116]⟩ : ByteArray), a1.dev, a1.port, r10, (⟨#[116, 114, 117, 110, 107]⟩ : ByteArray), (⟨#[45]⟩ : ByteArray), r14])] (pc (k_palingref03_Text h3)<|pc (k_palingref03_Text h5)<|pc (k_palingref01_Text h7)<|pc h8<|pc h9<|pc (k_palingref03_Text h11)<|pc h12<|pc h13<|pc (k_palingref11_spell h15)<|pc (bs_ob 9 [(⟨#[112, 111, 114, 116]⟩ : ByteArray), a1.dev, a1.port, r10, (⟨#[116, 114, 117, 110, 107]⟩ : ByteArray), (⟨#[45]⟩ : ByteArray), r14])<|pn)
    ·obtain ⟨r16, h17, h⟩ := bo h
     obtain rfl := oi h; exact rf Tryz.func100 (some [2]) [.callv (.x r2), .callv (.x r4), .callv (.x r6), .f, .t, .callv (.x r10), .f, .f, .callv (.x r16), .obj [] (.w 9 [(⟨#[112, 111, 114, 116]⟩ : ByteArray), a1.dev, a1.port, r10, (⟨#[116, 114, 117, 110, 107]⟩ : ByteArray), r2, r16])] (pc (k_palingref03_Text h3)<|pc (k_palingref03_Text h5)<|pc (k_palingref01_Text h7)<|pc h8<|pc h9<|pc (k_palingref03_Text h11)<|pc h12<|pc h13<|pc (k_palingref11_spell h17)<|pc (bs_ob 9 [(⟨#[112, 111, 114, 116]⟩ : ByteArray), a1.dev, a1.port, r10, (⟨#[116, 114, 117, 110, 107]⟩ : ByteArray), r2, r16])<|pn)
  ·obtain ⟨h18, h⟩|⟨h18, h⟩ := ite_out h
   ·obtain rfl := oi h; exact rf Tryz.func100 (some [2]) [.callv (.x r2), .callv (.x r4), .callv (.x r6), .f, .f, .t, .obj [] (.w 9 [(⟨#[108, 105, 110, 107]⟩ : ByteArray), a1.dev, a1.port, a1.peer, a1.far])] (pc (k_palingref03_Text h3)<|pc (k_palingref03_Text h5)<|pc (k_palingref01_Text h7)<|pc h8<|pc h9<|pc h18<|pc (bs_ob 9 [(⟨#[108, 105, 110, 107]⟩ : ByteArray), a1.dev, a1.port, a1.peer, a1.far])<|pn)
   ·obtain ⟨h19, h⟩|⟨h19, h⟩ := ite_out h
    ·obtain rfl := oi h; exact rf Tryz.func100 (some [2]) [.callv (.x r2), .callv (.x r4), .callv (.x r6), .f, .f, .f, .t, .obj [] (.w 9 [(⟨#[115, 116, 97, 116, 105, 99]⟩ : ByteArray), a1.dev, r2, r6, a1.port])] (pc (k_palingref03_Text h3)<|pc (k_palingref03_Text h5)<|pc (k_palingref01_Text h7)<|pc h8<|pc h9<|pc h18<|pc h19<|pc (bs_ob 9 [(⟨#[115, 116, 97, 116, 105, 99]⟩ : ByteArray), a1.dev, r2, r6, a1.port])<|pn)
    ·obtain ⟨h20, h⟩|⟨h20, h⟩ := ite_out h
     ·obtain ⟨r21, h22, h⟩ := bo h
      obtain rfl := oi h; exact rf Tryz.func100 (some [2]) [.callv (.x r2), .callv (.x r4), .callv (.x r6), .f, .f, .f, .f, .t, .callv (.x r21), .obj [] (.w 9 [(⟨#[118, 116, 101, 112]⟩ : ByteArray), a1.dev, r21])] (pc (k_palingref03_Text h3)<|pc (k_palingref03_Text h5)<|pc (k_palingref01_Text h7)<|pc h8<|pc h9<|pc h18<|pc h19<|pc h20<|pc (k_palingref02_Text h22)<|pc (bs_ob 9 [(⟨#[118, 116, 101, 112]⟩ : ByteArray), a1.dev, r21])<|pn)
     ·obtain ⟨h23, h⟩|⟨h23, h⟩ := ite_out h
      ·obtain rfl := oi h; exact rf Tryz.func100 (some [2]) [.callv (.x r2), .callv (.x r4), .callv (.x r6), .f, .f, .f, .f, .f, .t, .obj [] (.w 9 [(⟨#[118, 110, 105]⟩ : ByteArray), a1.dev, r2, r4])] (pc (k_palingref03_Text h3)<|pc (k_palingref03_Text h5)<|pc (k_palingref01_Text h7)<|pc h8<|pc h9<|pc h18<|pc h19<|pc h20<|pc h23<|pc (bs_ob 9 [(⟨#[118, 110, 105]⟩ : ByteArray), a1.dev, r2, r4])<|pn)
      ·obtain ⟨h24, h⟩|⟨h24, h⟩ := ite_out h
       ·obtain ⟨r25, h26, h⟩ := bo h
        obtain rfl := oi h; exact rf Tryz.func100 (some [2]) [.callv (.x r2), .callv (.x r4), .callv (.x r6), .f, .f, .f, .f, .f, .f, .t, .callv (.x r25), .obj [] (.w 9 [(⟨#[102, 108, 111, 111, 100]⟩ : ByteArray), a1.dev, r4, r25])] (pc (k_palingref03_Text h3)<|pc (k_palingref03_Text h5)<|pc (k_palingref01_Text h7)<|pc h8<|pc h9<|pc h18<|pc h19<|pc h20<|pc h23<|pc h24<|pc (k_palingref03_AddrsText h26)<|pc (bs_ob 9 [(⟨#[102, 108, 111, 111, 100]⟩ : ByteArray), a1.dev, r4, r25])<|pn)
       ·obtain ⟨h27, h⟩|⟨h27, h⟩ := ite_out h
        ·obtain ⟨r28, h29, h⟩ := bo h
         obtain ⟨r30, h31, h⟩ := bo h
         obtain rfl := oi h; exact rf Tryz.func100 (some [2]) [.callv (.x r2), .callv (.x r4), .callv (.x r6), .f, .f, .f, .f, .f, .f, .f, .t, .callv (.x r28), .callv (.x r30), .obj [] (.w 9 [(⟨#[118, 114, 102]⟩ : ByteArray), a1.dev, a1.name, r28, r30])] (pc (k_palingref03_Text h3)<|pc (k_palingref03_Text h5)<|pc (k_palingref01_Text h7)<|pc h8<|pc h9<|pc h18<|pc h19<|pc h20<|pc h23<|pc h24<|pc h27<|pc (k_palingref11_spell h29)<|pc (k_palingref11_spell h31)<|pc (bs_ob 9 [(⟨#[118, 114, 102]⟩ : ByteArray), a1.dev, a1.name, r28, r30])<|pn)
        ·obtain ⟨h32, h⟩|⟨h32, h⟩ := ite_out h
         ·obtain ⟨r33, h34, h⟩ := bo h
          obtain rfl := oi h; exact rf Tryz.func100 (some [2]) [.callv (.x r2), .callv (.x r4), .callv (.x r6), .f, .f, .f, .f, .f, .f, .f, .f, .t, .callv (.x r33), .obj [] (.w 9 [(⟨#[105, 114, 98]⟩ : ByteArray), a1.dev, r2, a1.name, r33])] (pc (k_palingref03_Text h3)<|pc (k_palingref03_Text h5)<|pc (k_palingref01_Text h7)<|pc h8<|pc h9<|pc h18<|pc h19<|pc h20<|pc h23<|pc h24<|pc h27<|pc h32<|pc (k_palingref02_PrefixText h34)<|pc (bs_ob 9 [(⟨#[105, 114, 98]⟩ : ByteArray), a1.dev, r2, a1.name, r33])<|pn)
         ·obtain rfl := oi h; exact rf Tryz.func100 (some [2]) [.callv (.x r2), .callv (.x r4), .callv (.x r6), .f, .f, .f, .f, .f, .f, .f, .f, .f] (pc (k_palingref03_Text h3)<|pc (k_palingref03_Text h5)<|pc (k_palingref01_Text h7)<|pc h8<|pc h9<|pc h18<|pc h19<|pc h20<|pc h23<|pc h24<|pc h27<|pc h32<|pn)

theorem k_palingref11_form {a1 : List ByteArray} {r : ByteArray} (h : palingref11_form a1 = some r) :
  CallsOK Tryz.prog UU 128 [.sl 9 a1] [] (.x r) [] := by
 unfold palingref11_form at h
 obtain ⟨h2, h⟩|⟨h2, h⟩ := ite_out h
 ·obtain rfl := oi h; exact rf Tryz.func128 none [.t] (pc h2<|pn)
 ·obtain ⟨x3, h4, h⟩ := bo h
  obtain ⟨h5, h⟩|⟨h5, h⟩ := ite_out h
  ·obtain rfl := oi h; exact rf Tryz.func128 none [.f, .row (c9 x3), .t] (pc h2<|pc (ob9 h4)<|pc h5<|pn)
  ·obtain ⟨h6, h⟩|⟨h6, h⟩ := ite_out h
   ·obtain rfl := oi h; exact rf Tryz.func128 none [.f, .row (c9 x3), .f, .t] (pc h2<|pc (ob9 h4)<|pc h5<|pc h6<|pn)
   ·obtain ⟨h7, h⟩|⟨h7, h⟩ := ite_out h
    ·obtain rfl := oi h; exact rf Tryz.func128 none [.f, .row (c9 x3), .f, .f, .t] (pc h2<|pc (ob9 h4)<|pc h5<|pc h6<|pc h7<|pn)
    ·obtain ⟨h8, h⟩|⟨h8, h⟩ := ite_out h
     ·obtain rfl := oi h; exact rf Tryz.func128 none [.f, .row (c9 x3), .f, .f, .f, .t] (pc h2<|pc (ob9 h4)<|pc h5<|pc h6<|pc h7<|pc h8<|pn)
     ·obtain ⟨h9, h⟩|⟨h9, h⟩ := ite_out h
      ·obtain rfl := oi h; exact rf Tryz.func128 none [.f, .row (c9 x3), .f, .f, .f, .f, .t] (pc h2<|pc (ob9 h4)<|pc h5<|pc h6<|pc h7<|pc h8<|pc h9<|pn)
      ·obtain ⟨h10, h⟩|⟨h10, h⟩ := ite_out h
       ·obtain rfl := oi h; exact rf Tryz.func128 none [.f, .row (c9 x3), .f, .f, .f, .f, .f, .t] (pc h2<|pc (ob9 h4)<|pc h5<|pc h6<|pc h7<|pc h8<|pc h9<|pc h10<|pn)
       ·obtain ⟨h11, h⟩|⟨h11, h⟩ := ite_out h
        ·obtain rfl := oi h; exact rf Tryz.func128 none [.f, .row (c9 x3), .f, .f, .f, .f, .f, .f, .t] (pc h2<|pc (ob9 h4)<|pc h5<|pc h6<|pc h7<|pc h8<|pc h9<|pc h10<|pc h11<|pn)
        ·obtain ⟨h12, h⟩|⟨h12, h⟩ := ite_out h
         ·obtain rfl := oi h; exact rf Tryz.func128 none [.f, .row (c9 x3), .f, .f, .f, .f, .f, .f, .f, .t] (pc h2<|pc (ob9 h4)<|pc h5<|pc h6<|pc h7<|pc h8<|pc h9<|pc h10<|pc h11<|pc h12<|pn)
         ·obtain ⟨h13, h⟩|⟨h13, h⟩ := ite_out h
          ·obtain ⟨h14, h⟩|⟨h14, h⟩ := ite_out h
           ·obtain ⟨x15, h16, h⟩ := bo h
            obtain ⟨h17, h⟩|⟨h17, h⟩ := ite_out h
            ·obtain rfl := oi h; exact rf Tryz.func128 none [.f, .row (c9 x3), .f, .f, .f, .f, .f, .f, .f, .f, .t, .t, .row (c9 x15), .t] (pc h2<|pc (ob9 h4)<|pc h5<|pc h6<|pc h7<|pc h8<|pc h9<|pc h10<|pc h11<|pc h12<|pc h13<|pc h14<|pc (ob9 h16)<|pc h17<|pn)
            ·obtain ⟨h18, h⟩|⟨h18, h⟩ := ite_out h
             ·obtain ⟨x19, h20, h⟩ := bo h
              obtain ⟨h21, h⟩|⟨h21, h⟩ := ite_out h
              ·obtain rfl := oi h; exact rf Tryz.func128 none [.f, .row (c9 x3), .f, .f, .f, .f, .f, .f, .f, .f, .t, .t, .row (c9 x15), .f, .t, .row (c9 x19), .t] (pc h2<|pc (ob9 h4)<|pc h5<|pc h6<|pc h7<|pc h8<|pc h9<|pc h10<|pc h11<|pc h12<|pc h13<|pc h14<|pc (ob9 h16)<|pc h17<|pc h18<|pc (ob9 h20)<|pc h21<|pn)
              ·obtain rfl := oi h; exact rf Tryz.func128 none [.f, .row (c9 x3), .f, .f, .f, .f, .f, .f, .f, .f, .t, .t, .row (c9 x15), .f, .t, .row (c9 x19), .f] (pc h2<|pc (ob9 h4)<|pc h5<|pc h6<|pc h7<|pc h8<|pc h9<|pc h10<|pc h11<|pc h12<|pc h13<|pc h14<|pc (ob9 h16)<|pc h17<|pc h18<|pc (ob9 h20)<|pc h21<|pn)
             ·obtain rfl := oi h; exact rf Tryz.func128 none [.f, .row (c9 x3), .f, .f, .f, .f, .f, .f, .f, .f, .t, .t, .row (c9 x15), .f, .f] (pc h2<|pc (ob9 h4)<|pc h5<|pc h6<|pc h7<|pc h8<|pc h9<|pc h10<|pc h11<|pc h12<|pc h13<|pc h14<|pc (ob9 h16)<|pc h17<|pc h18<|pn)
           ·obtain ⟨h22, h⟩|⟨h22, h⟩ := ite_out h
            ·obtain ⟨x23, h24, h⟩ := bo h
             obtain ⟨h25, h⟩|⟨h25, h⟩ := ite_out h
             ·obtain rfl := oi h; exact rf Tryz.func128 none [.f, .row (c9 x3), .f, .f, .f, .f, .f, .f, .f, .f, .t, .f, .t, .row (c9 x23), .t] (pc h2<|pc (ob9 h4)<|pc h5<|pc h6<|pc h7<|pc h8<|pc h9<|pc h10<|pc h11<|pc h12<|pc h13<|pc h14<|pc h22<|pc (ob9 h24)<|pc h25<|pn)
             ·obtain rfl := oi h; exact rf Tryz.func128 none [.f, .row (c9 x3), .f, .f, .f, .f, .f, .f, .f, .f, .t, .f, .t, .row (c9 x23), .f] (pc h2<|pc (ob9 h4)<|pc h5<|pc h6<|pc h7<|pc h8<|pc h9<|pc h10<|pc h11<|pc h12<|pc h13<|pc h14<|pc h22<|pc (ob9 h24)<|pc h25<|pn)
            ·obtain rfl := oi h; exact rf Tryz.func128 none [.f, .row (c9 x3), .f, .f, .f, .f, .f, .f, .f, .f, .t, .f, .f] (pc h2<|pc (ob9 h4)<|pc h5<|pc h6<|pc h7<|pc h8<|pc h9<|pc h10<|pc h11<|pc h12<|pc h13<|pc h14<|pc h22<|pn)
          ·obtain rfl := oi h; exact rf Tryz.func128 none [.f, .row (c9 x3), .f, .f, .f, .f, .f, .f, .f, .f, .f] (pc h2<|pc (ob9 h4)<|pc h5<|pc h6<|pc h7<|pc h8<|pc h9<|pc h10<|pc h11<|pc h12<|pc h13<|pn)

theorem k_palingref11_kind_L1 {a1 : ByteArray} : LoopOK Tryz.prog UU 0 19 (subC (codeOf Tryz.f129) [1, 1, 0, 1, 0, 0]) (ρ := Int ⊕ Unit) (palingref11_kind_L1 a1)
  (fun v2 : Int => ([(0, .x a1), (2, .z), (3, .os 0 (List.length [(⟨#[]⟩ : ByteArray), (⟨#[100, 101, 118, 105, 99, 101]⟩ : ByteArray), (⟨#[112, 111, 114, 116]⟩ : ByteArray), (⟨#[108, 105, 110, 107]⟩ : ByteArray), (⟨#[115, 116, 97, 116, 105, 99]⟩ : ByteArray), (⟨#[118, 116, 101, 112]⟩ : ByteArray), (⟨#[118, 110, 105]⟩ : ByteArray), (⟨#[102, 108, 111, 111, 100]⟩ : ByteArray), (⟨#[118, 114, 102]⟩ : ByteArray), (⟨#[105, 114, 98]⟩ : ByteArray)])), (4, .j v2)] : Fr DD)) (fun v2 : Int => ([.w 9 [(⟨#[]⟩ : ByteArray), (⟨#[100, 101, 118, 105, 99, 101]⟩ : ByteArray), (⟨#[112, 111, 114, 116]⟩ : ByteArray), (⟨#[108, 105, 110, 107]⟩ : ByteArray), (⟨#[115, 116, 97, 116, 105, 99]⟩ : ByteArray), (⟨#[118, 116, 101, 112]⟩ : ByteArray), (⟨#[118, 110, 105]⟩ : ByteArray), (⟨#[102, 108, 111, 111, 100]⟩ : ByteArray), (⟨#[118, 114, 102]⟩ : ByteArray), (⟨#[105, 114, 98]⟩ : ByteArray)]] : Heap DD)) (fun r => match r with | Sum.inl v9 => .ret | Sum.inr _ => .exit 0) (fun r => match r with | Sum.inl v9 => [(2, .j v9)] | Sum.inr _ => [(2, .z)]) (fun r => match r with | Sum.inl v9 => [] | Sum.inr _ => []) := by
 refine loop_sound3 (fun s q h => ?_) (fun r => ?_)
 ·replace h : palingref11_kind_L1 a1 s = some q := h; revert h; revert s; intro v2 h
  unfold palingref11_kind_L1 at h
  obtain ⟨h3, h⟩|⟨h3, h⟩ := ite_out h
  ·obtain ⟨h4, h⟩|⟨h4, h⟩ := ite_out h
   ·obtain ⟨x5, h6, h⟩ := bo h
    obtain ⟨h7, h⟩|⟨h7, h⟩ := ite_out h
    ·obtain rfl := oi h; exact rl [2] [] [.t, .row (c9 x5), .t] (pc (rn (List.length [(⟨#[]⟩ : ByteArray), (⟨#[100, 101, 118, 105, 99, 101]⟩ : ByteArray), (⟨#[112, 111, 114, 116]⟩ : ByteArray), (⟨#[108, 105, 110, 107]⟩ : ByteArray), (⟨#[115, 116, 97, 116, 105, 99]⟩ : ByteArray), (⟨#[118, 116, 101, 112]⟩ : ByteArray), (⟨#[118, 110, 105]⟩ : ByteArray), (⟨#[102, 108, 111, 111, 100]⟩ : ByteArray), (⟨#[118, 114, 102]⟩ : ByteArray), (⟨#[105, 114, 98]⟩ : ByteArray)]))<|pc h3<|pc (an (List.length [(⟨#[]⟩ : ByteArray), (⟨#[100, 101, 118, 105, 99, 101]⟩ : ByteArray), (⟨#[112, 111, 114, 116]⟩ : ByteArray), (⟨#[108, 105, 110, 107]⟩ : ByteArray), (⟨#[115, 116, 97, 116, 105, 99]⟩ : ByteArray), (⟨#[118, 116, 101, 112]⟩ : ByteArray), (⟨#[118, 110, 105]⟩ : ByteArray), (⟨#[102, 108, 111, 111, 100]⟩ : ByteArray), (⟨#[118, 114, 102]⟩ : ByteArray), (⟨#[105, 114, 98]⟩ : ByteArray)]) (lin_ob h4))<|pc (an (List.length [(⟨#[]⟩ : ByteArray), (⟨#[100, 101, 118, 105, 99, 101]⟩ : ByteArray), (⟨#[112, 111, 114, 116]⟩ : ByteArray), (⟨#[108, 105, 110, 107]⟩ : ByteArray), (⟨#[115, 116, 97, 116, 105, 99]⟩ : ByteArray), (⟨#[118, 116, 101, 112]⟩ : ByteArray), (⟨#[118, 110, 105]⟩ : ByteArray), (⟨#[102, 108, 111, 111, 100]⟩ : ByteArray), (⟨#[118, 114, 102]⟩ : ByteArray), (⟨#[105, 114, 98]⟩ : ByteArray)]) (obn9 h6))<|pc h7<|pn)
    ·obtain rfl := oi h; exact rl [0, 2, 3, 4] [0] [.t, .row (c9 x5), .f] (pc (rn (List.length [(⟨#[]⟩ : ByteArray), (⟨#[100, 101, 118, 105, 99, 101]⟩ : ByteArray), (⟨#[112, 111, 114, 116]⟩ : ByteArray), (⟨#[108, 105, 110, 107]⟩ : ByteArray), (⟨#[115, 116, 97, 116, 105, 99]⟩ : ByteArray), (⟨#[118, 116, 101, 112]⟩ : ByteArray), (⟨#[118, 110, 105]⟩ : ByteArray), (⟨#[102, 108, 111, 111, 100]⟩ : ByteArray), (⟨#[118, 114, 102]⟩ : ByteArray), (⟨#[105, 114, 98]⟩ : ByteArray)]))<|pc h3<|pc (an (List.length [(⟨#[]⟩ : ByteArray), (⟨#[100, 101, 118, 105, 99, 101]⟩ : ByteArray), (⟨#[112, 111, 114, 116]⟩ : ByteArray), (⟨#[108, 105, 110, 107]⟩ : ByteArray), (⟨#[115, 116, 97, 116, 105, 99]⟩ : ByteArray), (⟨#[118, 116, 101, 112]⟩ : ByteArray), (⟨#[118, 110, 105]⟩ : ByteArray), (⟨#[102, 108, 111, 111, 100]⟩ : ByteArray), (⟨#[118, 114, 102]⟩ : ByteArray), (⟨#[105, 114, 98]⟩ : ByteArray)]) (lin_ob h4))<|pc (an (List.length [(⟨#[]⟩ : ByteArray), (⟨#[100, 101, 118, 105, 99, 101]⟩ : ByteArray), (⟨#[112, 111, 114, 116]⟩ : ByteArray), (⟨#[108, 105, 110, 107]⟩ : ByteArray), (⟨#[115, 116, 97, 116, 105, 99]⟩ : ByteArray), (⟨#[118, 116, 101, 112]⟩ : ByteArray), (⟨#[118, 110, 105]⟩ : ByteArray), (⟨#[102, 108, 111, 111, 100]⟩ : ByteArray), (⟨#[118, 114, 102]⟩ : ByteArray), (⟨#[105, 114, 98]⟩ : ByteArray)]) (obn9 h6))<|pc h7<|pn)
   ·cases h
  ·obtain rfl := oi h; exact rl [2] [] [.f] (pc (rn (List.length [(⟨#[]⟩ : ByteArray), (⟨#[100, 101, 118, 105, 99, 101]⟩ : ByteArray), (⟨#[112, 111, 114, 116]⟩ : ByteArray), (⟨#[108, 105, 110, 107]⟩ : ByteArray), (⟨#[115, 116, 97, 116, 105, 99]⟩ : ByteArray), (⟨#[118, 116, 101, 112]⟩ : ByteArray), (⟨#[118, 110, 105]⟩ : ByteArray), (⟨#[102, 108, 111, 111, 100]⟩ : ByteArray), (⟨#[118, 114, 102]⟩ : ByteArray), (⟨#[105, 114, 98]⟩ : ByteArray)]))<|pc h3<|pn)
 ·rcases r with _ | _ <;> exact Ex.noConfusion

theorem k_palingref11_kind {a1 : ByteArray} {r : Int} (h : palingref11_kind a1 = some r) :
  CallsOK Tryz.prog UU 129 [.x a1] [] (.j r) [] := by
 unfold palingref11_kind at h
 obtain ⟨r11, h10, h⟩ := bo h
 rcases r11 with v9 | _
 ·obtain rfl := oi h; exact rf Tryz.func129 none [.obj [] (.w 9 [(⟨#[]⟩ : ByteArray), (⟨#[100, 101, 118, 105, 99, 101]⟩ : ByteArray), (⟨#[112, 111, 114, 116]⟩ : ByteArray), (⟨#[108, 105, 110, 107]⟩ : ByteArray), (⟨#[115, 116, 97, 116, 105, 99]⟩ : ByteArray), (⟨#[118, 116, 101, 112]⟩ : ByteArray), (⟨#[118, 110, 105]⟩ : ByteArray), (⟨#[102, 108, 111, 111, 100]⟩ : ByteArray), (⟨#[118, 114, 102]⟩ : ByteArray), (⟨#[105, 114, 98]⟩ : ByteArray)]), .sum [0, 2, 3, 4] [0] .ret [(2, .j v9)] []] (pc (bs_ob 9 [(⟨#[]⟩ : ByteArray), (⟨#[100, 101, 118, 105, 99, 101]⟩ : ByteArray), (⟨#[112, 111, 114, 116]⟩ : ByteArray), (⟨#[108, 105, 110, 107]⟩ : ByteArray), (⟨#[115, 116, 97, 116, 105, 99]⟩ : ByteArray), (⟨#[118, 116, 101, 112]⟩ : ByteArray), (⟨#[118, 110, 105]⟩ : ByteArray), (⟨#[102, 108, 111, 111, 100]⟩ : ByteArray), (⟨#[118, 114, 102]⟩ : ByteArray), (⟨#[105, 114, 98]⟩ : ByteArray)])<|pc (k_palingref11_kind_L1 _ _ h10)<|pn)
 ·obtain rfl := oi h; exact rf Tryz.func129 none [.obj [] (.w 9 [(⟨#[]⟩ : ByteArray), (⟨#[100, 101, 118, 105, 99, 101]⟩ : ByteArray), (⟨#[112, 111, 114, 116]⟩ : ByteArray), (⟨#[108, 105, 110, 107]⟩ : ByteArray), (⟨#[115, 116, 97, 116, 105, 99]⟩ : ByteArray), (⟨#[118, 116, 101, 112]⟩ : ByteArray), (⟨#[118, 110, 105]⟩ : ByteArray), (⟨#[102, 108, 111, 111, 100]⟩ : ByteArray), (⟨#[118, 114, 102]⟩ : ByteArray), (⟨#[105, 114, 98]⟩ : ByteArray)]), .sum [0, 2, 3, 4] [0] (.exit 0) [(2, .z)] []] (pc (bs_ob 9 [(⟨#[]⟩ : ByteArray), (⟨#[100, 101, 118, 105, 99, 101]⟩ : ByteArray), (⟨#[112, 111, 114, 116]⟩ : ByteArray), (⟨#[108, 105, 110, 107]⟩ : ByteArray), (⟨#[115, 116, 97, 116, 105, 99]⟩ : ByteArray), (⟨#[118, 116, 101, 112]⟩ : ByteArray), (⟨#[118, 110, 105]⟩ : ByteArray), (⟨#[102, 108, 111, 111, 100]⟩ : ByteArray), (⟨#[118, 114, 102]⟩ : ByteArray), (⟨#[105, 114, 98]⟩ : ByteArray)])<|pc (k_palingref11_kind_L1 _ _ h10)<|pn)

theorem k_palingref03_Name_L1 {a1 : ByteArray} : LoopOK Tryz.prog UU 0 50 (subC (codeOf Tryz.f149) [1, 1, 0, 1, 0, 0]) (ρ := Unit ⊕ Unit) (palingref03_Name_L1 a1)
  (fun v7 : Int => ([(0, .x a1), (2, .y false), (3, .j v7)] : Fr DD)) (fun v7 : Int => ([] : Heap DD)) (fun r => match r with | Sum.inl _ => .ret | Sum.inr _ => .exit 0) (fun r => match r with | Sum.inl _ => [(2, .y false)] | Sum.inr _ => [(2, .y false)]) (fun r => match r with | Sum.inl _ => [] | Sum.inr _ => []) := by
 refine loop_sound3 (fun s q h => ?_) (fun r => ?_)
 ·replace h : palingref03_Name_L1 a1 s = some q := h; revert h; revert s; intro v7 h
  unfold palingref03_Name_L1 at h
  obtain ⟨h8, h⟩|⟨h8, h⟩ := ite_out h
  ·obtain ⟨h9, h⟩|⟨h9, h⟩ := ite_out h
   ·obtain ⟨h10, h⟩|⟨h10, h⟩ := ite_out h
    ·obtain ⟨h11, h⟩|⟨h11, h⟩ := ite_out h
     ·obtain rfl := oi h; exact rl [2] [] [.t, .t, .t] (pc h8<|pc (of_decide_eq_true h9)<|pc h10<|pc (of_decide_eq_true h9)<|pc h11<|pn)
     ·obtain ⟨h12, h⟩|⟨h12, h⟩ := ite_out h
      ·obtain rfl := oi h; exact rl [2] [] [.t, .t, .f, .t] (pc h8<|pc (of_decide_eq_true h9)<|pc h10<|pc (of_decide_eq_true h9)<|pc h11<|pc (of_decide_eq_true h9)<|pc h12<|pn)
      ·obtain rfl := oi h; exact rl [0, 2, 3] [] [.t, .t, .f, .f] (pc h8<|pc (of_decide_eq_true h9)<|pc h10<|pc (of_decide_eq_true h9)<|pc h11<|pc (of_decide_eq_true h9)<|pc h12<|pn)
    ·obtain ⟨h13, h⟩|⟨h13, h⟩ := ite_out h
     ·obtain ⟨h14, h⟩|⟨h14, h⟩ := ite_out h
      ·obtain rfl := oi h; exact rl [2] [] [.t, .f, .t, .t] (pc h8<|pc (of_decide_eq_true h9)<|pc h10<|pc (of_decide_eq_true h9)<|pc h13<|pc (of_decide_eq_true h9)<|pc h14<|pn)
      ·obtain ⟨h15, h⟩|⟨h15, h⟩ := ite_out h
       ·obtain rfl := oi h; exact rl [2] [] [.t, .f, .t, .f, .t] (pc h8<|pc (of_decide_eq_true h9)<|pc h10<|pc (of_decide_eq_true h9)<|pc h13<|pc (of_decide_eq_true h9)<|pc h14<|pc (of_decide_eq_true h9)<|pc h15<|pn)
       ·obtain rfl := oi h; exact rl [0, 2, 3] [] [.t, .f, .t, .f, .f] (pc h8<|pc (of_decide_eq_true h9)<|pc h10<|pc (of_decide_eq_true h9)<|pc h13<|pc (of_decide_eq_true h9)<|pc h14<|pc (of_decide_eq_true h9)<|pc h15<|pn)
     ·obtain rfl := oi h; exact rl [0, 2, 3] [] [.t, .f, .f] (pc h8<|pc (of_decide_eq_true h9)<|pc h10<|pc (of_decide_eq_true h9)<|pc h13<|pn)
   ·cases h
  ·obtain rfl := oi h; exact rl [2] [] [.f] (pc h8<|pn)
 ·rcases r with _ | _ <;> exact Ex.noConfusion

theorem k_palingref03_Name {a1 : ByteArray} {r : Bool} (h : palingref03_Name a1 = some r) :
  CallsOK Tryz.prog UU 149 [.x a1] [] (.y r) [] := by
 unfold palingref03_Name at h
 obtain ⟨h2, h⟩|⟨h2, h⟩ := ite_out h
 ·obtain rfl := oi h; exact rf Tryz.func149 none [.t] (pc h2<|pn)
 ·obtain ⟨h3, h⟩|⟨h3, h⟩ := ite_out h
  ·obtain rfl := oi h; exact rf Tryz.func149 none [.f, .t] (pc h2<|pc h3<|pn)
  ·obtain ⟨h4, h⟩|⟨h4, h⟩ := ite_out h
   ·obtain ⟨h5, h⟩|⟨h5, h⟩ := ite_out h
    ·obtain rfl := oi h; exact rf Tryz.func149 none [.f, .f, .t] (pc h2<|pc h3<|pc (of_decide_eq_true h4)<|pc h5<|pn)
    ·obtain ⟨h6, h⟩|⟨h6, h⟩ := ite_out h
     ·obtain rfl := oi h; exact rf Tryz.func149 none [.f, .f, .f, .t] (pc h2<|pc h3<|pc (of_decide_eq_true h4)<|pc h5<|pc (of_decide_eq_true h4)<|pc h6<|pn)
     ·obtain ⟨r17, h16, h⟩ := bo h
      rcases r17 with _ | _
      ·obtain rfl := oi h; exact rf Tryz.func149 none [.f, .f, .f, .f, .sum [0, 2, 3] [] .ret [(2, .y false)] []] (pc h2<|pc h3<|pc (of_decide_eq_true h4)<|pc h5<|pc (of_decide_eq_true h4)<|pc h6<|pc (k_palingref03_Name_L1 _ _ h16)<|pn)
      ·obtain rfl := oi h; exact rf Tryz.func149 none [.f, .f, .f, .f, .sum [0, 2, 3] [] (.exit 0) [(2, .y false)] []] (pc h2<|pc h3<|pc (of_decide_eq_true h4)<|pc h5<|pc (of_decide_eq_true h4)<|pc h6<|pc (k_palingref03_Name_L1 _ _ h16)<|pn)
   ·cases h

end Go.Eng
