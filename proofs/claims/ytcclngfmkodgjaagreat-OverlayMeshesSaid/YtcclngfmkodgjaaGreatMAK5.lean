/- Part of the proof of OverlayMeshes: printed mirrors of the functions, or their contracts. No conditions. -/
import Derived.Test.YtcclngfmkodgjaaGreatMAK4
set_option linter.unusedVariables false
set_option maxRecDepth 100000
namespace Go.Eng
open Go Go.Proofs
theorem k_palinglaw19_works {r : Bool} (h : palinglaw19_works = some r) :
  CallsOK Tryz.prog UU 16 [] [] (.y r) [] := by
 have hr : some true = some r := (by kernel_rfl : palinglaw19_works = some true).symm.trans h
 unfold palinglaw19_works at h
 obtain ⟨r1, h2, h⟩ := bo h
 obtain ⟨l3, l4, l5, l6, l7, l8, l9, l10, n11, n12, n13, v14⟩ := r1
 obtain ⟨r15, h16, h⟩ := bo h
 obtain ⟨l17, l18, l19, l20, l21, l22, l23, l24, n25, n26, n27, n28, v29, v30⟩ := r15
 obtain ⟨r31, h32, h⟩ := bo h
 obtain ⟨l33, l34, l35, l36, l37, l38, l39, l40, n41, n42, n43, v44⟩ := r31
 obtain ⟨r45, h46, h⟩ := bo h
 obtain ⟨l47, l48, l49, l50, l51, l52, l53, l54, n55, n56, n57, n58, v59, v60⟩ := r45
 obtain ⟨h61, h⟩|⟨h61, h⟩ := ite_out h
 ·obtain ⟨h62, h⟩|⟨h62, h⟩ := ite_out h
  ·obtain ⟨h63, h⟩|⟨h63, h⟩ := ite_out h
   ·obtain ⟨h64, h⟩|⟨h64, h⟩ := ite_out h
    ·obtain ⟨h65, h⟩|⟨h65, h⟩ := ite_out h
     ·obtain ⟨h66, h⟩|⟨h66, h⟩ := ite_out h
      ·obtain ⟨h67, h⟩|⟨h67, h⟩ := ite_out h
       ·obtain ⟨x68, h69, h⟩ := bo h
        obtain ⟨h70, h⟩|⟨h70, h⟩ := ite_out h
        ·obtain ⟨x71, h72, h⟩ := bo h
         obtain ⟨x73, h74, h⟩ := bo h
         obtain rfl := oi h; exact rf Tryz.func16 none [.obj [] (.w 56 [(⟨0, 0, (⟨#[97]⟩ : ByteArray), 0, 1⟩ : Api_Device), (⟨0, 0, (⟨#[98]⟩ : ByteArray), 0, 2⟩ : Api_Device)]), .obj [] (.w 90 [(⟨0, 10, 5010, (-1), 0, []⟩ : Api_Domain), (⟨1, 10, 5010, (-1), 0, []⟩ : Api_Domain)]), .obj [] (.w 33 [(2 : Int)]), .frz [0, 11, 12, 1, 13, 14, 15, 16, 17], .callm [] (.tup [.agg [.os 0 l3.length, .os 1 n11, .os 2 l5.length, .os 3 n12, .os 4 l7.length, .os 5 l8.length, .os 6 n13, .os 7 l10.length], .j v14]) [.w 56 l3, .arr 110 l4 n11 false, .w 174 l5, .arr 90 l6 n12 false, .w 178 l7, .w 113 l8, .arr 88 l9 n13 false, .w 105 l10], .frz [18, 19, 20, 21, 22, 23, 24, 25], .callm [] (.tup [.agg [.os 0 l17.length, .os 1 n25, .os 2 l19.length, .os 3 n26, .os 4 l21.length, .os 5 n27, .os 6 n28, .os 7 l24.length], .j v29, .j v30]) [.w 56 l17, .arr 110 l18 n25 false, .w 174 l19, .arr 90 l20 n26 false, .w 178 l21, .arr 113 l22 n27 false, .arr 88 l23 n28 false, .w 105 l24], .obj [] (.w 33 [(1 : Int)]), .frz [18, 19, 20, 21, 22, 23, 24, 25, 52], .callm [] (.tup [.agg [.os 0 l33.length, .os 1 n41, .os 2 l35.length, .os 3 n42, .os 4 l37.length, .os 5 l38.length, .os 6 n43, .os 7 l40.length], .j v44]) [.w 56 l33, .arr 110 l34 n41 false, .w 174 l35, .arr 90 l36 n42 false, .w 178 l37, .w 113 l38, .arr 88 l39 n43 false, .w 105 l40], .frz [53, 54, 55, 56, 57, 58, 59, 60], .callm [] (.tup [.agg [.os 0 l47.length, .os 1 n55, .os 2 l49.length, .os 3 n56, .os 4 l51.length, .os 5 n57, .os 6 n58, .os 7 l54.length], .j v59, .j v60]) [.w 56 l47, .arr 110 l48 n55 false, .w 174 l49, .arr 90 l50 n56 false, .w 178 l51, .arr 113 l52 n57 false, .arr 88 l53 n58 false, .w 105 l54], .t, .t, .t, .t, .t, .t, .row (c90 x68), .t, .row (c90 x71), .row (c3 x73)] (pc (bs_ob 56 [(⟨0, 0, (⟨#[97]⟩ : ByteArray), 0, 1⟩ : Api_Device), (⟨0, 0, (⟨#[98]⟩ : ByteArray), 0, 2⟩ : Api_Device)])<|pc (bs_ob 90 [(⟨0, 10, 5010, (-1), 0, []⟩ : Api_Domain), (⟨1, 10, 5010, (-1), 0, []⟩ : Api_Domain)])<|pc (bs_ob 33 [(2 : Int)])<|pc (rn (List.length [(⟨0, 0, (⟨#[97]⟩ : ByteArray), 0, 1⟩ : Api_Device), (⟨0, 0, (⟨#[98]⟩ : ByteArray), 0, 2⟩ : Api_Device)]))<|pd (rn 0)<|pc (rn (List.length [(⟨0, 10, 5010, (-1), 0, []⟩ : Api_Domain), (⟨1, 10, 5010, (-1), 0, []⟩ : Api_Domain)]))<|pd (rn 0)<|pd (rn 0)<|pc (rn (List.length [(2 : Int)]))<|pc (k_overlay_Flood h2)<|pc (rn l3.length)<|pc (rn n11)<|pc (rn l5.length)<|pc (rn n12)<|pc (rn l7.length)<|pc (rn l8.length)<|pc (rn n13)<|pc (rn l10.length)<|pc (k_overlay_Mesh h16)<|pc (bs_ob 33 [(1 : Int)])<|pc (rn l3.length)<|pc (rn n11)<|pc (rn l5.length)<|pc (rn n12)<|pc (rn l7.length)<|pc (rn l8.length)<|pc (rn n13)<|pc (rn l10.length)<|pc (rn (List.length [(1 : Int)]))<|pc (k_overlay_Flood h32)<|pc (rn l33.length)<|pc (rn n41)<|pc (rn l35.length)<|pc (rn n42)<|pc (rn l37.length)<|pc (rn l38.length)<|pc (rn n43)<|pc (rn l40.length)<|pc (k_overlay_Mesh h46)<|pc h61<|pc h62<|pc h63<|pc h64<|pc h65<|pc (rn n56)<|pc h66<|pc (an n56 (lin_ob h67))<|pc (rn n56)<|pc (an n56 (obn90 h69))<|pc h70<|pc (an n56 (lin_ob h67))<|pc (rn n56)<|pc (an n56 (obn90 h72))<|pc (ob3 h74)<|pn)
        ·exact absurd (hr.trans h.symm) (by decide)
       ·cases h
      ·exact absurd (hr.trans h.symm) (by decide)
     ·exact absurd (hr.trans h.symm) (by decide)
    ·exact absurd (hr.trans h.symm) (by decide)
   ·exact absurd (hr.trans h.symm) (by decide)
  ·exact absurd (hr.trans h.symm) (by decide)
 ·exact absurd (hr.trans h.symm) (by decide)

theorem k_palingref15_Place {a1 : Int} {a2 : Int} {r : Bool} (h : palingref15_Place a1 a2 = some r) :
  CallsOK Tryz.prog UU 149 [.j a1, .j a2] [] (.y r) [] := by
 unfold palingref15_Place at h
 obtain ⟨h3, h⟩|⟨h3, h⟩ := ite_out h
 ·obtain rfl := oi h; exact rf Tryz.func149 none [.t] (pc h3<|pn)
 ·obtain rfl := oi h; exact rf Tryz.func149 none [.f] (pc h3<|pn)

theorem k_palingref15_At_L1 {a1 : Api_Net} {a2 : Int} {a3 : Int} : LoopOK Tryz.prog UU 0 34 (subC (codeOf Tryz.f53) [1, 0, 1, 0, 0]) (ρ := Int ⊕ Unit) (palingref15_At_L1 a1 a2 a3)
  (fun v4 : Int => ([(1, .j a2), (2, .j a3), (3, .o 0), (6, .z), (7, .j v4)] : Fr DD)) (fun v4 : Int => ([.box 31 (c31 a1) false] : Heap DD)) (fun r => match r with | Sum.inl v13 => .ret | Sum.inr _ => .exit 0) (fun r => match r with | Sum.inl v13 => [(6, .j v13)] | Sum.inr _ => [(6, .z)]) (fun r => match r with | Sum.inl v13 => [] | Sum.inr _ => []) := by
 refine loop_sound3 (fun s q h => ?_) (fun r => ?_)
 ·replace h : palingref15_At_L1 a1 a2 a3 s = some q := h; revert h; revert s; intro v4 h
  unfold palingref15_At_L1 at h
  obtain ⟨h5, h⟩|⟨h5, h⟩ := ite_out h
  ·obtain ⟨x6, h7, h⟩ := bo h
   obtain ⟨h8, h⟩|⟨h8, h⟩ := ite_out h
   ·obtain ⟨x9, h10, h⟩ := bo h
    obtain ⟨h11, h⟩|⟨h11, h⟩ := ite_out h
    ·obtain rfl := oi h; exact rl [6] [] [.t, .row (c90 x6), .t, .row (c90 x9), .t] (pc h5<|pc (ob90 h7)<|pc h8<|pc (ob90 h10)<|pc h11<|pn)
    ·obtain rfl := oi h; exact rl [1, 2, 3, 6, 7] [0] [.t, .row (c90 x6), .t, .row (c90 x9), .f] (pc h5<|pc (ob90 h7)<|pc h8<|pc (ob90 h10)<|pc h11<|pn)
   ·obtain rfl := oi h; exact rl [1, 2, 3, 6, 7] [0] [.t, .row (c90 x6), .f] (pc h5<|pc (ob90 h7)<|pc h8<|pn)
  ·obtain rfl := oi h; exact rl [6] [] [.f] (pc h5<|pn)
 ·rcases r with _ | _ <;> exact Ex.noConfusion

theorem k_palingref15_At {a1 : Api_Net} {a2 : Int} {a3 : Int} {r : Int} (h : palingref15_At a1 a2 a3 = some r) :
  CallsOK Tryz.prog UU 53 [.agg (c31 a1), .j a2, .j a3] [] (.j r) [] := by
 unfold palingref15_At at h
 obtain ⟨r15, h14, h⟩ := bo h
 rcases r15 with v13 | _
 ·obtain rfl := oi h; exact rf Tryz.func53 none [.sum [1, 2, 3, 6, 7] [0] .ret [(6, .j v13)] []] (pc (k_palingref15_At_L1 _ _ h14)<|pn)
 ·obtain rfl := oi h; exact rf Tryz.func53 none [.sum [1, 2, 3, 6, 7] [0] (.exit 0) [(6, .z)] []] (pc (k_palingref15_At_L1 _ _ h14)<|pn)

theorem k_palingref15_In_L1 {a1 : List Int} {a2 : Int} : LoopOK Tryz.prog UU 0 18 (subC (codeOf Tryz.f151) [1, 0, 1, 0, 0]) (ρ := Unit ⊕ Unit) (palingref15_In_L1 a1 a2)
  (fun v3 : Int => ([(0, .sl 3 a1), (1, .j a2), (4, .y false), (5, .j v3)] : Fr DD)) (fun v3 : Int => ([] : Heap DD)) (fun r => match r with | Sum.inl _ => .ret | Sum.inr _ => .exit 0) (fun r => match r with | Sum.inl _ => [(4, .y true)] | Sum.inr _ => [(4, .y false)]) (fun r => match r with | Sum.inl _ => [] | Sum.inr _ => []) := by
 refine loop_sound3 (fun s q h => ?_) (fun r => ?_)
 ·replace h : palingref15_In_L1 a1 a2 s = some q := h; revert h; revert s; intro v3 h
  unfold palingref15_In_L1 at h
  obtain ⟨h4, h⟩|⟨h4, h⟩ := ite_out h
  ·obtain ⟨x5, h6, h⟩ := bo h
   obtain ⟨h7, h⟩|⟨h7, h⟩ := ite_out h
   ·obtain rfl := oi h; exact rl [4] [] [.t, .row (c3 x5), .t] (pc h4<|pc (ob3 h6)<|pc h7<|pn)
   ·obtain rfl := oi h; exact rl [0, 1, 4, 5] [] [.t, .row (c3 x5), .f] (pc h4<|pc (ob3 h6)<|pc h7<|pn)
  ·obtain rfl := oi h; exact rl [4] [] [.f] (pc h4<|pn)
 ·rcases r with _ | _ <;> exact Ex.noConfusion

theorem k_palingref15_In {a1 : List Int} {a2 : Int} {r : Bool} (h : palingref15_In a1 a2 = some r) :
  CallsOK Tryz.prog UU 151 [.sl 3 a1, .j a2] [] (.y r) [] := by
 unfold palingref15_In at h
 obtain ⟨r9, h8, h⟩ := bo h
 rcases r9 with _ | _
 ·obtain rfl := oi h; exact rf Tryz.func151 none [.sum [0, 1, 4, 5] [] .ret [(4, .y true)] []] (pc (k_palingref15_In_L1 _ _ h8)<|pn)
 ·obtain rfl := oi h; exact rf Tryz.func151 none [.sum [0, 1, 4, 5] [] (.exit 0) [(4, .y false)] []] (pc (k_palingref15_In_L1 _ _ h8)<|pn)

theorem k_palingref15_peer {a1 : Api_Net} {a2 : Int} {a3 : Int} {r : Bool} (h : palingref15_peer a1 a2 a3 = some r) :
  CallsOK Tryz.prog UU 150 [.agg (c31 a1), .j a2, .j a3] [] (.y r) [] := by
 unfold palingref15_peer at h
 obtain ⟨r4, h5, h⟩ := bo h
 obtain ⟨h6, h⟩|⟨h6, h⟩ := ite_out h
 ·obtain rfl := oi h; exact rf Tryz.func150 none [.b r4, .t] (pc (k_palingref15_Place h5)<|pc h6<|pn)
 ·obtain ⟨h7, h⟩|⟨h7, h⟩ := ite_out h
  ·obtain rfl := oi h; exact rf Tryz.func150 none [.b r4, .f, .t] (pc (k_palingref15_Place h5)<|pc h6<|pc h7<|pn)
  ·obtain ⟨x8, h9, h⟩ := bo h
   obtain ⟨x10, h11, h⟩ := bo h
   obtain ⟨h12, h⟩|⟨h12, h⟩ := ite_out h
   ·obtain ⟨h13, h⟩|⟨h13, h⟩ := ite_out h
    ·obtain ⟨h14, h⟩|⟨h14, h⟩ := ite_out h
     ·obtain ⟨x15, h16, h⟩ := bo h
      obtain ⟨h17, h⟩|⟨h17, h⟩ := ite_out h
      ·obtain ⟨x18, h19, h⟩ := bo h
       obtain ⟨h20, h⟩|⟨h20, h⟩ := ite_out h
       ·obtain ⟨r21, h22, h⟩ := bo h
        obtain rfl := oi h; exact rf Tryz.func150 none [.b r4, .f, .f, .row (c90 x8), .row (c90 x10), .t, .t, .t, .row (c56 x15), .t, .row (c56 x18), .t, .b r21] (pc (k_palingref15_Place h5)<|pc h6<|pc h7<|pc (ob90 h9)<|pc (ob90 h11)<|pc h12<|pc h13<|pc h14<|pc (ob56 h16)<|pc h17<|pc (ob56 h19)<|pc h20<|pc (k_palingref15_In h22)<|pn)
       ·obtain rfl := oi h; exact rf Tryz.func150 none [.b r4, .f, .f, .row (c90 x8), .row (c90 x10), .t, .t, .t, .row (c56 x15), .t, .row (c56 x18), .f] (pc (k_palingref15_Place h5)<|pc h6<|pc h7<|pc (ob90 h9)<|pc (ob90 h11)<|pc h12<|pc h13<|pc h14<|pc (ob56 h16)<|pc h17<|pc (ob56 h19)<|pc h20<|pn)
      ·obtain rfl := oi h; exact rf Tryz.func150 none [.b r4, .f, .f, .row (c90 x8), .row (c90 x10), .t, .t, .t, .row (c56 x15), .f] (pc (k_palingref15_Place h5)<|pc h6<|pc h7<|pc (ob90 h9)<|pc (ob90 h11)<|pc h12<|pc h13<|pc h14<|pc (ob56 h16)<|pc h17<|pn)
     ·obtain rfl := oi h; exact rf Tryz.func150 none [.b r4, .f, .f, .row (c90 x8), .row (c90 x10), .t, .t, .f] (pc (k_palingref15_Place h5)<|pc h6<|pc h7<|pc (ob90 h9)<|pc (ob90 h11)<|pc h12<|pc h13<|pc h14<|pn)
    ·obtain rfl := oi h; exact rf Tryz.func150 none [.b r4, .f, .f, .row (c90 x8), .row (c90 x10), .t, .f] (pc (k_palingref15_Place h5)<|pc h6<|pc h7<|pc (ob90 h9)<|pc (ob90 h11)<|pc h12<|pc h13<|pn)
   ·obtain rfl := oi h; exact rf Tryz.func150 none [.b r4, .f, .f, .row (c90 x8), .row (c90 x10), .f] (pc (k_palingref15_Place h5)<|pc h6<|pc h7<|pc (ob90 h9)<|pc (ob90 h11)<|pc h12<|pn)

theorem k_palingref15_domains_L1 {a1 : Api_Net} : LoopOK Tryz.prog UU 0 120 (subC (codeOf Tryz.f67) [1, 0, 1, 0, 0]) (ρ := Unit ⊕ Unit) (palingref15_domains_L1 a1)
  (fun v2 : Int => ([(1, .o 0), (2, .y false), (3, .j v2)] : Fr DD)) (fun v2 : Int => ([.box 31 (c31 a1) false] : Heap DD)) (fun r => match r with | Sum.inl _ => .ret | Sum.inr _ => .exit 0) (fun r => match r with | Sum.inl _ => [(2, .y false)] | Sum.inr _ => [(1, .o 0), (2, .y false)]) (fun r => match r with | Sum.inl _ => [] | Sum.inr _ => [.box 31 (c31 a1) false]) := by
 refine loop_sound3 (fun s q h => ?_) (fun r => ?_)
 ·replace h : palingref15_domains_L1 a1 s = some q := h; revert h; revert s; intro v2 h
  unfold palingref15_domains_L1 at h
  obtain ⟨h3, h⟩|⟨h3, h⟩ := ite_out h
  ·obtain ⟨x4, h5, h⟩ := bo h
   obtain ⟨r6, h7, h⟩ := bo h
   obtain ⟨h8, h⟩|⟨h8, h⟩ := ite_out h
   ·obtain rfl := oi h; exact rl [2] [] [.t, .row (c90 x4), .b r6, .t] (pc h3<|pc (ob90 h5)<|pc (k_palingref15_Place h7)<|pc h8<|pn)
   ·obtain ⟨h9, h⟩|⟨h9, h⟩ := ite_out h
    ·obtain rfl := oi h; exact rl [2] [] [.t, .row (c90 x4), .b r6, .f, .t] (pc h3<|pc (ob90 h5)<|pc (k_palingref15_Place h7)<|pc h8<|pc h9<|pn)
    ·obtain ⟨h10, h⟩|⟨h10, h⟩ := ite_out h
     ·obtain rfl := oi h; exact rl [2] [] [.t, .row (c90 x4), .b r6, .f, .f, .t] (pc h3<|pc (ob90 h5)<|pc (k_palingref15_Place h7)<|pc h8<|pc h9<|pc h10<|pn)
     ·obtain ⟨h11, h⟩|⟨h11, h⟩ := ite_out h
      ·obtain rfl := oi h; exact rl [2] [] [.t, .row (c90 x4), .b r6, .f, .f, .f, .t] (pc h3<|pc (ob90 h5)<|pc (k_palingref15_Place h7)<|pc h8<|pc h9<|pc h10<|pc h11<|pn)
      ·obtain ⟨h12, h⟩|⟨h12, h⟩ := ite_out h
       ·obtain rfl := oi h; exact rl [2] [] [.t, .row (c90 x4), .b r6, .f, .f, .f, .f, .t] (pc h3<|pc (ob90 h5)<|pc (k_palingref15_Place h7)<|pc h8<|pc h9<|pc h10<|pc h11<|pc h12<|pn)
       ·obtain ⟨r13, h14, h⟩ := bo h
        obtain ⟨h15, h⟩|⟨h15, h⟩ := ite_out h
        ·obtain rfl := oi h; exact rl [2] [] [.t, .row (c90 x4), .b r6, .f, .f, .f, .f, .f, .callv (.j r13), .t] (pc h3<|pc (ob90 h5)<|pc (k_palingref15_Place h7)<|pc h8<|pc h9<|pc h10<|pc h11<|pc h12<|pc (k_palingref15_At h14)<|pc h15<|pn)
        ·obtain ⟨h16, h⟩|⟨h16, h⟩ := ite_out h
         ·obtain ⟨r17, h18, h⟩ := bo h
          obtain ⟨h19, h⟩|⟨h19, h⟩ := ite_out h
          ·obtain rfl := oi h; exact rl [2] [] [.t, .row (c90 x4), .b r6, .f, .f, .f, .f, .f, .callv (.j r13), .f, .t, .b r17, .t] (pc h3<|pc (ob90 h5)<|pc (k_palingref15_Place h7)<|pc h8<|pc h9<|pc h10<|pc h11<|pc h12<|pc (k_palingref15_At h14)<|pc h15<|pc h16<|pc (k_palingref15_Place h18)<|pc h19<|pn)
          ·obtain ⟨x20, h21, h⟩ := bo h
           obtain ⟨h22, h⟩|⟨h22, h⟩ := ite_out h
           ·obtain rfl := oi h; exact rl [2] [] [.t, .row (c90 x4), .b r6, .f, .f, .f, .f, .f, .callv (.j r13), .f, .t, .b r17, .f, .row (c105 x20), .t] (pc h3<|pc (ob90 h5)<|pc (k_palingref15_Place h7)<|pc h8<|pc h9<|pc h10<|pc h11<|pc h12<|pc (k_palingref15_At h14)<|pc h15<|pc h16<|pc (k_palingref15_Place h18)<|pc h19<|pc (ob105 h21)<|pc h22<|pn)
           ·obtain rfl := oi h; exact rl [1, 2, 3] [0] [.t, .row (c90 x4), .b r6, .f, .f, .f, .f, .f, .callv (.j r13), .f, .t, .b r17, .f, .row (c105 x20), .f] (pc h3<|pc (ob90 h5)<|pc (k_palingref15_Place h7)<|pc h8<|pc h9<|pc h10<|pc h11<|pc h12<|pc (k_palingref15_At h14)<|pc h15<|pc h16<|pc (k_palingref15_Place h18)<|pc h19<|pc (ob105 h21)<|pc h22<|pn)
         ·obtain rfl := oi h; exact rl [1, 2, 3] [0] [.t, .row (c90 x4), .b r6, .f, .f, .f, .f, .f, .callv (.j r13), .f, .f] (pc h3<|pc (ob90 h5)<|pc (k_palingref15_Place h7)<|pc h8<|pc h9<|pc h10<|pc h11<|pc h12<|pc (k_palingref15_At h14)<|pc h15<|pc h16<|pn)
  ·obtain rfl := oi h; exact rl [1, 2] [0] [.f] (pc h3<|pn)
 ·rcases r with _ | _ <;> exact Ex.noConfusion

theorem k_palingref15_domains_L3 {a1 : Api_Net} {v25 : Int} {x27 : Api_Domain} : LoopOK Tryz.prog UU 0 120 (subC (codeOf Tryz.f67) [1, 1, 0, 1, 0, 0, 1, 0, 0, 1, 1, 0, 0]) (ρ := Unit ⊕ Unit) (palingref15_domains_L3 a1 v25 x27)
  (fun v29 : Int => ([(1, .o 0), (2, .y false), (5, .j v25), (6, .o 1), (7, .j v29)] : Fr DD)) (fun v29 : Int => ([.box 31 (c31 a1) false, .box 90 (c90 x27) false] : Heap DD)) (fun r => match r with | Sum.inl _ => .ret | Sum.inr _ => .exit 4) (fun r => match r with | Sum.inl _ => [(2, .y false)] | Sum.inr _ => [(1, .o 0), (2, .y false), (5, .j v25)]) (fun r => match r with | Sum.inl _ => [] | Sum.inr _ => [.box 31 (c31 a1) false]) := by
 refine loop_sound3 (fun s q h => ?_) (fun r => ?_)
 ·replace h : palingref15_domains_L3 a1 v25 x27 s = some q := h; revert h; revert s; intro v29 h
  unfold palingref15_domains_L3 at h
  obtain ⟨h30, h⟩|⟨h30, h⟩ := ite_out h
  ·obtain ⟨x31, h32, h⟩ := bo h
   obtain ⟨r33, h34, h⟩ := bo h
   obtain ⟨h35, h⟩|⟨h35, h⟩ := ite_out h
   ·obtain rfl := oi h; exact rl [2] [] [.t, .row (c3 x31), .b r33, .t] (pc h30<|pc (ob3 h32)<|pc (k_palingref15_peer h34)<|pc h35<|pn)
   ·obtain ⟨h36, h⟩|⟨h36, h⟩ := ite_out h
    ·obtain ⟨x37, h38, h⟩ := bo h
     obtain ⟨r39, h40, h⟩ := bo h
     obtain ⟨h41, h⟩|⟨h41, h⟩ := ite_out h
     ·obtain rfl := oi h; exact rl [2] [] [.t, .row (c3 x31), .b r33, .f, .row (c3 x37), .b r39, .t] (pc h30<|pc (ob3 h32)<|pc (k_palingref15_peer h34)<|pc h35<|pc (sl_ob h36)<|pc (ob3 h38)<|pc (k_palingref15_In h40)<|pc h41<|pn)
     ·obtain rfl := oi h; exact rl [1, 2, 5, 6, 7] [0, 1] [.t, .row (c3 x31), .b r33, .f, .row (c3 x37), .b r39, .f] (pc h30<|pc (ob3 h32)<|pc (k_palingref15_peer h34)<|pc h35<|pc (sl_ob h36)<|pc (ob3 h38)<|pc (k_palingref15_In h40)<|pc h41<|pn)
    ·cases h
  ·obtain rfl := oi h; exact rl [1, 2, 5] [0] [.f] (pc h30<|pn)
 ·rcases r with _ | _ <;> exact Ex.noConfusion

theorem k_palingref15_domains_L2 {a1 : Api_Net} : LoopOK Tryz.prog UU 0 120 (subC (codeOf Tryz.f67) [1, 1, 0, 1, 0, 0]) (ρ := Unit ⊕ Unit) (palingref15_domains_L2 a1)
  (fun v25 : Int => ([(1, .o 0), (2, .y false), (5, .j v25)] : Fr DD)) (fun v25 : Int => ([.box 31 (c31 a1) false] : Heap DD)) (fun r => match r with | Sum.inl _ => .ret | Sum.inr _ => .exit 2) (fun r => match r with | Sum.inl _ => [(2, .y false)] | Sum.inr _ => [(2, .y false)]) (fun r => match r with | Sum.inl _ => [] | Sum.inr _ => []) := by
 refine loop_sound3 (fun s q h => ?_) (fun r => ?_)
 ·replace h : palingref15_domains_L2 a1 s = some q := h; revert h; revert s; intro v25 h
  unfold palingref15_domains_L2 at h
  obtain ⟨h26, h⟩|⟨h26, h⟩ := ite_out h
  ·obtain ⟨x27, h28, h⟩ := bo h
   obtain ⟨r43, h42, h⟩ := bo h
   rcases r43 with _ | _
   ·obtain rfl := oi h; exact rl [2] [] [.t, .row (c90 x27), .sum [1, 2, 5, 6, 7] [0, 2] .ret [(2, .y false)] []] (pc h26<|pc (ob90 h28)<|pc (k_palingref15_domains_L3 _ _ h42)<|pn)
   ·obtain rfl := oi h; exact rl [1, 2, 5] [0] [.t, .row (c90 x27), .sum [1, 2, 5, 6, 7] [0, 2] (.exit 4) [(1, .o 0), (2, .y false), (5, .j v25)] [.box 31 (c31 a1) false]] (pc h26<|pc (ob90 h28)<|pc (k_palingref15_domains_L3 _ _ h42)<|pn)
  ·obtain rfl := oi h; exact rl [2] [] [.f] (pc h26<|pn)
 ·rcases r with _ | _ <;> exact Ex.noConfusion

theorem k_palingref15_domains {a1 : Api_Net} {r : Bool} (h : palingref15_domains a1 = some r) :
  CallsOK Tryz.prog UU 67 [.agg (c31 a1)] [] (.y r) [] := by
 unfold palingref15_domains at h
 obtain ⟨r24, h23, h⟩ := bo h
 rcases r24 with _ | _
 ·obtain rfl := oi h; exact rf Tryz.func67 none [.sum [1, 2, 3] [0] .ret [(2, .y false)] []] (pc (k_palingref15_domains_L1 _ _ h23)<|pn)
 ·obtain ⟨r45, h44, h⟩ := bo h
  rcases r45 with _ | _
  ·obtain rfl := oi h; exact rf Tryz.func67 none [.sum [1, 2, 3] [0] (.exit 0) [(1, .o 0), (2, .y false)] [.box 31 (c31 a1) false], .sum [1, 2, 5] [0] .ret [(2, .y false)] []] (pc (k_palingref15_domains_L1 _ _ h23)<|pc (k_palingref15_domains_L2 _ _ h44)<|pn)
  ·obtain rfl := oi h; exact rf Tryz.func67 none [.sum [1, 2, 3] [0] (.exit 0) [(1, .o 0), (2, .y false)] [.box 31 (c31 a1) false], .sum [1, 2, 5] [0] (.exit 2) [(2, .y false)] []] (pc (k_palingref15_domains_L1 _ _ h23)<|pc (k_palingref15_domains_L2 _ _ h44)<|pn)

theorem k_palingref03_Rising_L1 {a1 : List Int} {a2 : Int} {a3 : Int} : LoopOK Tryz.prog UU 0 52 (subC (codeOf Tryz.f202) [1, 1, 0, 1, 0, 0]) (ρ := Unit ⊕ Unit) (palingref03_Rising_L1 a1 a2 a3)
  (fun v6 : Int => ([(0, .sl 3 a1), (1, .j a2), (2, .j a3), (6, .y false), (7, .j v6)] : Fr DD)) (fun v6 : Int => ([] : Heap DD)) (fun r => match r with | Sum.inl _ => .ret | Sum.inr _ => .exit 0) (fun r => match r with | Sum.inl _ => [(6, .y false)] | Sum.inr _ => [(6, .y false)]) (fun r => match r with | Sum.inl _ => [] | Sum.inr _ => []) := by
 refine loop_sound3 (fun s q h => ?_) (fun r => ?_)
 ·replace h : palingref03_Rising_L1 a1 a2 a3 s = some q := h; revert h; revert s; intro v6 h
  unfold palingref03_Rising_L1 at h
  obtain ⟨h7, h⟩|⟨h7, h⟩ := ite_out h
  ·obtain ⟨x8, h9, h⟩ := bo h
   obtain ⟨h10, h⟩|⟨h10, h⟩ := ite_out h
   ·obtain rfl := oi h; exact rl [6] [] [.t, .row (c3 x8), .t] (pc h7<|pc (ob3 h9)<|pc h10<|pn)
   ·obtain ⟨x11, h12, h⟩ := bo h
    obtain ⟨h13, h⟩|⟨h13, h⟩ := ite_out h
    ·obtain rfl := oi h; exact rl [6] [] [.t, .row (c3 x8), .f, .row (c3 x11), .t] (pc h7<|pc (ob3 h9)<|pc h10<|pc (ob3 h12)<|pc h13<|pn)
    ·obtain ⟨h14, h⟩|⟨h14, h⟩ := ite_out h
     ·obtain ⟨x15, h16, h⟩ := bo h
      obtain ⟨x17, h18, h⟩ := bo h
      obtain ⟨h19, h⟩|⟨h19, h⟩ := ite_out h
      ·obtain rfl := oi h; exact rl [6] [] [.t, .row (c3 x8), .f, .row (c3 x11), .f, .t, .row (c3 x15), .row (c3 x17), .t] (pc h7<|pc (ob3 h9)<|pc h10<|pc (ob3 h12)<|pc h13<|pc h14<|pc (ob3 h16)<|pc (ob3 h18)<|pc h19<|pn)
      ·obtain rfl := oi h; exact rl [0, 1, 2, 6, 7] [] [.t, .row (c3 x8), .f, .row (c3 x11), .f, .t, .row (c3 x15), .row (c3 x17), .f] (pc h7<|pc (ob3 h9)<|pc h10<|pc (ob3 h12)<|pc h13<|pc h14<|pc (ob3 h16)<|pc (ob3 h18)<|pc h19<|pn)
     ·obtain rfl := oi h; exact rl [0, 1, 2, 6, 7] [] [.t, .row (c3 x8), .f, .row (c3 x11), .f, .f] (pc h7<|pc (ob3 h9)<|pc h10<|pc (ob3 h12)<|pc h13<|pc h14<|pn)
  ·obtain rfl := oi h; exact rl [6] [] [.f] (pc h7<|pn)
 ·rcases r with _ | _ <;> exact Ex.noConfusion

theorem k_palingref03_Rising {a1 : List Int} {a2 : Int} {a3 : Int} {r : Bool} (h : palingref03_Rising a1 a2 a3 = some r) :
  CallsOK Tryz.prog UU 202 [.sl 3 a1, .j a2, .j a3] [] (.y r) [] := by
 unfold palingref03_Rising at h
 obtain ⟨h4, h⟩|⟨h4, h⟩ := ite_out h
 ·obtain rfl := oi h; exact rf Tryz.func202 none [.t] (pc h4<|pn)
 ·obtain ⟨h5, h⟩|⟨h5, h⟩ := ite_out h
  ·obtain rfl := oi h; exact rf Tryz.func202 none [.f, .t] (pc h4<|pc h5<|pn)
  ·obtain ⟨r21, h20, h⟩ := bo h
   rcases r21 with _ | _
   ·obtain rfl := oi h; exact rf Tryz.func202 none [.f, .f, .sum [0, 1, 2, 6, 7] [] .ret [(6, .y false)] []] (pc h4<|pc h5<|pc (k_palingref03_Rising_L1 _ _ h20)<|pn)
   ·obtain rfl := oi h; exact rf Tryz.func202 none [.f, .f, .sum [0, 1, 2, 6, 7] [] (.exit 0) [(6, .y false)] []] (pc h4<|pc h5<|pc (k_palingref03_Rising_L1 _ _ h20)<|pn)

theorem k_palingref15_rising {a1 : List Int} {a2 : Int} {r : Bool} (h : palingref15_rising a1 a2 = some r) :
  CallsOK Tryz.prog UU 152 [.sl 3 a1, .j a2] [] (.y r) [] := by
 unfold palingref15_rising at h
 obtain ⟨h3, h⟩|⟨h3, h⟩ := ite_out h
 ·obtain rfl := oi h; exact rf Tryz.func152 none [.t] (pc h3<|pn)
 ·obtain ⟨r4, h5, h⟩ := bo h
  obtain rfl := oi h; exact rf Tryz.func152 none [.f, .b r4] (pc h3<|pc (k_palingref03_Rising h5)<|pn)

theorem k_palingref15_ports_J2 {a1 : Api_Net} {v2 : Int} {x4 : Api_Port} {r : Unit ⊕ Unit} (h : palingref15_ports_J2 a1 v2 x4 = some r) :
  ExecOK Tryz.prog UU 0 120 (subC (codeOf Tryz.f68) [1, 0, 1, 0, 0, 1, 0, 0, 1, 1, 0]) [(1, .o 0), (2, .y false), (3, .j v2), (4, .o 1)] [.box 31 (c31 a1) false, .box 110 (c110 x4) false] ((fun r => match r with | Sum.inl _ => .ret | Sum.inr _ => .nor) r) ((fun r => match r with | Sum.inl _ => [(2, .y false)] | Sum.inr _ => [(1, .o 0), (2, .y false), (3, .j v2), (4, .o 1)]) r) ((fun r => match r with | Sum.inl _ => [] | Sum.inr _ => [.box 31 (c31 a1) false, .box 110 (c110 x4) false]) r) := by
 unfold palingref15_ports_J2 at h
 obtain ⟨h17, h⟩|⟨h17, h⟩ := ite_out h
 ·obtain ⟨h18, h⟩|⟨h18, h⟩ := ite_out h
  ·obtain rfl := oi h; exact rl [2] [] [.t, .t] (pc h17<|pc h18<|pn)
  ·obtain ⟨h19, h⟩|⟨h19, h⟩ := ite_out h
   ·obtain ⟨r20, h21, h⟩ := bo h
    obtain ⟨h22, h⟩|⟨h22, h⟩ := ite_out h
    ·obtain rfl := oi h; exact rl [2] [] [.t, .f, .t, .callv (.j r20), .t] (pc h17<|pc h18<|pc h19<|pc (k_palingref15_At h21)<|pc h22<|pn)
    ·obtain rfl := oi h; exact rl [1, 2, 3, 4] [0, 1] [.t, .f, .t, .callv (.j r20), .f] (pc h17<|pc h18<|pc h19<|pc (k_palingref15_At h21)<|pc h22<|pn)
   ·obtain rfl := oi h; exact rl [1, 2, 3, 4] [0, 1] [.t, .f, .f] (pc h17<|pc h18<|pc h19<|pn)
 ·obtain ⟨h23, h⟩|⟨h23, h⟩ := ite_out h
  ·obtain ⟨r24, h25, h⟩ := bo h
   obtain ⟨h26, h⟩|⟨h26, h⟩ := ite_out h
   ·obtain rfl := oi h; exact rl [2] [] [.f, .t, .callv (.j r24), .t] (pc h17<|pc h23<|pc (k_palingref15_At h25)<|pc h26<|pn)
   ·obtain rfl := oi h; exact rl [1, 2, 3, 4] [0, 1] [.f, .t, .callv (.j r24), .f] (pc h17<|pc h23<|pc (k_palingref15_At h25)<|pc h26<|pn)
  ·obtain rfl := oi h; exact rl [1, 2, 3, 4] [0, 1] [.f, .f] (pc h17<|pc h23<|pn)

theorem k_palingref15_ports_L3 {a1 : Api_Net} {v2 : Int} {x4 : Api_Port} : LoopOK Tryz.prog UU 0 120 (subC (codeOf Tryz.f68) [1, 0, 1, 0, 0, 1, 0, 0, 1, 1, 1, 0, 1, 0, 0]) (ρ := Unit ⊕ Unit) (palingref15_ports_L3 a1 v2 x4)
  (fun v29 : Int => ([(1, .o 0), (2, .y false), (3, .j v2), (4, .o 1), (5, .j v29)] : Fr DD)) (fun v29 : Int => ([.box 31 (c31 a1) false, .box 110 (c110 x4) false] : Heap DD)) (fun r => match r with | Sum.inl _ => .ret | Sum.inr _ => .exit 2) (fun r => match r with | Sum.inl _ => [(2, .y false)] | Sum.inr _ => [(1, .o 0), (2, .y false), (3, .j v2), (4, .o 1)]) (fun r => match r with | Sum.inl _ => [] | Sum.inr _ => [.box 31 (c31 a1) false, .box 110 (c110 x4) false]) := by
 refine loop_sound3 (fun s q h => ?_) (fun r => ?_)
 ·replace h : palingref15_ports_L3 a1 v2 x4 s = some q := h; revert h; revert s; intro v29 h
  unfold palingref15_ports_L3 at h
  obtain ⟨h30, h⟩|⟨h30, h⟩ := ite_out h
  ·obtain ⟨x31, h32, h⟩ := bo h
   obtain ⟨r33, h34, h⟩ := bo h
   obtain ⟨h35, h⟩|⟨h35, h⟩ := ite_out h
   ·obtain rfl := oi h; exact rl [2] [] [.t, .row (c3 x31), .callv (.j r33), .t] (pc h30<|pc (ob3 h32)<|pc (k_palingref15_At h34)<|pc h35<|pn)
   ·obtain rfl := oi h; exact rl [1, 2, 3, 4, 5] [0, 1] [.t, .row (c3 x31), .callv (.j r33), .f] (pc h30<|pc (ob3 h32)<|pc (k_palingref15_At h34)<|pc h35<|pn)
  ·obtain rfl := oi h; exact rl [1, 2, 3, 4] [0, 1] [.f] (pc h30<|pn)
 ·rcases r with _ | _ <;> exact Ex.noConfusion

theorem k_palingref15_ports_L1 {a1 : Api_Net} : LoopOK Tryz.prog UU 0 120 (subC (codeOf Tryz.f68) [1, 0, 1, 0, 0]) (ρ := Unit ⊕ Unit) (palingref15_ports_L1 a1)
  (fun v2 : Int => ([(1, .o 0), (2, .y false), (3, .j v2)] : Fr DD)) (fun v2 : Int => ([.box 31 (c31 a1) false] : Heap DD)) (fun r => match r with | Sum.inl _ => .ret | Sum.inr _ => .exit 0) (fun r => match r with | Sum.inl _ => [(2, .y false)] | Sum.inr _ => [(2, .y false)]) (fun r => match r with | Sum.inl _ => [] | Sum.inr _ => []) := by
 refine loop_sound3 (fun s q h => ?_) (fun r => ?_)
 ·replace h : palingref15_ports_L1 a1 s = some q := h; revert h; revert s; intro v2 h
  unfold palingref15_ports_L1 at h
  obtain ⟨h3, h⟩|⟨h3, h⟩ := ite_out h
  ·obtain ⟨x4, h5, h⟩ := bo h
   obtain ⟨r6, h7, h⟩ := bo h
   obtain ⟨h8, h⟩|⟨h8, h⟩ := ite_out h
   ·obtain rfl := oi h; exact rl [2] [] [.t, .row (c110 x4), .b r6, .t] (pc h3<|pc (ob110 h5)<|pc (k_palingref15_Place h7)<|pc h8<|pn)
   ·obtain ⟨h9, h⟩|⟨h9, h⟩ := ite_out h
    ·obtain rfl := oi h; exact rl [2] [] [.t, .row (c110 x4), .b r6, .f, .t] (pc h3<|pc (ob110 h5)<|pc (k_palingref15_Place h7)<|pc h8<|pc h9<|pn)
    ·obtain ⟨h10, h⟩|⟨h10, h⟩ := ite_out h
     ·obtain rfl := oi h; exact rl [2] [] [.t, .row (c110 x4), .b r6, .f, .f, .t] (pc h3<|pc (ob110 h5)<|pc (k_palingref15_Place h7)<|pc h8<|pc h9<|pc h10<|pn)
     ·obtain ⟨r11, h12, h⟩ := bo h
      obtain ⟨h13, h⟩|⟨h13, h⟩ := ite_out h
      ·obtain rfl := oi h; exact rl [2] [] [.t, .row (c110 x4), .b r6, .f, .f, .f, .b r11, .t] (pc h3<|pc (ob110 h5)<|pc (k_palingref15_Place h7)<|pc h8<|pc h9<|pc h10<|pc (k_palingref15_rising h12)<|pc h13<|pn)
      ·obtain ⟨r14, h15, h⟩ := bo h
       obtain ⟨h16, h⟩|⟨h16, h⟩ := ite_out h
       ·obtain rfl := oi h; exact rl [2] [] [.t, .row (c110 x4), .b r6, .f, .f, .f, .b r11, .f, .b r14, .t] (pc h3<|pc (ob110 h5)<|pc (k_palingref15_Place h7)<|pc h8<|pc h9<|pc h10<|pc (k_palingref15_rising h12)<|pc h13<|pc (k_palingref15_In h15)<|pc h16<|pn)
       ·obtain ⟨r28, h27, h⟩ := bo h
        rcases r28 with _ | _
        ·obtain rfl := oi h; exact rl [2] [] [.t, .row (c110 x4), .b r6, .f, .f, .f, .b r11, .f, .b r14, .f, .cut [1, 2, 3, 4] [0, 2] .ret [(2, .y false)] []] (pc h3<|pc (ob110 h5)<|pc (k_palingref15_Place h7)<|pc h8<|pc h9<|pc h10<|pc (k_palingref15_rising h12)<|pc h13<|pc (k_palingref15_In h15)<|pc h16<|pc (k_palingref15_ports_J2 h27)<|pn)
        ·obtain ⟨r37, h36, h⟩ := bo h
         rcases r37 with _ | _
         ·obtain rfl := oi h; exact rl [2] [] [.t, .row (c110 x4), .b r6, .f, .f, .f, .b r11, .f, .b r14, .f, .cut [1, 2, 3, 4] [0, 2] .nor [(1, .o 0), (2, .y false), (3, .j v2), (4, .o 1)] [.box 31 (c31 a1) false, .box 110 (c110 x4) false], .sum [1, 2, 3, 4, 5] [0, 1] .ret [(2, .y false)] []] (pc h3<|pc (ob110 h5)<|pc (k_palingref15_Place h7)<|pc h8<|pc h9<|pc h10<|pc (k_palingref15_rising h12)<|pc h13<|pc (k_palingref15_In h15)<|pc h16<|pc (k_palingref15_ports_J2 h27)<|pc (k_palingref15_ports_L3 _ _ h36)<|pn)
         ·obtain ⟨h38, h⟩|⟨h38, h⟩ := ite_out h
          ·obtain rfl := oi h; exact rl [1, 2, 3] [0] [.t, .row (c110 x4), .b r6, .f, .f, .f, .b r11, .f, .b r14, .f, .cut [1, 2, 3, 4] [0, 2] .nor [(1, .o 0), (2, .y false), (3, .j v2), (4, .o 1)] [.box 31 (c31 a1) false, .box 110 (c110 x4) false], .sum [1, 2, 3, 4, 5] [0, 1] (.exit 2) [(1, .o 0), (2, .y false), (3, .j v2), (4, .o 1)] [.box 31 (c31 a1) false, .box 110 (c110 x4) false], .t] (pc h3<|pc (ob110 h5)<|pc (k_palingref15_Place h7)<|pc h8<|pc h9<|pc h10<|pc (k_palingref15_rising h12)<|pc h13<|pc (k_palingref15_In h15)<|pc h16<|pc (k_palingref15_ports_J2 h27)<|pc (k_palingref15_ports_L3 _ _ h36)<|pc h38<|pn)
          ·obtain ⟨r39, h40, h⟩ := bo h
           obtain ⟨h41, h⟩|⟨h41, h⟩ := ite_out h
           ·obtain rfl := oi h; exact rl [2] [] [.t, .row (c110 x4), .b r6, .f, .f, .f, .b r11, .f, .b r14, .f, .cut [1, 2, 3, 4] [0, 2] .nor [(1, .o 0), (2, .y false), (3, .j v2), (4, .o 1)] [.box 31 (c31 a1) false, .box 110 (c110 x4) false], .sum [1, 2, 3, 4, 5] [0, 1] (.exit 2) [(1, .o 0), (2, .y false), (3, .j v2), (4, .o 1)] [.box 31 (c31 a1) false, .box 110 (c110 x4) false], .f, .b r39, .t] (pc h3<|pc (ob110 h5)<|pc (k_palingref15_Place h7)<|pc h8<|pc h9<|pc h10<|pc (k_palingref15_rising h12)<|pc h13<|pc (k_palingref15_In h15)<|pc h16<|pc (k_palingref15_ports_J2 h27)<|pc (k_palingref15_ports_L3 _ _ h36)<|pc h38<|pc (k_palingref15_Place h40)<|pc h41<|pn)
           ·obtain ⟨x42, h43, h⟩ := bo h
            obtain ⟨h44, h⟩|⟨h44, h⟩ := ite_out h
            ·obtain ⟨x45, h46, h⟩ := bo h
             obtain ⟨h47, h⟩|⟨h47, h⟩ := ite_out h
             ·obtain rfl := oi h; exact rl [2] [] [.t, .row (c110 x4), .b r6, .f, .f, .f, .b r11, .f, .b r14, .f, .cut [1, 2, 3, 4] [0, 2] .nor [(1, .o 0), (2, .y false), (3, .j v2), (4, .o 1)] [.box 31 (c31 a1) false, .box 110 (c110 x4) false], .sum [1, 2, 3, 4, 5] [0, 1] (.exit 2) [(1, .o 0), (2, .y false), (3, .j v2), (4, .o 1)] [.box 31 (c31 a1) false, .box 110 (c110 x4) false], .f, .b r39, .f, .row (c174 x42), .t, .row (c174 x45), .t] (pc h3<|pc (ob110 h5)<|pc (k_palingref15_Place h7)<|pc h8<|pc h9<|pc h10<|pc (k_palingref15_rising h12)<|pc h13<|pc (k_palingref15_In h15)<|pc h16<|pc (k_palingref15_ports_J2 h27)<|pc (k_palingref15_ports_L3 _ _ h36)<|pc h38<|pc (k_palingref15_Place h40)<|pc h41<|pc (ob174 h43)<|pc h44<|pc (ob174 h46)<|pc h47<|pn)
             ·obtain rfl := oi h; exact rl [1, 2, 3] [0] [.t, .row (c110 x4), .b r6, .f, .f, .f, .b r11, .f, .b r14, .f, .cut [1, 2, 3, 4] [0, 2] .nor [(1, .o 0), (2, .y false), (3, .j v2), (4, .o 1)] [.box 31 (c31 a1) false, .box 110 (c110 x4) false], .sum [1, 2, 3, 4, 5] [0, 1] (.exit 2) [(1, .o 0), (2, .y false), (3, .j v2), (4, .o 1)] [.box 31 (c31 a1) false, .box 110 (c110 x4) false], .f, .b r39, .f, .row (c174 x42), .t, .row (c174 x45), .f] (pc h3<|pc (ob110 h5)<|pc (k_palingref15_Place h7)<|pc h8<|pc h9<|pc h10<|pc (k_palingref15_rising h12)<|pc h13<|pc (k_palingref15_In h15)<|pc h16<|pc (k_palingref15_ports_J2 h27)<|pc (k_palingref15_ports_L3 _ _ h36)<|pc h38<|pc (k_palingref15_Place h40)<|pc h41<|pc (ob174 h43)<|pc h44<|pc (ob174 h46)<|pc h47<|pn)
            ·obtain rfl := oi h; exact rl [1, 2, 3] [0] [.t, .row (c110 x4), .b r6, .f, .f, .f, .b r11, .f, .b r14, .f, .cut [1, 2, 3, 4] [0, 2] .nor [(1, .o 0), (2, .y false), (3, .j v2), (4, .o 1)] [.box 31 (c31 a1) false, .box 110 (c110 x4) false], .sum [1, 2, 3, 4, 5] [0, 1] (.exit 2) [(1, .o 0), (2, .y false), (3, .j v2), (4, .o 1)] [.box 31 (c31 a1) false, .box 110 (c110 x4) false], .f, .b r39, .f, .row (c174 x42), .f] (pc h3<|pc (ob110 h5)<|pc (k_palingref15_Place h7)<|pc h8<|pc h9<|pc h10<|pc (k_palingref15_rising h12)<|pc h13<|pc (k_palingref15_In h15)<|pc h16<|pc (k_palingref15_ports_J2 h27)<|pc (k_palingref15_ports_L3 _ _ h36)<|pc h38<|pc (k_palingref15_Place h40)<|pc h41<|pc (ob174 h43)<|pc h44<|pn)
  ·obtain rfl := oi h; exact rl [2] [] [.f] (pc h3<|pn)
 ·rcases r with _ | _ <;> exact Ex.noConfusion

theorem k_palingref15_ports {a1 : Api_Net} {r : Bool} (h : palingref15_ports a1 = some r) :
  CallsOK Tryz.prog UU 68 [.agg (c31 a1)] [] (.y r) [] := by
 unfold palingref15_ports at h
 obtain ⟨r49, h48, h⟩ := bo h
 rcases r49 with _ | _
 ·obtain rfl := oi h; exact rf Tryz.func68 none [.sum [1, 2, 3] [0] .ret [(2, .y false)] []] (pc (k_palingref15_ports_L1 _ _ h48)<|pn)
 ·obtain rfl := oi h; exact rf Tryz.func68 none [.sum [1, 2, 3] [0] (.exit 0) [(2, .y false)] []] (pc (k_palingref15_ports_L1 _ _ h48)<|pn)

theorem k_palingref15_links_L1 {a1 : Api_Net} : LoopOK Tryz.prog UU 0 70 (subC (codeOf Tryz.f69) [1, 0, 1, 0, 0]) (ρ := Unit ⊕ Unit) (palingref15_links_L1 a1)
  (fun v2 : Int => ([(1, .o 0), (2, .y false), (3, .j v2)] : Fr DD)) (fun v2 : Int => ([.box 31 (c31 a1) false] : Heap DD)) (fun r => match r with | Sum.inl _ => .ret | Sum.inr _ => .exit 0) (fun r => match r with | Sum.inl _ => [(2, .y false)] | Sum.inr _ => [(2, .y false)]) (fun r => match r with | Sum.inl _ => [] | Sum.inr _ => []) := by
 refine loop_sound3 (fun s q h => ?_) (fun r => ?_)
 ·replace h : palingref15_links_L1 a1 s = some q := h; revert h; revert s; intro v2 h
  unfold palingref15_links_L1 at h
  obtain ⟨h3, h⟩|⟨h3, h⟩ := ite_out h
  ·obtain ⟨x4, h5, h⟩ := bo h
   obtain ⟨r6, h7, h⟩ := bo h
   obtain ⟨h8, h⟩|⟨h8, h⟩ := ite_out h
   ·obtain rfl := oi h; exact rl [2] [] [.t, .row (c174 x4), .b r6, .t] (pc h3<|pc (ob174 h5)<|pc (k_palingref15_Place h7)<|pc h8<|pn)
   ·obtain ⟨r9, h10, h⟩ := bo h
    obtain ⟨h11, h⟩|⟨h11, h⟩ := ite_out h
    ·obtain rfl := oi h; exact rl [2] [] [.t, .row (c174 x4), .b r6, .f, .b r9, .t] (pc h3<|pc (ob174 h5)<|pc (k_palingref15_Place h7)<|pc h8<|pc (k_palingref15_Place h10)<|pc h11<|pn)
    ·obtain ⟨x12, h13, h⟩ := bo h
     obtain ⟨x14, h15, h⟩ := bo h
     obtain ⟨h16, h⟩|⟨h16, h⟩ := ite_out h
     ·obtain rfl := oi h; exact rl [2] [] [.t, .row (c174 x4), .b r6, .f, .b r9, .f, .row (c110 x12), .row (c110 x14), .t] (pc h3<|pc (ob174 h5)<|pc (k_palingref15_Place h7)<|pc h8<|pc (k_palingref15_Place h10)<|pc h11<|pc (ob110 h13)<|pc (ob110 h15)<|pc h16<|pn)
     ·obtain ⟨x17, h18, h⟩ := bo h
      obtain ⟨h19, h⟩|⟨h19, h⟩ := ite_out h
      ·obtain rfl := oi h; exact rl [2] [] [.t, .row (c174 x4), .b r6, .f, .b r9, .f, .row (c110 x12), .row (c110 x14), .f, .row (c110 x17), .t] (pc h3<|pc (ob174 h5)<|pc (k_palingref15_Place h7)<|pc h8<|pc (k_palingref15_Place h10)<|pc h11<|pc (ob110 h13)<|pc (ob110 h15)<|pc h16<|pc (ob110 h18)<|pc h19<|pn)
      ·obtain ⟨x20, h21, h⟩ := bo h
       obtain ⟨h22, h⟩|⟨h22, h⟩ := ite_out h
       ·obtain rfl := oi h; exact rl [2] [] [.t, .row (c174 x4), .b r6, .f, .b r9, .f, .row (c110 x12), .row (c110 x14), .f, .row (c110 x17), .f, .row (c110 x20), .t] (pc h3<|pc (ob174 h5)<|pc (k_palingref15_Place h7)<|pc h8<|pc (k_palingref15_Place h10)<|pc h11<|pc (ob110 h13)<|pc (ob110 h15)<|pc h16<|pc (ob110 h18)<|pc h19<|pc (ob110 h21)<|pc h22<|pn)
       ·obtain rfl := oi h; exact rl [1, 2, 3] [0] [.t, .row (c174 x4), .b r6, .f, .b r9, .f, .row (c110 x12), .row (c110 x14), .f, .row (c110 x17), .f, .row (c110 x20), .f] (pc h3<|pc (ob174 h5)<|pc (k_palingref15_Place h7)<|pc h8<|pc (k_palingref15_Place h10)<|pc h11<|pc (ob110 h13)<|pc (ob110 h15)<|pc h16<|pc (ob110 h18)<|pc h19<|pc (ob110 h21)<|pc h22<|pn)
  ·obtain rfl := oi h; exact rl [2] [] [.f] (pc h3<|pn)
 ·rcases r with _ | _ <;> exact Ex.noConfusion

theorem k_palingref15_links {a1 : Api_Net} {r : Bool} (h : palingref15_links a1 = some r) :
  CallsOK Tryz.prog UU 69 [.agg (c31 a1)] [] (.y r) [] := by
 unfold palingref15_links at h
 obtain ⟨r24, h23, h⟩ := bo h
 rcases r24 with _ | _
 ·obtain rfl := oi h; exact rf Tryz.func69 none [.sum [1, 2, 3] [0] .ret [(2, .y false)] []] (pc (k_palingref15_links_L1 _ _ h23)<|pn)
 ·obtain rfl := oi h; exact rf Tryz.func69 none [.sum [1, 2, 3] [0] (.exit 0) [(2, .y false)] []] (pc (k_palingref15_links_L1 _ _ h23)<|pn)

theorem k_palingref15_Member {a1 : Api_Port} {a2 : Int} {r : Bool} (h : palingref15_Member a1 a2 = some r) :
  CallsOK Tryz.prog UU 153 [.agg (c110 a1), .j a2] [] (.y r) [] := by
 unfold palingref15_Member at h
 obtain ⟨h3, h⟩|⟨h3, h⟩ := ite_out h
 ·obtain ⟨h4, h⟩|⟨h4, h⟩ := ite_out h
  ·obtain rfl := oi h; exact rf Tryz.func153 none [.t, .t] (pc h3<|pc h4<|pn)
  ·obtain ⟨r5, h6, h⟩ := bo h
   obtain rfl := oi h; exact rf Tryz.func153 none [.t, .f, .b r5] (pc h3<|pc h4<|pc (k_palingref15_In h6)<|pn)
 ·obtain rfl := oi h; exact rf Tryz.func153 none [.f] (pc h3<|pn)

theorem k_palingref15_rest_L1 {a1 : Api_Net} : LoopOK Tryz.prog UU 0 192 (subC (codeOf Tryz.f70) [1, 0, 1, 0, 0]) (ρ := Unit ⊕ Unit) (palingref15_rest_L1 a1)
  (fun v2 : Int => ([(1, .o 0), (2, .y false), (3, .j v2)] : Fr DD)) (fun v2 : Int => ([.box 31 (c31 a1) false] : Heap DD)) (fun r => match r with | Sum.inl _ => .ret | Sum.inr _ => .exit 0) (fun r => match r with | Sum.inl _ => [(2, .y false)] | Sum.inr _ => [(1, .o 0), (2, .y false)]) (fun r => match r with | Sum.inl _ => [] | Sum.inr _ => [.box 31 (c31 a1) false]) := by
 refine loop_sound3 (fun s q h => ?_) (fun r => ?_)
 ·replace h : palingref15_rest_L1 a1 s = some q := h; revert h; revert s; intro v2 h
  unfold palingref15_rest_L1 at h
  obtain ⟨h3, h⟩|⟨h3, h⟩ := ite_out h
  ·obtain ⟨x4, h5, h⟩ := bo h
   obtain ⟨r6, h7, h⟩ := bo h
   obtain ⟨h8, h⟩|⟨h8, h⟩ := ite_out h
   ·obtain rfl := oi h; exact rl [2] [] [.t, .row (c178 x4), .b r6, .t] (pc h3<|pc (ob178 h5)<|pc (k_palingref15_Place h7)<|pc h8<|pn)
   ·obtain ⟨r9, h10, h⟩ := bo h
    obtain ⟨h11, h⟩|⟨h11, h⟩ := ite_out h
    ·obtain rfl := oi h; exact rl [2] [] [.t, .row (c178 x4), .b r6, .f, .b r9, .t] (pc h3<|pc (ob178 h5)<|pc (k_palingref15_Place h7)<|pc h8<|pc (k_palingref15_Place h10)<|pc h11<|pn)
    ·obtain ⟨x12, h13, h⟩ := bo h
     obtain ⟨x14, h15, h⟩ := bo h
     obtain ⟨h16, h⟩|⟨h16, h⟩ := ite_out h
     ·obtain rfl := oi h; exact rl [2] [] [.t, .row (c178 x4), .b r6, .f, .b r9, .f, .row (c90 x12), .row (c110 x14), .t] (pc h3<|pc (ob178 h5)<|pc (k_palingref15_Place h7)<|pc h8<|pc (k_palingref15_Place h10)<|pc h11<|pc (ob90 h13)<|pc (ob110 h15)<|pc h16<|pn)
     ·obtain ⟨x17, h18, h⟩ := bo h
      obtain ⟨r19, h20, h⟩ := bo h
      obtain ⟨h21, h⟩|⟨h21, h⟩ := ite_out h
      ·obtain rfl := oi h; exact rl [2] [] [.t, .row (c178 x4), .b r6, .f, .b r9, .f, .row (c90 x12), .row (c110 x14), .f, .row (c110 x17), .b r19, .t] (pc h3<|pc (ob178 h5)<|pc (k_palingref15_Place h7)<|pc h8<|pc (k_palingref15_Place h10)<|pc h11<|pc (ob90 h13)<|pc (ob110 h15)<|pc h16<|pc (ob110 h18)<|pc (k_palingref15_Member h20)<|pc h21<|pn)
      ·obtain rfl := oi h; exact rl [1, 2, 3] [0] [.t, .row (c178 x4), .b r6, .f, .b r9, .f, .row (c90 x12), .row (c110 x14), .f, .row (c110 x17), .b r19, .f] (pc h3<|pc (ob178 h5)<|pc (k_palingref15_Place h7)<|pc h8<|pc (k_palingref15_Place h10)<|pc h11<|pc (ob90 h13)<|pc (ob110 h15)<|pc h16<|pc (ob110 h18)<|pc (k_palingref15_Member h20)<|pc h21<|pn)
  ·obtain rfl := oi h; exact rl [1, 2] [0] [.f] (pc h3<|pn)
 ·rcases r with _ | _ <;> exact Ex.noConfusion

theorem k_palingref15_rest_L2 {a1 : Api_Net} : LoopOK Tryz.prog UU 0 192 (subC (codeOf Tryz.f70) [1, 1, 0, 1, 0, 0]) (ρ := Unit ⊕ Unit) (palingref15_rest_L2 a1)
  (fun v24 : Int => ([(1, .o 0), (2, .y false), (6, .j v24)] : Fr DD)) (fun v24 : Int => ([.box 31 (c31 a1) false] : Heap DD)) (fun r => match r with | Sum.inl _ => .ret | Sum.inr _ => .exit 2) (fun r => match r with | Sum.inl _ => [(2, .y false)] | Sum.inr _ => [(1, .o 0), (2, .y false)]) (fun r => match r with | Sum.inl _ => [] | Sum.inr _ => [.box 31 (c31 a1) false]) := by
 refine loop_sound3 (fun s q h => ?_) (fun r => ?_)
 ·replace h : palingref15_rest_L2 a1 s = some q := h; revert h; revert s; intro v24 h
  unfold palingref15_rest_L2 at h
  obtain ⟨h25, h⟩|⟨h25, h⟩ := ite_out h
  ·obtain ⟨x26, h27, h⟩ := bo h
   obtain ⟨r28, h29, h⟩ := bo h
   obtain ⟨h30, h⟩|⟨h30, h⟩ := ite_out h
   ·obtain rfl := oi h; exact rl [2] [] [.t, .row (c113 x26), .b r28, .t] (pc h25<|pc (ob113 h27)<|pc (k_palingref15_Place h29)<|pc h30<|pn)
   ·obtain ⟨x31, h32, h⟩ := bo h
    obtain ⟨h33, h⟩|⟨h33, h⟩ := ite_out h
    ·obtain rfl := oi h; exact rl [2] [] [.t, .row (c113 x26), .b r28, .f, .row (c113 x31), .t] (pc h25<|pc (ob113 h27)<|pc (k_palingref15_Place h29)<|pc h30<|pc (ob113 h32)<|pc h33<|pn)
    ·obtain rfl := oi h; exact rl [1, 2, 6] [0] [.t, .row (c113 x26), .b r28, .f, .row (c113 x31), .f] (pc h25<|pc (ob113 h27)<|pc (k_palingref15_Place h29)<|pc h30<|pc (ob113 h32)<|pc h33<|pn)
  ·obtain rfl := oi h; exact rl [1, 2] [0] [.f] (pc h25<|pn)
 ·rcases r with _ | _ <;> exact Ex.noConfusion

theorem k_palingref15_rest_L3 {a1 : Api_Net} : LoopOK Tryz.prog UU 0 192 (subC (codeOf Tryz.f70) [1, 1, 1, 0, 1, 0, 0]) (ρ := Unit ⊕ Unit) (palingref15_rest_L3 a1)
  (fun v36 : Int => ([(1, .o 0), (2, .y false), (7, .j v36)] : Fr DD)) (fun v36 : Int => ([.box 31 (c31 a1) false] : Heap DD)) (fun r => match r with | Sum.inl _ => .ret | Sum.inr _ => .exit 4) (fun r => match r with | Sum.inl _ => [(2, .y false)] | Sum.inr _ => [(1, .o 0), (2, .y false)]) (fun r => match r with | Sum.inl _ => [] | Sum.inr _ => [.box 31 (c31 a1) false]) := by
 refine loop_sound3 (fun s q h => ?_) (fun r => ?_)
 ·replace h : palingref15_rest_L3 a1 s = some q := h; revert h; revert s; intro v36 h
  unfold palingref15_rest_L3 at h
  obtain ⟨h37, h⟩|⟨h37, h⟩ := ite_out h
  ·obtain ⟨x38, h39, h⟩ := bo h
   obtain ⟨r40, h41, h⟩ := bo h
   obtain ⟨h42, h⟩|⟨h42, h⟩ := ite_out h
   ·obtain rfl := oi h; exact rl [2] [] [.t, .row (c88 x38), .b r40, .t] (pc h37<|pc (ob88 h39)<|pc (k_palingref15_Place h41)<|pc h42<|pn)
   ·obtain ⟨r43, h44, h⟩ := bo h
    obtain ⟨h45, h⟩|⟨h45, h⟩ := ite_out h
    ·obtain rfl := oi h; exact rl [2] [] [.t, .row (c88 x38), .b r40, .f, .b r43, .t] (pc h37<|pc (ob88 h39)<|pc (k_palingref15_Place h41)<|pc h42<|pc (k_palingref15_rising h44)<|pc h45<|pn)
    ·obtain ⟨r46, h47, h⟩ := bo h
     obtain ⟨h48, h⟩|⟨h48, h⟩ := ite_out h
     ·obtain rfl := oi h; exact rl [2] [] [.t, .row (c88 x38), .b r40, .f, .b r43, .f, .b r46, .t] (pc h37<|pc (ob88 h39)<|pc (k_palingref15_Place h41)<|pc h42<|pc (k_palingref15_rising h44)<|pc h45<|pc (k_palingref15_rising h47)<|pc h48<|pn)
     ·obtain rfl := oi h; exact rl [1, 2, 7] [0] [.t, .row (c88 x38), .b r40, .f, .b r43, .f, .b r46, .f] (pc h37<|pc (ob88 h39)<|pc (k_palingref15_Place h41)<|pc h42<|pc (k_palingref15_rising h44)<|pc h45<|pc (k_palingref15_rising h47)<|pc h48<|pn)
  ·obtain rfl := oi h; exact rl [1, 2] [0] [.f] (pc h37<|pn)
 ·rcases r with _ | _ <;> exact Ex.noConfusion

theorem k_palingref15_rest_L4 {a1 : Api_Net} : LoopOK Tryz.prog UU 0 192 (subC (codeOf Tryz.f70) [1, 1, 1, 1, 0, 1, 0, 0]) (ρ := Unit ⊕ Unit) (palingref15_rest_L4 a1)
  (fun v51 : Int => ([(1, .o 0), (2, .y false), (9, .j v51)] : Fr DD)) (fun v51 : Int => ([.box 31 (c31 a1) false] : Heap DD)) (fun r => match r with | Sum.inl _ => .ret | Sum.inr _ => .exit 6) (fun r => match r with | Sum.inl _ => [(2, .y false)] | Sum.inr _ => [(2, .y false)]) (fun r => match r with | Sum.inl _ => [] | Sum.inr _ => []) := by
 refine loop_sound3 (fun s q h => ?_) (fun r => ?_)
 ·replace h : palingref15_rest_L4 a1 s = some q := h; revert h; revert s; intro v51 h
  unfold palingref15_rest_L4 at h
  obtain ⟨h52, h⟩|⟨h52, h⟩ := ite_out h
  ·obtain ⟨x53, h54, h⟩ := bo h
   obtain ⟨r55, h56, h⟩ := bo h
   obtain ⟨h57, h⟩|⟨h57, h⟩ := ite_out h
   ·obtain rfl := oi h; exact rl [2] [] [.t, .row (c105 x53), .b r55, .t] (pc h52<|pc (ob105 h54)<|pc (k_palingref15_Place h56)<|pc h57<|pn)
   ·obtain ⟨r58, h59, h⟩ := bo h
    obtain ⟨h60, h⟩|⟨h60, h⟩ := ite_out h
    ·obtain rfl := oi h; exact rl [2] [] [.t, .row (c105 x53), .b r55, .f, .b r58, .t] (pc h52<|pc (ob105 h54)<|pc (k_palingref15_Place h56)<|pc h57<|pc (k_palingref15_Place h59)<|pc h60<|pn)
    ·obtain ⟨h61, h⟩|⟨h61, h⟩ := ite_out h
     ·obtain rfl := oi h; exact rl [2] [] [.t, .row (c105 x53), .b r55, .f, .b r58, .f, .t] (pc h52<|pc (ob105 h54)<|pc (k_palingref15_Place h56)<|pc h57<|pc (k_palingref15_Place h59)<|pc h60<|pc h61<|pn)
     ·obtain ⟨h62, h⟩|⟨h62, h⟩ := ite_out h
      ·obtain rfl := oi h; exact rl [2] [] [.t, .row (c105 x53), .b r55, .f, .b r58, .f, .f, .t] (pc h52<|pc (ob105 h54)<|pc (k_palingref15_Place h56)<|pc h57<|pc (k_palingref15_Place h59)<|pc h60<|pc h61<|pc h62<|pn)
      ·obtain ⟨x63, h64, h⟩ := bo h
       obtain ⟨x65, h66, h⟩ := bo h
       obtain ⟨h67, h⟩|⟨h67, h⟩ := ite_out h
       ·obtain rfl := oi h; exact rl [2] [] [.t, .row (c105 x53), .b r55, .f, .b r58, .f, .f, .f, .row (c90 x63), .row (c88 x65), .t] (pc h52<|pc (ob105 h54)<|pc (k_palingref15_Place h56)<|pc h57<|pc (k_palingref15_Place h59)<|pc h60<|pc h61<|pc h62<|pc (ob90 h64)<|pc (ob88 h66)<|pc h67<|pn)
       ·obtain ⟨x68, h69, h⟩ := bo h
        obtain ⟨h70, h⟩|⟨h70, h⟩ := ite_out h
        ·obtain rfl := oi h; exact rl [2] [] [.t, .row (c105 x53), .b r55, .f, .b r58, .f, .f, .f, .row (c90 x63), .row (c88 x65), .f, .row (c90 x68), .t] (pc h52<|pc (ob105 h54)<|pc (k_palingref15_Place h56)<|pc h57<|pc (k_palingref15_Place h59)<|pc h60<|pc h61<|pc h62<|pc (ob90 h64)<|pc (ob88 h66)<|pc h67<|pc (ob90 h69)<|pc h70<|pn)
        ·obtain rfl := oi h; exact rl [1, 2, 9] [0] [.t, .row (c105 x53), .b r55, .f, .b r58, .f, .f, .f, .row (c90 x63), .row (c88 x65), .f, .row (c90 x68), .f] (pc h52<|pc (ob105 h54)<|pc (k_palingref15_Place h56)<|pc h57<|pc (k_palingref15_Place h59)<|pc h60<|pc h61<|pc h62<|pc (ob90 h64)<|pc (ob88 h66)<|pc h67<|pc (ob90 h69)<|pc h70<|pn)
  ·obtain rfl := oi h; exact rl [2] [] [.f] (pc h52<|pn)
 ·rcases r with _ | _ <;> exact Ex.noConfusion

theorem k_palingref15_rest {a1 : Api_Net} {r : Bool} (h : palingref15_rest a1 = some r) :
  CallsOK Tryz.prog UU 70 [.agg (c31 a1)] [] (.y r) [] := by
 unfold palingref15_rest at h
 obtain ⟨r23, h22, h⟩ := bo h
 rcases r23 with _ | _
 ·obtain rfl := oi h; exact rf Tryz.func70 none [.sum [1, 2, 3] [0] .ret [(2, .y false)] []] (pc (k_palingref15_rest_L1 _ _ h22)<|pn)
 ·obtain ⟨r35, h34, h⟩ := bo h
  rcases r35 with _ | _
  ·obtain rfl := oi h; exact rf Tryz.func70 none [.sum [1, 2, 3] [0] (.exit 0) [(1, .o 0), (2, .y false)] [.box 31 (c31 a1) false], .sum [1, 2, 6] [0] .ret [(2, .y false)] []] (pc (k_palingref15_rest_L1 _ _ h22)<|pc (k_palingref15_rest_L2 _ _ h34)<|pn)
  ·obtain ⟨r50, h49, h⟩ := bo h
   rcases r50 with _ | _
   ·obtain rfl := oi h; exact rf Tryz.func70 none [.sum [1, 2, 3] [0] (.exit 0) [(1, .o 0), (2, .y false)] [.box 31 (c31 a1) false], .sum [1, 2, 6] [0] (.exit 2) [(1, .o 0), (2, .y false)] [.box 31 (c31 a1) false], .sum [1, 2, 7] [0] .ret [(2, .y false)] []] (pc (k_palingref15_rest_L1 _ _ h22)<|pc (k_palingref15_rest_L2 _ _ h34)<|pc (k_palingref15_rest_L3 _ _ h49)<|pn)
   ·obtain ⟨r72, h71, h⟩ := bo h
    rcases r72 with _ | _
    ·obtain rfl := oi h; exact rf Tryz.func70 none [.sum [1, 2, 3] [0] (.exit 0) [(1, .o 0), (2, .y false)] [.box 31 (c31 a1) false], .sum [1, 2, 6] [0] (.exit 2) [(1, .o 0), (2, .y false)] [.box 31 (c31 a1) false], .sum [1, 2, 7] [0] (.exit 4) [(1, .o 0), (2, .y false)] [.box 31 (c31 a1) false], .sum [1, 2, 9] [0] .ret [(2, .y false)] []] (pc (k_palingref15_rest_L1 _ _ h22)<|pc (k_palingref15_rest_L2 _ _ h34)<|pc (k_palingref15_rest_L3 _ _ h49)<|pc (k_palingref15_rest_L4 _ _ h71)<|pn)
    ·obtain rfl := oi h; exact rf Tryz.func70 none [.sum [1, 2, 3] [0] (.exit 0) [(1, .o 0), (2, .y false)] [.box 31 (c31 a1) false], .sum [1, 2, 6] [0] (.exit 2) [(1, .o 0), (2, .y false)] [.box 31 (c31 a1) false], .sum [1, 2, 7] [0] (.exit 4) [(1, .o 0), (2, .y false)] [.box 31 (c31 a1) false], .sum [1, 2, 9] [0] (.exit 6) [(2, .y false)] []] (pc (k_palingref15_rest_L1 _ _ h22)<|pc (k_palingref15_rest_L2 _ _ h34)<|pc (k_palingref15_rest_L3 _ _ h49)<|pc (k_palingref15_rest_L4 _ _ h71)<|pn)

theorem k_palingref15_Right {a1 : Api_Net} {r : Bool} (h : palingref15_Right a1 = some r) :
  CallsOK Tryz.prog UU 19 [.agg (c31 a1)] [] (.y r) [] := by
 unfold palingref15_Right at h
 obtain ⟨h2, h⟩|⟨h2, h⟩ := ite_out h
 ·obtain rfl := oi h; exact rf Tryz.func19 none [.t] (pc h2<|pn)
 ·obtain ⟨h3, h⟩|⟨h3, h⟩ := ite_out h
  ·obtain rfl := oi h; exact rf Tryz.func19 none [.f, .t] (pc h2<|pc h3<|pn)
  ·obtain ⟨h4, h⟩|⟨h4, h⟩ := ite_out h
   ·obtain rfl := oi h; exact rf Tryz.func19 none [.f, .f, .t] (pc h2<|pc h3<|pc h4<|pn)
   ·obtain ⟨h5, h⟩|⟨h5, h⟩ := ite_out h
    ·obtain rfl := oi h; exact rf Tryz.func19 none [.f, .f, .f, .t] (pc h2<|pc h3<|pc h4<|pc h5<|pn)
    ·obtain ⟨h6, h⟩|⟨h6, h⟩ := ite_out h
     ·obtain rfl := oi h; exact rf Tryz.func19 none [.f, .f, .f, .f, .t] (pc h2<|pc h3<|pc h4<|pc h5<|pc h6<|pn)
     ·obtain ⟨h7, h⟩|⟨h7, h⟩ := ite_out h
      ·obtain rfl := oi h; exact rf Tryz.func19 none [.f, .f, .f, .f, .f, .t] (pc h2<|pc h3<|pc h4<|pc h5<|pc h6<|pc h7<|pn)
      ·obtain ⟨h8, h⟩|⟨h8, h⟩ := ite_out h
       ·obtain rfl := oi h; exact rf Tryz.func19 none [.f, .f, .f, .f, .f, .f, .t] (pc h2<|pc h3<|pc h4<|pc h5<|pc h6<|pc h7<|pc h8<|pn)
       ·obtain ⟨h9, h⟩|⟨h9, h⟩ := ite_out h
        ·obtain rfl := oi h; exact rf Tryz.func19 none [.f, .f, .f, .f, .f, .f, .f, .t] (pc h2<|pc h3<|pc h4<|pc h5<|pc h6<|pc h7<|pc h8<|pc h9<|pn)
        ·obtain ⟨r10, h11, h⟩ := bo h
         obtain ⟨h12, h⟩|⟨h12, h⟩ := ite_out h
         ·obtain ⟨r13, h14, h⟩ := bo h
          obtain ⟨h15, h⟩|⟨h15, h⟩ := ite_out h
          ·obtain ⟨r16, h17, h⟩ := bo h
           obtain ⟨h18, h⟩|⟨h18, h⟩ := ite_out h
           ·obtain ⟨r19, h20, h⟩ := bo h
            obtain rfl := oi h; exact rf Tryz.func19 none [.f, .f, .f, .f, .f, .f, .f, .f, .b r10, .t, .b r13, .t, .b r16, .t, .b r19] (pc h2<|pc h3<|pc h4<|pc h5<|pc h6<|pc h7<|pc h8<|pc h9<|pc (k_palingref15_domains h11)<|pc h12<|pc (k_palingref15_ports h14)<|pc h15<|pc (k_palingref15_links h17)<|pc h18<|pc (k_palingref15_rest h20)<|pn)
           ·obtain rfl := oi h; exact rf Tryz.func19 none [.f, .f, .f, .f, .f, .f, .f, .f, .b r10, .t, .b r13, .t, .b r16, .f] (pc h2<|pc h3<|pc h4<|pc h5<|pc h6<|pc h7<|pc h8<|pc h9<|pc (k_palingref15_domains h11)<|pc h12<|pc (k_palingref15_ports h14)<|pc h15<|pc (k_palingref15_links h17)<|pc h18<|pn)
          ·obtain rfl := oi h; exact rf Tryz.func19 none [.f, .f, .f, .f, .f, .f, .f, .f, .b r10, .t, .b r13, .f] (pc h2<|pc h3<|pc h4<|pc h5<|pc h6<|pc h7<|pc h8<|pc h9<|pc (k_palingref15_domains h11)<|pc h12<|pc (k_palingref15_ports h14)<|pc h15<|pn)
         ·obtain rfl := oi h; exact rf Tryz.func19 none [.f, .f, .f, .f, .f, .f, .f, .f, .b r10, .f] (pc h2<|pc h3<|pc h4<|pc h5<|pc h6<|pc h7<|pc h8<|pc h9<|pc (k_palingref15_domains h11)<|pc h12<|pn)

theorem k_palingref19_Find_L1 {a1 : Api_Net} {a2 : Int} {a3 : Int} : LoopOK Tryz.prog UU 0 38 (subC (codeOf Tryz.f20) [1, 0, 1, 0, 0]) (ρ := Int ⊕ Unit) (palingref19_Find_L1 a1 a2 a3)
  (fun v4 : Int => ([(1, .j a2), (2, .j a3), (3, .o 0), (6, .z), (7, .j v4)] : Fr DD)) (fun v4 : Int => ([.box 31 (c31 a1) false] : Heap DD)) (fun r => match r with | Sum.inl v14 => .ret | Sum.inr _ => .exit 0) (fun r => match r with | Sum.inl v14 => [(6, .j v14)] | Sum.inr _ => [(6, .z)]) (fun r => match r with | Sum.inl v14 => [] | Sum.inr _ => []) := by
 refine loop_sound3 (fun s q h => ?_) (fun r => ?_)
 ·replace h : palingref19_Find_L1 a1 a2 a3 s = some q := h; revert h; revert s; intro v4 h
  unfold palingref19_Find_L1 at h
  obtain ⟨h5, h⟩|⟨h5, h⟩ := ite_out h
  ·obtain ⟨x6, h7, h⟩ := bo h
   obtain ⟨h8, h⟩|⟨h8, h⟩ := ite_out h
   ·obtain ⟨x9, h10, h⟩ := bo h
    obtain ⟨h11, h⟩|⟨h11, h⟩ := ite_out h
    ·obtain ⟨h12, h⟩|⟨h12, h⟩ := ite_out h
     ·obtain rfl := oi h; exact rl [6] [] [.t, .row (c90 x6), .t, .row (c90 x9), .t, .t] (pc h5<|pc (ob90 h7)<|pc h8<|pc (ob90 h10)<|pc h11<|pc h12<|pn)
     ·obtain rfl := oi h; exact rl [1, 2, 3, 6, 7] [0] [.t, .row (c90 x6), .t, .row (c90 x9), .t, .f] (pc h5<|pc (ob90 h7)<|pc h8<|pc (ob90 h10)<|pc h11<|pc h12<|pn)
    ·obtain rfl := oi h; exact rl [1, 2, 3, 6, 7] [0] [.t, .row (c90 x6), .t, .row (c90 x9), .f] (pc h5<|pc (ob90 h7)<|pc h8<|pc (ob90 h10)<|pc h11<|pn)
   ·obtain rfl := oi h; exact rl [1, 2, 3, 6, 7] [0] [.t, .row (c90 x6), .f] (pc h5<|pc (ob90 h7)<|pc h8<|pn)
  ·obtain rfl := oi h; exact rl [6] [] [.f] (pc h5<|pn)
 ·rcases r with _ | _ <;> exact Ex.noConfusion

theorem k_palingref19_Find {a1 : Api_Net} {a2 : Int} {a3 : Int} {r : Int} (h : palingref19_Find a1 a2 a3 = some r) :
  CallsOK Tryz.prog UU 20 [.agg (c31 a1), .j a2, .j a3] [] (.j r) [] := by
 unfold palingref19_Find at h
 obtain ⟨r16, h15, h⟩ := bo h
 rcases r16 with v14 | _
 ·obtain rfl := oi h; exact rf Tryz.func20 none [.sum [1, 2, 3, 6, 7] [0] .ret [(6, .j v14)] []] (pc (k_palingref19_Find_L1 _ _ h15)<|pn)
 ·obtain rfl := oi h; exact rf Tryz.func20 none [.sum [1, 2, 3, 6, 7] [0] (.exit 0) [(6, .z)] []] (pc (k_palingref19_Find_L1 _ _ h15)<|pn)

end Go.Eng
