/- Part of the proof of AuditTells: printed mirrors of the functions, or their contracts. No conditions. -/
import Derived.Test.YtdlaaoajcoogbaaGreatDoorMAK4
set_option linter.unusedVariables false
set_option maxRecDepth 100000
namespace Go.Eng
open Go Go.Proofs
theorem k_palingref18_Hosts_L1 {a1 : Api_Net} {l5 : List Int} : LoopOK Tryz.prog UU 0 35 (subC (codeOf Tryz.f96) [1, 1, 1, 0, 1, 0, 0]) (fun s : (List Int) × Int => match s with | (l6, v7) => palingref18_Hosts_L1 a1 l5 l6 v7)
  (fun s : (List Int) × Int => (match s with | (l6, v7) => [(2, .o 0), (4, .os 1 0), (5, .os 2 l6.length), (6, .os 3 l5.length), (7, .j v7)] : Fr DD)) (fun s : (List Int) × Int => (match s with | (l6, v7) => [.box 31 (c31 a1) false, .n 3, .w 3 l6, .w 3 l5] : Heap DD)) (fun r => match r with | l20 => .exit 0) (fun r => match r with | l20 => [(4, .os 0 0), (5, .os 1 l20.length)]) (fun r => match r with | l20 => [.n 3, .w 3 l20]) := by
 refine loop_sound3 (fun s q h => ?_) (fun r => ?_)
 ·obtain ⟨l6, v7⟩ := s; replace h : palingref18_Hosts_L1 a1 l5 l6 v7 = some q := h
  unfold palingref18_Hosts_L1 at h
  obtain ⟨h8, h⟩|⟨h8, h⟩ := ite_out h
  ·obtain ⟨h9, h⟩|⟨h9, h⟩ := ite_out h
   ·obtain ⟨x10, h11, h⟩ := bo h
    obtain ⟨x12, h13, h⟩ := bo h
    obtain ⟨h14, h⟩|⟨h14, h⟩ := ite_out h
    ·obtain ⟨x15, h16, h⟩ := bo h
     obtain ⟨h17, h⟩|⟨h17, h⟩ := ite_out h
     ·obtain rfl := oi h; exact rl [2, 4, 5, 6, 7] [0, 1, 2, 3] [.t, .row (c3 x10), .row (c52 x12), .t, .row (c3 x15), .obj [] (.w 3 [x15]), .obj [] (.w 3 (l6 ++ [x15]))] (pc (rn l5.length)<|pc h8<|pc (an l5.length (lin_ob h9))<|pc (an l5.length (obn3 h11))<|pc (ob52 h13)<|pc h14<|pc (an l5.length (lin_ob h9))<|pc (an l5.length (obn3 h16))<|pc (bs_ob 3 [x15])<|pc (app_ob 3 (n := l6.length) (l := l6) (xs := [x15]) h17)<|pc (rn (List.length [x15]))<|pn)
     ·cases h
    ·obtain rfl := oi h; exact rl [2, 4, 5, 6, 7] [0, 1, 2, 3] [.t, .row (c3 x10), .row (c52 x12), .f] (pc (rn l5.length)<|pc h8<|pc (an l5.length (lin_ob h9))<|pc (an l5.length (obn3 h11))<|pc (ob52 h13)<|pc h14<|pn)
   ·cases h
  ·obtain rfl := oi h; exact rl [4, 5] [1, 2] [.f] (pc (rn l5.length)<|pc h8<|pn)
 ·exact Ex.noConfusion

theorem k_palingref18_Hosts {a1 : Api_Net} {a2 : Int} {r : ((List Int))} (h : palingref18_Hosts a1 a2 = some r) :
  CallsOK Tryz.prog UU 96 [.agg (c31 a1), .j a2] [] ((fun r => match r with | l23 => .os 0 l23.length) r) ((fun r => match r with | l23 => [.w 3 l23]) r) := by
 unfold palingref18_Hosts at h
 obtain ⟨l5, h4, h⟩ := bo h
 obtain ⟨l20, h21, h⟩ := bo h
 obtain rfl := oi h; exact rf Tryz.func96 (some [1]) [.callo (.os 0 l5.length) [.w 3 l5], .sum [2, 4, 5, 6, 7] [0, 1, 2, 3] (.exit 0) [(4, .os 0 0), (5, .os 1 l20.length)] [.n 3, .w 3 l20]] (pc (k_palingref15_Members h4)<|pc (im3 l5)<|pc (k_palingref18_Hosts_L1 _ _ h21)<|pn)

theorem k_palingref47_heard_L1 {a1 : Api_Net} {l5 : List Int} {n6 : Nat} : LoopOK Tryz.prog UU 0 28 (subC (codeOf Tryz.f65) [1, 1, 0, 1, 0, 0]) (ρ := Unit ⊕ Unit) (palingref47_heard_L1 a1 l5 n6)
  (fun v7 : Int => ([(2, .o 0), (4, .y false), (5, .os 1 n6), (6, .j v7)] : Fr DD)) (fun v7 : Int => ([.box 31 (c31 a1) false, .arr 3 l5 n6 false] : Heap DD)) (fun r => match r with | Sum.inl _ => .ret | Sum.inr _ => .exit 0) (fun r => match r with | Sum.inl _ => [(4, .y true)] | Sum.inr _ => [(4, .y false)]) (fun r => match r with | Sum.inl _ => [] | Sum.inr _ => []) := by
 refine loop_sound3 (fun s q h => ?_) (fun r => ?_)
 ·replace h : palingref47_heard_L1 a1 l5 n6 s = some q := h; revert h; revert s; intro v7 h
  unfold palingref47_heard_L1 at h
  obtain ⟨h8, h⟩|⟨h8, h⟩ := ite_out h
  ·obtain ⟨h9, h⟩|⟨h9, h⟩ := ite_out h
   ·obtain ⟨x10, h11, h⟩ := bo h
    obtain ⟨h12, h⟩|⟨h12, h⟩ := ite_out h
    ·obtain ⟨l15, h14, h⟩ := bo h
     obtain ⟨h16, h⟩|⟨h16, h⟩ := ite_out h
     ·obtain rfl := oi h; exact rl [4] [] [.t, .row (c3 x10), .t, .callo (.os 0 l15.length) [.w 3 l15], .t] (pc (rn n6)<|pc h8<|pc (an n6 (lin_ob h9))<|pc (an n6 (obn3 h11))<|pc h12<|pc (k_palingref18_Hosts h14)<|pc (im3 l15)<|pc (rn l15.length)<|pc h16<|pn)
     ·obtain rfl := oi h; exact rl [2, 4, 5, 6] [0, 1] [.t, .row (c3 x10), .t, .callo (.os 0 l15.length) [.w 3 l15], .f] (pc (rn n6)<|pc h8<|pc (an n6 (lin_ob h9))<|pc (an n6 (obn3 h11))<|pc h12<|pc (k_palingref18_Hosts h14)<|pc (im3 l15)<|pc (rn l15.length)<|pc h16<|pn)
    ·obtain rfl := oi h; exact rl [2, 4, 5, 6] [0, 1] [.t, .row (c3 x10), .f] (pc (rn n6)<|pc h8<|pc (an n6 (lin_ob h9))<|pc (an n6 (obn3 h11))<|pc h12<|pn)
   ·cases h
  ·obtain rfl := oi h; exact rl [4] [] [.f] (pc (rn n6)<|pc h8<|pn)
 ·rcases r with _ | _ <;> exact Ex.noConfusion

theorem k_palingref47_heard {a1 : Api_Net} {a2 : Int} {r : Bool} (h : palingref47_heard a1 a2 = some r) :
  CallsOK Tryz.prog UU 65 [.agg (c31 a1), .j a2] [] (.y r) [] := by
 unfold palingref47_heard at h
 obtain ⟨r3, h4, h⟩ := bo h
 obtain ⟨l5, n6⟩ := r3
 obtain ⟨r18, h17, h⟩ := bo h
 rcases r18 with _ | _
 ·obtain rfl := oi h; exact rf Tryz.func65 none [.callo (.os 0 n6) [.arr 3 l5 n6 false], .sum [2, 4, 5, 6] [0, 1] .ret [(4, .y true)] []] (pc (k_palingref35_Steps h4)<|pc (im3 l5)<|pc (k_palingref47_heard_L1 _ _ h17)<|pn)
 ·obtain rfl := oi h; exact rf Tryz.func65 none [.callo (.os 0 n6) [.arr 3 l5 n6 false], .sum [2, 4, 5, 6] [0, 1] (.exit 0) [(4, .y false)] []] (pc (k_palingref35_Steps h4)<|pc (im3 l5)<|pc (k_palingref47_heard_L1 _ _ h17)<|pn)

theorem k_palingref47_domains_J2 {a1 : Api_Net} {l2 : List Palingref47_Note} {l3 : List Palingref47_Note} {v4 : Int} {x6 : Api_Domain} {r : (List Palingref47_Note)} (h : palingref47_domains_J2 a1 l2 l3 v4 x6 = some r) :
  ExecOK Tryz.prog UU 0 51 (subC (codeOf Tryz.f25) [1, 1, 1, 0, 1, 0, 0, 1, 0, 0, 1, 0]) [(1, .o 0), (2, .os 1 0), (3, .os 2 l2.length), (4, .os 3 l3.length), (5, .j v4), (6, .o 4)] [.box 31 (c31 a1) false, .n 43, .w 43 l2, .w 43 l3, .box 63 (c63 x6) false] ((fun r => match r with | l17 => .nor) r) ((fun r => match r with | l17 => [(1, .o 0), (2, .os 1 0), (3, .os 2 l17.length), (4, .os 3 l3.length), (5, .j v4), (6, .o 4)]) r) ((fun r => match r with | l17 => [.box 31 (c31 a1) false, .n 43, .w 43 l17, .w 43 l3, .box 63 (c63 x6) false]) r) := by
 unfold palingref47_domains_J2 at h
 obtain ⟨h8, h⟩|⟨h8, h⟩ := ite_out h
 ·obtain ⟨h9, h⟩|⟨h9, h⟩ := ite_out h
  ·obtain ⟨h10, h⟩|⟨h10, h⟩ := ite_out h
   ·obtain rfl := oi h; exact rl [1, 2, 3, 4, 5, 6] [0, 1, 2, 3, 4] [.t, .t, .obj [] (.w 43 [(⟨3, x6.row, v4, x6.vni⟩ : Palingref47_Note)]), .obj [] (.w 43 (l2 ++ [(⟨3, x6.row, v4, x6.vni⟩ : Palingref47_Note)]))] (pc h8<|pc h9<|pc (bs_ob 43 [(⟨3, x6.row, v4, x6.vni⟩ : Palingref47_Note)])<|pc (app_ob 43 (n := l2.length) (l := l2) (xs := [(⟨3, x6.row, v4, x6.vni⟩ : Palingref47_Note)]) h10)<|pc (rn (List.length [(⟨3, x6.row, v4, x6.vni⟩ : Palingref47_Note)]))<|pn)
   ·cases h
  ·obtain rfl := oi h; exact rl [1, 2, 3, 4, 5, 6] [0, 1, 2, 3, 4] [.t, .f] (pc h8<|pc h9<|pn)
 ·obtain rfl := oi h; exact rl [1, 2, 3, 4, 5, 6] [0, 1, 2, 3, 4] [.f] (pc h8<|pn)

theorem k_palingref47_domains_L1 {a1 : Api_Net} : LoopOK Tryz.prog UU 0 51 (subC (codeOf Tryz.f25) [1, 1, 1, 0, 1, 0, 0]) (fun s : (List Palingref47_Note) × (List Palingref47_Note) × Int => match s with | (l2, l3, v4) => palingref47_domains_L1 a1 l2 l3 v4)
  (fun s : (List Palingref47_Note) × (List Palingref47_Note) × Int => (match s with | (l2, l3, v4) => [(1, .o 0), (2, .os 1 0), (3, .os 2 l2.length), (4, .os 3 l3.length), (5, .j v4)] : Fr DD)) (fun s : (List Palingref47_Note) × (List Palingref47_Note) × Int => (match s with | (l2, l3, v4) => [.box 31 (c31 a1) false, .n 43, .w 43 l2, .w 43 l3] : Heap DD)) (fun r => match r with | (l30, l31) => .exit 0) (fun r => match r with | (l30, l31) => [(2, .os 0 0), (3, .os 1 l30.length), (4, .os 2 l31.length)]) (fun r => match r with | (l30, l31) => [.n 43, .w 43 l30, .w 43 l31]) := by
 refine loop_sound3 (fun s q h => ?_) (fun r => ?_)
 ·obtain ⟨l2, l3, v4⟩ := s; replace h : palingref47_domains_L1 a1 l2 l3 v4 = some q := h
  unfold palingref47_domains_L1 at h
  obtain ⟨h5, h⟩|⟨h5, h⟩ := ite_out h
  ·obtain ⟨x6, h7, h⟩ := bo h
   obtain ⟨l17, h18, h⟩ := bo h
   obtain ⟨r20, h21, h⟩ := bo h
   obtain ⟨h22, h⟩|⟨h22, h⟩ := ite_out h
   ·obtain ⟨h23, h⟩|⟨h23, h⟩ := ite_out h
    ·obtain rfl := oi h; exact rl [1, 2, 3, 4, 5] [0, 1, 2, 3] [.t, .row (c63 x6), .cut [1, 2, 3, 4, 5, 6] [0, 1, 2, 3, 5] .nor [(1, .o 0), (2, .os 1 0), (3, .os 2 l17.length), (4, .os 3 l3.length), (5, .j v4), (6, .o 4)] [.box 31 (c31 a1) false, .n 43, .w 43 l17, .w 43 l3, .box 63 (c63 x6) false], .b r20, .t, .obj [] (.w 43 [(⟨4, 0, v4, x6.vlan⟩ : Palingref47_Note)]), .obj [] (.w 43 (l3 ++ [(⟨4, 0, v4, x6.vlan⟩ : Palingref47_Note)]))] (pc h5<|pc (ob63 h7)<|pc (k_palingref47_domains_J2 h18)<|pc (k_palingref47_heard h21)<|pc h22<|pc (bs_ob 43 [(⟨4, 0, v4, x6.vlan⟩ : Palingref47_Note)])<|pc (app_ob 43 (n := l3.length) (l := l3) (xs := [(⟨4, 0, v4, x6.vlan⟩ : Palingref47_Note)]) h23)<|pc (rn (List.length [(⟨4, 0, v4, x6.vlan⟩ : Palingref47_Note)]))<|pn)
    ·cases h
   ·obtain rfl := oi h; exact rl [1, 2, 3, 4, 5] [0, 1, 2, 3] [.t, .row (c63 x6), .cut [1, 2, 3, 4, 5, 6] [0, 1, 2, 3, 5] .nor [(1, .o 0), (2, .os 1 0), (3, .os 2 l17.length), (4, .os 3 l3.length), (5, .j v4), (6, .o 4)] [.box 31 (c31 a1) false, .n 43, .w 43 l17, .w 43 l3, .box 63 (c63 x6) false], .b r20, .f] (pc h5<|pc (ob63 h7)<|pc (k_palingref47_domains_J2 h18)<|pc (k_palingref47_heard h21)<|pc h22<|pn)
  ·obtain rfl := oi h; exact rl [2, 3, 4] [1, 2, 3] [.f] (pc h5<|pn)
 ·exact Ex.noConfusion

theorem k_palingref47_domains {a1 : Api_Net} {r : ((List Palingref47_Note))} (h : palingref47_domains a1 = some r) :
  CallsOK Tryz.prog UU 25 [.agg (c31 a1)] [] ((fun r => match r with | l35 => .os 0 l35.length) r) ((fun r => match r with | l35 => [.w 43 l35]) r) := by
 unfold palingref47_domains at h
 obtain ⟨r33, h32, h⟩ := bo h
 obtain ⟨l30, l31⟩ := r33
 obtain ⟨h34, h⟩|⟨h34, h⟩ := ite_out h
 ·obtain rfl := oi h; exact rf Tryz.func25 (some [1]) [.sum [1, 2, 3, 4, 5] [0, 1, 2, 3] (.exit 0) [(2, .os 0 0), (3, .os 1 l30.length), (4, .os 2 l31.length)] [.n 43, .w 43 l30, .w 43 l31], .obj [] (.w 43 (l30 ++ l31))] (pc (k_palingref47_domains_L1 _ _ h32)<|pc (app_ob 43 (n := l30.length) (l := l30) (xs := l31) h34)<|pc (rn l31.length)<|pn)
 ·cases h

theorem k_palingref47_records_L2 {a1 : Api_Net} {l2 : List Palingref47_Note} {v3 : Int} : LoopOK Tryz.prog UU 0 129 (subC (codeOf Tryz.f26) [1, 1, 0, 1, 0, 0, 1, 0, 0, 1, 0, 1, 0, 0]) (fun s : Bool × Int => match s with | (v5, v6) => palingref47_records_L2 a1 l2 v3 v5 v6)
  (fun s : Bool × Int => (match s with | (v5, v6) => [(1, .o 0), (2, .os 1 0), (3, .os 2 l2.length), (4, .j v3), (5, .y v5), (6, .j v6)] : Fr DD)) (fun s : Bool × Int => (match s with | (v5, v6) => [.box 31 (c31 a1) false, .n 43, .w 43 l2] : Heap DD)) (fun r => match r with | v12 => .exit 2) (fun r => match r with | v12 => [(1, .o 0), (2, .os 1 0), (3, .os 2 l2.length), (4, .j v3), (5, .y v12)]) (fun r => match r with | v12 => [.box 31 (c31 a1) false, .n 43, .w 43 l2]) := by
 refine loop_sound3 (fun s q h => ?_) (fun r => ?_)
 ·obtain ⟨v5, v6⟩ := s; replace h : palingref47_records_L2 a1 l2 v3 v5 v6 = some q := h
  unfold palingref47_records_L2 at h
  obtain ⟨h7, h⟩|⟨h7, h⟩ := ite_out h
  ·obtain ⟨h8, h⟩|⟨h8, h⟩ := ite_out h
   ·obtain rfl := oi h; exact rl [1, 2, 3, 4, 5, 6] [0, 1, 2] [.t, .t] (pc h7<|pc h8<|pn)
   ·obtain ⟨x9, h10, h⟩ := bo h
    obtain rfl := oi h; exact rl [1, 2, 3, 4, 5, 6] [0, 1, 2] [.t, .f, .row (c103 x9)] (pc h7<|pc h8<|pc (ob103 h10)<|pn)
  ·obtain rfl := oi h; exact rl [1, 2, 3, 4, 5] [0, 1, 2] [.f] (pc h7<|pn)
 ·exact Ex.noConfusion

theorem k_palingref47_records_L1 {a1 : Api_Net} : LoopOK Tryz.prog UU 0 129 (subC (codeOf Tryz.f26) [1, 1, 0, 1, 0, 0]) (fun s : (List Palingref47_Note) × Int => match s with | (l2, v3) => palingref47_records_L1 a1 l2 v3)
  (fun s : (List Palingref47_Note) × Int => (match s with | (l2, v3) => [(1, .o 0), (2, .os 1 0), (3, .os 2 l2.length), (4, .j v3)] : Fr DD)) (fun s : (List Palingref47_Note) × Int => (match s with | (l2, v3) => [.box 31 (c31 a1) false, .n 43, .w 43 l2] : Heap DD)) (fun r => match r with | l24 => .exit 0) (fun r => match r with | l24 => [(1, .o 0), (2, .os 1 0), (3, .os 2 l24.length)]) (fun r => match r with | l24 => [.box 31 (c31 a1) false, .n 43, .w 43 l24]) := by
 refine loop_sound3 (fun s q h => ?_) (fun r => ?_)
 ·obtain ⟨l2, v3⟩ := s; replace h : palingref47_records_L1 a1 l2 v3 = some q := h
  unfold palingref47_records_L1 at h
  obtain ⟨h4, h⟩|⟨h4, h⟩ := ite_out h
  ·obtain ⟨v12, h13, h⟩ := bo h
   obtain ⟨h15, h⟩|⟨h15, h⟩ := ite_out h
   ·obtain ⟨x16, h17, h⟩ := bo h
    obtain ⟨x18, h19, h⟩ := bo h
    obtain ⟨h20, h⟩|⟨h20, h⟩ := ite_out h
    ·obtain rfl := oi h; exact rl [1, 2, 3, 4] [0, 1, 2] [.t, .sum [1, 2, 3, 4, 5, 6] [0, 1, 2] (.exit 2) [(1, .o 0), (2, .os 1 0), (3, .os 2 l2.length), (4, .j v3), (5, .y v12)] [.box 31 (c31 a1) false, .n 43, .w 43 l2], .t, .row (c78 x16), .row (c78 x18), .obj [] (.w 43 [(⟨5, x16.row, v3, x18.dev⟩ : Palingref47_Note)]), .obj [] (.w 43 (l2 ++ [(⟨5, x16.row, v3, x18.dev⟩ : Palingref47_Note)]))] (pc h4<|pc (k_palingref47_records_L2 _ _ h13)<|pc h15<|pc (ob78 h17)<|pc (ob78 h19)<|pc (bs_ob 43 [(⟨5, x16.row, v3, x18.dev⟩ : Palingref47_Note)])<|pc (app_ob 43 (n := l2.length) (l := l2) (xs := [(⟨5, x16.row, v3, x18.dev⟩ : Palingref47_Note)]) h20)<|pn)
    ·cases h
   ·obtain rfl := oi h; exact rl [1, 2, 3, 4] [0, 1, 2] [.t, .sum [1, 2, 3, 4, 5, 6] [0, 1, 2] (.exit 2) [(1, .o 0), (2, .os 1 0), (3, .os 2 l2.length), (4, .j v3), (5, .y v12)] [.box 31 (c31 a1) false, .n 43, .w 43 l2], .f] (pc h4<|pc (k_palingref47_records_L2 _ _ h13)<|pc h15<|pn)
  ·obtain rfl := oi h; exact rl [1, 2, 3] [0, 1, 2] [.f] (pc h4<|pn)
 ·exact Ex.noConfusion

theorem k_palingref47_records_L3 {a1 : Api_Net} : LoopOK Tryz.prog UU 0 129 (subC (codeOf Tryz.f26) [1, 1, 1, 0, 1, 0, 0]) (fun s : (List Palingref47_Note) × Int => match s with | (l27, v28) => palingref47_records_L3 a1 l27 v28)
  (fun s : (List Palingref47_Note) × Int => (match s with | (l27, v28) => [(1, .o 0), (2, .os 1 0), (3, .os 2 l27.length), (7, .j v28)] : Fr DD)) (fun s : (List Palingref47_Note) × Int => (match s with | (l27, v28) => [.box 31 (c31 a1) false, .n 43, .w 43 l27] : Heap DD)) (fun r => match r with | l43 => .exit 4) (fun r => match r with | l43 => [(1, .o 0), (2, .os 1 0), (3, .os 2 l43.length)]) (fun r => match r with | l43 => [.box 31 (c31 a1) false, .n 43, .w 43 l43]) := by
 refine loop_sound3 (fun s q h => ?_) (fun r => ?_)
 ·obtain ⟨l27, v28⟩ := s; replace h : palingref47_records_L3 a1 l27 v28 = some q := h
  unfold palingref47_records_L3 at h
  obtain ⟨h29, h⟩|⟨h29, h⟩ := ite_out h
  ·obtain ⟨x30, h31, h⟩ := bo h
   obtain ⟨x32, h33, h⟩ := bo h
   obtain ⟨h34, h⟩|⟨h34, h⟩ := ite_out h
   ·obtain ⟨x35, h36, h⟩ := bo h
    obtain ⟨x37, h38, h⟩ := bo h
    obtain ⟨h39, h⟩|⟨h39, h⟩ := ite_out h
    ·obtain rfl := oi h; exact rl [1, 2, 3, 7] [0, 1, 2] [.t, .row (c92 x30), .row (c52 x32), .t, .row (c92 x35), .row (c92 x37), .obj [] (.w 43 [(⟨6, x35.row, v28, x37.port⟩ : Palingref47_Note)]), .obj [] (.w 43 (l27 ++ [(⟨6, x35.row, v28, x37.port⟩ : Palingref47_Note)]))] (pc h29<|pc (ob92 h31)<|pc (ob52 h33)<|pc h34<|pc (ob92 h36)<|pc (ob92 h38)<|pc (bs_ob 43 [(⟨6, x35.row, v28, x37.port⟩ : Palingref47_Note)])<|pc (app_ob 43 (n := l27.length) (l := l27) (xs := [(⟨6, x35.row, v28, x37.port⟩ : Palingref47_Note)]) h39)<|pn)
    ·cases h
   ·obtain rfl := oi h; exact rl [1, 2, 3, 7] [0, 1, 2] [.t, .row (c92 x30), .row (c52 x32), .f] (pc h29<|pc (ob92 h31)<|pc (ob52 h33)<|pc h34<|pn)
  ·obtain rfl := oi h; exact rl [1, 2, 3] [0, 1, 2] [.f] (pc h29<|pn)
 ·exact Ex.noConfusion

theorem k_palingref47_records_L5 {a1 : Api_Net} {l46 : List Palingref47_Note} {v47 : Int} : LoopOK Tryz.prog UU 0 129 (subC (codeOf Tryz.f26) [1, 1, 1, 1, 0, 1, 0, 0, 1, 0, 0, 1, 0, 1, 0, 0]) (fun s : Int × Int => match s with | (v49, v50) => palingref47_records_L5 a1 l46 v47 v49 v50)
  (fun s : Int × Int => (match s with | (v49, v50) => [(1, .o 0), (2, .os 1 0), (3, .os 2 l46.length), (8, .j v47), (9, .j v49), (10, .j v50)] : Fr DD)) (fun s : Int × Int => (match s with | (v49, v50) => [.box 31 (c31 a1) false, .n 43, .w 43 l46] : Heap DD)) (fun r => match r with | v56 => .exit 8) (fun r => match r with | v56 => [(1, .o 0), (2, .os 1 0), (3, .os 2 l46.length), (8, .j v47), (9, .j v56)]) (fun r => match r with | v56 => [.box 31 (c31 a1) false, .n 43, .w 43 l46]) := by
 refine loop_sound3 (fun s q h => ?_) (fun r => ?_)
 ·obtain ⟨v49, v50⟩ := s; replace h : palingref47_records_L5 a1 l46 v47 v49 v50 = some q := h
  unfold palingref47_records_L5 at h
  obtain ⟨h51, h⟩|⟨h51, h⟩ := ite_out h
  ·obtain ⟨x52, h53, h⟩ := bo h
   obtain ⟨h54, h⟩|⟨h54, h⟩ := ite_out h
   ·obtain rfl := oi h; exact rl [1, 2, 3, 8, 9, 10] [0, 1, 2] [.t, .row (c52 x52), .t] (pc h51<|pc (ob52 h53)<|pc h54<|pn)
   ·obtain rfl := oi h; exact rl [1, 2, 3, 8, 9, 10] [0, 1, 2] [.t, .row (c52 x52), .f] (pc h51<|pc (ob52 h53)<|pc h54<|pn)
  ·obtain rfl := oi h; exact rl [1, 2, 3, 8, 9] [0, 1, 2] [.f] (pc h51<|pn)
 ·exact Ex.noConfusion

theorem k_palingref47_records_L4 {a1 : Api_Net} : LoopOK Tryz.prog UU 0 129 (subC (codeOf Tryz.f26) [1, 1, 1, 1, 0, 1, 0, 0]) (fun s : (List Palingref47_Note) × Int => match s with | (l46, v47) => palingref47_records_L4 a1 l46 v47)
  (fun s : (List Palingref47_Note) × Int => (match s with | (l46, v47) => [(1, .o 0), (2, .os 1 0), (3, .os 2 l46.length), (8, .j v47)] : Fr DD)) (fun s : (List Palingref47_Note) × Int => (match s with | (l46, v47) => [.box 31 (c31 a1) false, .n 43, .w 43 l46] : Heap DD)) (fun r => match r with | l65 => .exit 6) (fun r => match r with | l65 => [(2, .os 0 0), (3, .os 1 l65.length)]) (fun r => match r with | l65 => [.n 43, .w 43 l65]) := by
 refine loop_sound3 (fun s q h => ?_) (fun r => ?_)
 ·obtain ⟨l46, v47⟩ := s; replace h : palingref47_records_L4 a1 l46 v47 = some q := h
  unfold palingref47_records_L4 at h
  obtain ⟨h48, h⟩|⟨h48, h⟩ := ite_out h
  ·obtain ⟨v56, h57, h⟩ := bo h
   obtain ⟨h59, h⟩|⟨h59, h⟩ := ite_out h
   ·obtain ⟨x60, h61, h⟩ := bo h
    obtain ⟨h62, h⟩|⟨h62, h⟩ := ite_out h
    ·obtain rfl := oi h; exact rl [1, 2, 3, 8] [0, 1, 2] [.t, .sum [1, 2, 3, 8, 9, 10] [0, 1, 2] (.exit 8) [(1, .o 0), (2, .os 1 0), (3, .os 2 l46.length), (8, .j v47), (9, .j v56)] [.box 31 (c31 a1) false, .n 43, .w 43 l46], .t, .row (c61 x60), .obj [] (.w 43 [(⟨7, x60.row, v47, 0⟩ : Palingref47_Note)]), .obj [] (.w 43 (l46 ++ [(⟨7, x60.row, v47, 0⟩ : Palingref47_Note)]))] (pc h48<|pc (k_palingref47_records_L5 _ _ h57)<|pc h59<|pc (ob61 h61)<|pc (bs_ob 43 [(⟨7, x60.row, v47, 0⟩ : Palingref47_Note)])<|pc (app_ob 43 (n := l46.length) (l := l46) (xs := [(⟨7, x60.row, v47, 0⟩ : Palingref47_Note)]) h62)<|pc (rn (List.length [(⟨7, x60.row, v47, 0⟩ : Palingref47_Note)]))<|pn)
    ·cases h
   ·obtain rfl := oi h; exact rl [1, 2, 3, 8] [0, 1, 2] [.t, .sum [1, 2, 3, 8, 9, 10] [0, 1, 2] (.exit 8) [(1, .o 0), (2, .os 1 0), (3, .os 2 l46.length), (8, .j v47), (9, .j v56)] [.box 31 (c31 a1) false, .n 43, .w 43 l46], .f] (pc h48<|pc (k_palingref47_records_L5 _ _ h57)<|pc h59<|pn)
  ·obtain rfl := oi h; exact rl [2, 3] [1, 2] [.f] (pc h48<|pn)
 ·exact Ex.noConfusion

theorem k_palingref47_records {a1 : Api_Net} {r : ((List Palingref47_Note))} (h : palingref47_records a1 = some r) :
  CallsOK Tryz.prog UU 26 [.agg (c31 a1)] [] ((fun r => match r with | l68 => .os 0 l68.length) r) ((fun r => match r with | l68 => [.w 43 l68]) r) := by
 unfold palingref47_records at h
 obtain ⟨l24, h25, h⟩ := bo h
 obtain ⟨l43, h44, h⟩ := bo h
 obtain ⟨l65, h66, h⟩ := bo h
 obtain rfl := oi h; exact rf Tryz.func26 (some [1]) [.sum [1, 2, 3, 4] [0, 1, 2] (.exit 0) [(1, .o 0), (2, .os 1 0), (3, .os 2 l24.length)] [.box 31 (c31 a1) false, .n 43, .w 43 l24], .sum [1, 2, 3, 7] [0, 1, 2] (.exit 4) [(1, .o 0), (2, .os 1 0), (3, .os 2 l43.length)] [.box 31 (c31 a1) false, .n 43, .w 43 l43], .sum [1, 2, 3, 8] [0, 1, 2] (.exit 6) [(2, .os 0 0), (3, .os 1 l65.length)] [.n 43, .w 43 l65]] (pc (k_palingref47_records_L1 _ _ h25)<|pc (k_palingref47_records_L3 _ _ h44)<|pc (k_palingref47_records_L4 _ _ h66)<|pn)

theorem k_palingref02_Right {a1 : Api_Prefix} {r : Bool} (h : palingref02_Right a1 = some r) :
  CallsOK Tryz.prog UU 117 [.agg (c101 a1)] [] (.y r) [] := by
 unfold palingref02_Right at h
 obtain ⟨h2, h⟩|⟨h2, h⟩ := ite_out h
 ·obtain rfl := oi h; exact rf Tryz.func117 none [.t] (pc h2<|pn)
 ·obtain rfl := oi h; exact rf Tryz.func117 none [.f] (pc h2<|pn)

theorem k_palingref02_size_L1 : LoopOK Tryz.prog UU 0 14 (subC (codeOf Tryz.f118) [1, 1, 0, 1, 0, 0]) (fun s : Int × Int => match s with | (v2, v3) => palingref02_size_L1 v2 v3)
  (fun s : Int × Int => (match s with | (v2, v3) => [(2, .z), (3, .j v2), (4, .j v3)] : Fr DD)) (fun s : Int × Int => (match s with | (v2, v3) => [] : Heap DD)) (fun r => match r with | v6 => .exit 0) (fun r => match r with | v6 => [(2, .z), (3, .j v6)]) (fun r => match r with | v6 => []) := by
 refine loop_sound3 (fun s q h => ?_) (fun r => ?_)
 ·obtain ⟨v2, v3⟩ := s; replace h : palingref02_size_L1 v2 v3 = some q := h
  unfold palingref02_size_L1 at h
  obtain ⟨h4, h⟩|⟨h4, h⟩ := ite_out h
  ·obtain rfl := oi h; exact rl [2, 3, 4] [] [.t] (pc h4<|pn)
  ·obtain rfl := oi h; exact rl [2, 3] [] [.f] (pc h4<|pn)
 ·exact Ex.noConfusion

theorem k_palingref02_size {a1 : Api_Prefix} {r : Int} (h : palingref02_size a1 = some r) :
  CallsOK Tryz.prog UU 118 [.agg (c101 a1)] [] (.j r) [] := by
 unfold palingref02_size at h
 obtain ⟨v6, h7, h⟩ := bo h
 obtain rfl := oi h; exact rf Tryz.func118 none [.sum [2, 3, 4] [] (.exit 0) [(2, .z), (3, .j v6)] []] (pc (k_palingref02_size_L1 _ _ h7)<|pn)

theorem k_palingref02_First {a1 : Api_Prefix} {r : Int} (h : palingref02_First a1 = some r) :
  CallsOK Tryz.prog UU 97 [.agg (c101 a1)] [] (.v (.int .u32 r)) [] := by
 unfold palingref02_First at h
 obtain ⟨r2, h3, h⟩ := bo h
 obtain ⟨h4, h⟩|⟨h4, h⟩ := ite_out h
 ·obtain rfl := oi h; exact rf Tryz.func97 none [.b r2, .t] (pc (k_palingref02_Right h3)<|pc h4<|pn)
 ·obtain ⟨r5, h6, h⟩ := bo h
  obtain ⟨h7, h⟩|⟨h7, h⟩ := ite_out h
  ·obtain ⟨r8, h9, h⟩ := bo h
   obtain rfl := oi h; exact rf Tryz.func97 none [.b r2, .f, .callv (.j r5), .callv (.j r8)] (pc (k_palingref02_Right h3)<|pc h4<|pc (k_palingref02_size h6)<|pc (ne0_ob h7)<|pc (k_palingref02_size h9)<|pn)
  ·cases h

theorem k_palingref02_Last {a1 : Api_Prefix} {r : Int} (h : palingref02_Last a1 = some r) :
  CallsOK Tryz.prog UU 98 [.agg (c101 a1)] [] (.v (.int .u32 r)) [] := by
 unfold palingref02_Last at h
 obtain ⟨r2, h3, h⟩ := bo h
 obtain ⟨h4, h⟩|⟨h4, h⟩ := ite_out h
 ·obtain rfl := oi h; exact rf Tryz.func98 none [.b r2, .t] (pc (k_palingref02_Right h3)<|pc h4<|pn)
 ·obtain ⟨r5, h6, h⟩ := bo h
  obtain ⟨r7, h8, h⟩ := bo h
  obtain rfl := oi h; exact rf Tryz.func98 none [.b r2, .f, .callv (.v (.int .u32 r5)), .callv (.j r7)] (pc (k_palingref02_Right h3)<|pc h4<|pc (k_palingref02_First h6)<|pc (k_palingref02_size h8)<|pn)

theorem k_palingref30_device {a1 : Api_Net} {a2 : Int} {r : Int} (h : palingref30_device a1 a2 = some r) :
  CallsOK Tryz.prog UU 132 [.agg (c31 a1), .j a2] [] (.j r) [] := by
 unfold palingref30_device at h
 obtain ⟨x3, h4, h⟩ := bo h
 obtain ⟨x5, h6, h⟩ := bo h
 obtain rfl := oi h; exact rf Tryz.func132 none [.row (c103 x3), .row (c63 x5)] (pc (ob103 h4)<|pc (ob63 h6)<|pn)

theorem k_palingref02_Has {a1 : Api_Prefix} {a2 : Int} {r : Bool} (h : palingref02_Has a1 a2 = some r) :
  CallsOK Tryz.prog UU 133 [.agg (c101 a1), .v (.int .u32 a2)] [] (.y r) [] := by
 unfold palingref02_Has at h
 obtain ⟨r3, h4, h⟩ := bo h
 obtain ⟨h5, h⟩|⟨h5, h⟩ := ite_out h
 ·obtain ⟨r6, h7, h⟩ := bo h
  obtain ⟨h8, h⟩|⟨h8, h⟩ := ite_out h
  ·obtain ⟨r9, h10, h⟩ := bo h
   obtain rfl := oi h; exact rf Tryz.func133 none [.b r3, .t, .callv (.v (.int .u32 r6)), .t, .callv (.v (.int .u32 r9))] (pc (k_palingref02_Right h4)<|pc h5<|pc (k_palingref02_First h7)<|pc h8<|pc (k_palingref02_Last h10)<|pn)
  ·obtain rfl := oi h; exact rf Tryz.func133 none [.b r3, .t, .callv (.v (.int .u32 r6)), .f] (pc (k_palingref02_Right h4)<|pc h5<|pc (k_palingref02_First h7)<|pc h8<|pn)
 ·obtain rfl := oi h; exact rf Tryz.func133 none [.b r3, .f] (pc (k_palingref02_Right h4)<|pc h5<|pn)

theorem k_palingref20_Leaks_L1 {a1 : Api_Net} {a2 : Int} {a3 : Int} : LoopOK Tryz.prog UU 0 67 (subC (codeOf Tryz.f134) [1, 1, 1, 0, 1, 0, 0]) (ρ := Unit ⊕ Unit) (palingref20_Leaks_L1 a1 a2 a3)
  (fun v11 : Int => ([(1, .j a2), (2, .j a3), (3, .o 0), (6, .y false), (7, .j v11)] : Fr DD)) (fun v11 : Int => ([.box 31 (c31 a1) false] : Heap DD)) (fun r => match r with | Sum.inl _ => .ret | Sum.inr _ => .exit 0) (fun r => match r with | Sum.inl _ => [(6, .y true)] | Sum.inr _ => [(6, .y false)]) (fun r => match r with | Sum.inl _ => [] | Sum.inr _ => []) := by
 refine loop_sound3 (fun s q h => ?_) (fun r => ?_)
 ·replace h : palingref20_Leaks_L1 a1 a2 a3 s = some q := h; revert h; revert s; intro v11 h
  unfold palingref20_Leaks_L1 at h
  obtain ⟨x12, h13, h⟩ := bo h
  obtain ⟨h14, h⟩|⟨h14, h⟩ := ite_out h
  ·obtain ⟨x15, h16, h⟩ := bo h
   obtain ⟨x17, h18, h⟩ := bo h
   obtain ⟨h19, h⟩|⟨h19, h⟩ := ite_out h
   ·obtain ⟨x20, h21, h⟩ := bo h
    obtain ⟨x22, h23, h⟩ := bo h
    obtain ⟨x24, h25, h⟩ := bo h
    obtain ⟨r26, h27, h⟩ := bo h
    obtain ⟨h28, h⟩|⟨h28, h⟩ := ite_out h
    ·obtain rfl := oi h; exact rl [6] [] [.row (c78 x12), .t, .row (c78 x15), .row (c78 x17), .t, .row (c78 x20), .row (c78 x22), .row (c3 x24), .b r26, .t] (pc (ob78 h13)<|pc h14<|pc (ob78 h16)<|pc (ob78 h18)<|pc h19<|pc (ob78 h21)<|pc (ob78 h23)<|pc (ob3 h25)<|pc (k_palingref15_In h27)<|pc h28<|pn)
    ·obtain rfl := oi h; exact rl [1, 2, 3, 6, 7] [0] [.row (c78 x12), .t, .row (c78 x15), .row (c78 x17), .t, .row (c78 x20), .row (c78 x22), .row (c3 x24), .b r26, .f] (pc (ob78 h13)<|pc h14<|pc (ob78 h16)<|pc (ob78 h18)<|pc h19<|pc (ob78 h21)<|pc (ob78 h23)<|pc (ob3 h25)<|pc (k_palingref15_In h27)<|pc h28<|pn)
   ·obtain rfl := oi h; exact rl [1, 2, 3, 6, 7] [0] [.row (c78 x12), .t, .row (c78 x15), .row (c78 x17), .f] (pc (ob78 h13)<|pc h14<|pc (ob78 h16)<|pc (ob78 h18)<|pc h19<|pn)
  ·obtain rfl := oi h; exact rl [6] [] [.row (c78 x12), .f] (pc (ob78 h13)<|pc h14<|pn)
 ·rcases r with _ | _ <;> exact Ex.noConfusion

theorem k_palingref20_Leaks {a1 : Api_Net} {a2 : Int} {a3 : Int} {r : Bool} (h : palingref20_Leaks a1 a2 a3 = some r) :
  CallsOK Tryz.prog UU 134 [.agg (c31 a1), .j a2, .j a3] [] (.y r) [] := by
 unfold palingref20_Leaks at h
 obtain ⟨r4, h5, h⟩ := bo h
 obtain ⟨h6, h⟩|⟨h6, h⟩ := ite_out h
 ·obtain rfl := oi h; exact rf Tryz.func134 none [.b r4, .t] (pc (k_palingref15_Place h5)<|pc h6<|pn)
 ·obtain ⟨r7, h8, h⟩ := bo h
  obtain ⟨h9, h⟩|⟨h9, h⟩ := ite_out h
  ·obtain rfl := oi h; exact rf Tryz.func134 none [.b r4, .f, .b r7, .t] (pc (k_palingref15_Place h5)<|pc h6<|pc (k_palingref15_Place h8)<|pc h9<|pn)
  ·obtain ⟨h10, h⟩|⟨h10, h⟩ := ite_out h
   ·obtain rfl := oi h; exact rf Tryz.func134 none [.b r4, .f, .b r7, .f, .t] (pc (k_palingref15_Place h5)<|pc h6<|pc (k_palingref15_Place h8)<|pc h9<|pc h10<|pn)
   ·obtain ⟨r30, h29, h⟩ := bo h
    rcases r30 with _ | _
    ·obtain rfl := oi h; exact rf Tryz.func134 none [.b r4, .f, .b r7, .f, .f, .sum [1, 2, 3, 6, 7] [0] .ret [(6, .y true)] []] (pc (k_palingref15_Place h5)<|pc h6<|pc (k_palingref15_Place h8)<|pc h9<|pc h10<|pc (k_palingref20_Leaks_L1 _ _ h29)<|pn)
    ·obtain rfl := oi h; exact rf Tryz.func134 none [.b r4, .f, .b r7, .f, .f, .sum [1, 2, 3, 6, 7] [0] (.exit 0) [(6, .y false)] []] (pc (k_palingref15_Place h5)<|pc h6<|pc (k_palingref15_Place h8)<|pc h9<|pc h10<|pc (k_palingref20_Leaks_L1 _ _ h29)<|pn)

theorem k_palingref30_better {a1 : Api_Net} {a2 : Int} {a3 : Int} {a4 : Int} {r : Bool} (h : palingref30_better a1 a2 a3 a4 = some r) :
  CallsOK Tryz.prog UU 135 [.agg (c31 a1), .j a2, .j a3, .j a4] [] (.y r) [] := by
 unfold palingref30_better at h
 obtain ⟨x5, h6, h⟩ := bo h
 obtain ⟨x7, h8, h⟩ := bo h
 obtain ⟨h9, h⟩|⟨h9, h⟩ := ite_out h
 ·obtain ⟨x10, h11, h⟩ := bo h
  obtain ⟨x12, h13, h⟩ := bo h
  obtain rfl := oi h; exact rf Tryz.func135 none [.row (c103 x5), .row (c103 x7), .t, .row (c103 x10), .row (c103 x12)] (pc (ob103 h6)<|pc (ob103 h8)<|pc h9<|pc (ob103 h11)<|pc (ob103 h13)<|pn)
 ·obtain ⟨x14, h15, h⟩ := bo h
  obtain ⟨x16, h17, h⟩ := bo h
  obtain ⟨h18, h⟩|⟨h18, h⟩ := ite_out h
  ·obtain ⟨x19, h20, h⟩ := bo h
   obtain ⟨x21, h22, h⟩ := bo h
   obtain rfl := oi h; exact rf Tryz.func135 none [.row (c103 x5), .row (c103 x7), .f, .row (c103 x14), .row (c103 x16), .t, .row (c103 x19), .row (c103 x21)] (pc (ob103 h6)<|pc (ob103 h8)<|pc h9<|pc (ob103 h15)<|pc (ob103 h17)<|pc h18<|pc (ob103 h20)<|pc (ob103 h22)<|pn)
  ·obtain rfl := oi h; exact rf Tryz.func135 none [.row (c103 x5), .row (c103 x7), .f, .row (c103 x14), .row (c103 x16), .f] (pc (ob103 h6)<|pc (ob103 h8)<|pc h9<|pc (ob103 h15)<|pc (ob103 h17)<|pc h18<|pn)

theorem k_palingref30_Lookup_L1 {a1 : Api_Net} {a2 : Int} {a3 : Int} : LoopOK Tryz.prog UU 0 78 (subC (codeOf Tryz.f119) [1, 1, 1, 0, 1, 0, 0]) (fun s : Int × Int => match s with | (v7, v8) => palingref30_Lookup_L1 a1 a2 a3 v7 v8)
  (fun s : Int × Int => (match s with | (v7, v8) => [(1, .j a2), (2, .v (.int .u32 a3)), (3, .o 0), (6, .z), (7, .y false), (8, .j v7), (9, .j v8)] : Fr DD)) (fun s : Int × Int => (match s with | (v7, v8) => [.box 31 (c31 a1) false] : Heap DD)) (fun r => match r with | Sum.inl _ => .ret | Sum.inr v35 => .exit 0) (fun r => match r with | Sum.inl _ => [(6, .z), (7, .y false)] | Sum.inr v35 => [(6, .z), (7, .y false), (8, .j v35)]) (fun r => match r with | Sum.inl _ => [] | Sum.inr v35 => []) := by
 refine loop_sound3 (fun s q h => ?_) (fun r => ?_)
 ·obtain ⟨v7, v8⟩ := s; replace h : palingref30_Lookup_L1 a1 a2 a3 v7 v8 = some q := h
  unfold palingref30_Lookup_L1 at h
  obtain ⟨h9, h⟩|⟨h9, h⟩ := ite_out h
  ·obtain ⟨r10, h11, h⟩ := bo h
   obtain ⟨r12, h13, h⟩ := bo h
   obtain ⟨h14, h⟩|⟨h14, h⟩ := ite_out h
   ·obtain rfl := oi h; exact rl [1, 2, 3, 6, 7, 8, 9] [0] [.t, .callv (.j r10), .callv (.j r12), .t] (pc h9<|pc (k_palingref30_device h11)<|pc (k_palingref30_device h13)<|pc h14<|pn)
   ·obtain ⟨x15, h16, h⟩ := bo h
    obtain ⟨h17, h⟩|⟨h17, h⟩ := ite_out h
    ·obtain rfl := oi h; exact rl [6, 7] [] [.t, .callv (.j r10), .callv (.j r12), .f, .row (c103 x15), .t] (pc h9<|pc (k_palingref30_device h11)<|pc (k_palingref30_device h13)<|pc h14<|pc (ob103 h16)<|pc h17<|pn)
    ·obtain ⟨x18, h19, h⟩ := bo h
     obtain ⟨r20, h21, h⟩ := bo h
     obtain ⟨h22, h⟩|⟨h22, h⟩ := ite_out h
     ·obtain rfl := oi h; exact rl [1, 2, 3, 6, 7, 8, 9] [0] [.t, .callv (.j r10), .callv (.j r12), .f, .row (c103 x15), .f, .row (c103 x18), .b r20, .t] (pc h9<|pc (k_palingref30_device h11)<|pc (k_palingref30_device h13)<|pc h14<|pc (ob103 h16)<|pc h17<|pc (ob103 h19)<|pc (k_palingref02_Has h21)<|pc h22<|pn)
     ·obtain ⟨x23, h24, h⟩ := bo h
      obtain ⟨x25, h26, h⟩ := bo h
      obtain ⟨r27, h28, h⟩ := bo h
      obtain ⟨h29, h⟩|⟨h29, h⟩ := ite_out h
      ·obtain rfl := oi h; exact rl [1, 2, 3, 6, 7, 8, 9] [0] [.t, .callv (.j r10), .callv (.j r12), .f, .row (c103 x15), .f, .row (c103 x18), .b r20, .f, .row (c103 x23), .row (c103 x25), .b r27, .t] (pc h9<|pc (k_palingref30_device h11)<|pc (k_palingref30_device h13)<|pc h14<|pc (ob103 h16)<|pc h17<|pc (ob103 h19)<|pc (k_palingref02_Has h21)<|pc h22<|pc (ob103 h24)<|pc (ob103 h26)<|pc (k_palingref20_Leaks h28)<|pc h29<|pn)
      ·obtain ⟨h30, h⟩|⟨h30, h⟩ := ite_out h
       ·obtain rfl := oi h; exact rl [1, 2, 3, 6, 7, 8, 9] [0] [.t, .callv (.j r10), .callv (.j r12), .f, .row (c103 x15), .f, .row (c103 x18), .b r20, .f, .row (c103 x23), .row (c103 x25), .b r27, .f, .t] (pc h9<|pc (k_palingref30_device h11)<|pc (k_palingref30_device h13)<|pc h14<|pc (ob103 h16)<|pc h17<|pc (ob103 h19)<|pc (k_palingref02_Has h21)<|pc h22<|pc (ob103 h24)<|pc (ob103 h26)<|pc (k_palingref20_Leaks h28)<|pc h29<|pc h30<|pn)
       ·obtain ⟨r31, h32, h⟩ := bo h
        obtain ⟨h33, h⟩|⟨h33, h⟩ := ite_out h
        ·obtain rfl := oi h; exact rl [1, 2, 3, 6, 7, 8, 9] [0] [.t, .callv (.j r10), .callv (.j r12), .f, .row (c103 x15), .f, .row (c103 x18), .b r20, .f, .row (c103 x23), .row (c103 x25), .b r27, .f, .f, .b r31, .t] (pc h9<|pc (k_palingref30_device h11)<|pc (k_palingref30_device h13)<|pc h14<|pc (ob103 h16)<|pc h17<|pc (ob103 h19)<|pc (k_palingref02_Has h21)<|pc h22<|pc (ob103 h24)<|pc (ob103 h26)<|pc (k_palingref20_Leaks h28)<|pc h29<|pc h30<|pc (k_palingref30_better h32)<|pc h33<|pn)
        ·obtain rfl := oi h; exact rl [1, 2, 3, 6, 7, 8, 9] [0] [.t, .callv (.j r10), .callv (.j r12), .f, .row (c103 x15), .f, .row (c103 x18), .b r20, .f, .row (c103 x23), .row (c103 x25), .b r27, .f, .f, .b r31, .f] (pc h9<|pc (k_palingref30_device h11)<|pc (k_palingref30_device h13)<|pc h14<|pc (ob103 h16)<|pc h17<|pc (ob103 h19)<|pc (k_palingref02_Has h21)<|pc h22<|pc (ob103 h24)<|pc (ob103 h26)<|pc (k_palingref20_Leaks h28)<|pc h29<|pc h30<|pc (k_palingref30_better h32)<|pc h33<|pn)
  ·obtain rfl := oi h; exact rl [6, 7, 8] [] [.f] (pc h9<|pn)
 ·rcases r with _ | _ <;> exact Ex.noConfusion

theorem k_palingref30_Lookup {a1 : Api_Net} {a2 : Int} {a3 : Int} {r : Int × Bool} (h : palingref30_Lookup a1 a2 a3 = some r) :
  CallsOK Tryz.prog UU 119 [.agg (c31 a1), .j a2, .v (.int .u32 a3)] [] (.tup [.j r.1, .y r.2]) [] := by
 unfold palingref30_Lookup at h
 obtain ⟨r4, h5, h⟩ := bo h
 obtain ⟨h6, h⟩|⟨h6, h⟩ := ite_out h
 ·obtain rfl := oi h; exact rf Tryz.func119 none [.b r4, .t] (pc (k_palingref15_Place h5)<|pc h6<|pn)
 ·obtain ⟨r37, h36, h⟩ := bo h
  rcases r37 with _ | v35
  ·obtain rfl := oi h; exact rf Tryz.func119 none [.b r4, .f, .sum [1, 2, 3, 6, 7, 8, 9] [0] .ret [(6, .z), (7, .y false)] []] (pc (k_palingref15_Place h5)<|pc h6<|pc (k_palingref30_Lookup_L1 _ _ h36)<|pn)
  ·obtain ⟨h38, h⟩|⟨h38, h⟩ := ite_out h
   ·obtain rfl := oi h; exact rf Tryz.func119 none [.b r4, .f, .sum [1, 2, 3, 6, 7, 8, 9] [0] (.exit 0) [(6, .z), (7, .y false), (8, .j v35)] [], .t] (pc (k_palingref15_Place h5)<|pc h6<|pc (k_palingref30_Lookup_L1 _ _ h36)<|pc h38<|pn)
   ·obtain rfl := oi h; exact rf Tryz.func119 none [.b r4, .f, .sum [1, 2, 3, 6, 7, 8, 9] [0] (.exit 0) [(6, .z), (7, .y false), (8, .j v35)] [], .f] (pc (k_palingref15_Place h5)<|pc h6<|pc (k_palingref30_Lookup_L1 _ _ h36)<|pc h38<|pn)

theorem k_palingref36_taken_L1 {a1 : Api_Net} {a2 : Int} : LoopOK Tryz.prog UU 0 22 (subC (codeOf Tryz.f120) [1, 0, 1, 0, 0]) (ρ := Unit ⊕ Unit) (palingref36_taken_L1 a1 a2)
  (fun v3 : Int => ([(1, .v (.int .u32 a2)), (2, .o 0), (4, .y false), (5, .j v3)] : Fr DD)) (fun v3 : Int => ([.box 31 (c31 a1) false] : Heap DD)) (fun r => match r with | Sum.inl _ => .ret | Sum.inr _ => .exit 0) (fun r => match r with | Sum.inl _ => [(4, .y true)] | Sum.inr _ => [(4, .y false)]) (fun r => match r with | Sum.inl _ => [] | Sum.inr _ => []) := by
 refine loop_sound3 (fun s q h => ?_) (fun r => ?_)
 ·replace h : palingref36_taken_L1 a1 a2 s = some q := h; revert h; revert s; intro v3 h
  unfold palingref36_taken_L1 at h
  obtain ⟨h4, h⟩|⟨h4, h⟩ := ite_out h
  ·obtain ⟨x5, h6, h⟩ := bo h
   obtain ⟨h7, h⟩|⟨h7, h⟩ := ite_out h
   ·obtain rfl := oi h; exact rl [4] [] [.t, .row (c103 x5), .t] (pc h4<|pc (ob103 h6)<|pc h7<|pn)
   ·obtain rfl := oi h; exact rl [1, 2, 4, 5] [0] [.t, .row (c103 x5), .f] (pc h4<|pc (ob103 h6)<|pc h7<|pn)
  ·obtain rfl := oi h; exact rl [4] [] [.f] (pc h4<|pn)
 ·rcases r with _ | _ <;> exact Ex.noConfusion

theorem k_palingref36_taken {a1 : Api_Net} {a2 : Int} {r : Bool} (h : palingref36_taken a1 a2 = some r) :
  CallsOK Tryz.prog UU 120 [.agg (c31 a1), .v (.int .u32 a2)] [] (.y r) [] := by
 unfold palingref36_taken at h
 obtain ⟨r9, h8, h⟩ := bo h
 rcases r9 with _ | _
 ·obtain rfl := oi h; exact rf Tryz.func120 none [.sum [1, 2, 4, 5] [0] .ret [(4, .y true)] []] (pc (k_palingref36_taken_L1 _ _ h8)<|pn)
 ·obtain rfl := oi h; exact rf Tryz.func120 none [.sum [1, 2, 4, 5] [0] (.exit 0) [(4, .y false)] []] (pc (k_palingref36_taken_L1 _ _ h8)<|pn)

theorem k_palingref36_Leads {a1 : Api_Net} {a2 : Int} {a3 : Int} {a4 : Int} {r : Bool} (h : palingref36_Leads a1 a2 a3 a4 = some r) :
  CallsOK Tryz.prog UU 99 [.agg (c31 a1), .j a2, .j a3, .v (.int .u32 a4)] [] (.y r) [] := by
 unfold palingref36_Leads at h
 obtain ⟨r5, h6, h⟩ := bo h
 obtain ⟨h7, h⟩|⟨h7, h⟩ := ite_out h
 ·obtain ⟨h8, h⟩|⟨h8, h⟩ := ite_out h
  ·obtain ⟨r9, h10, h⟩ := bo h
   obtain rfl := oi h; exact rf Tryz.func99 none [.callv (.tup [.j r5.1, .y r5.2]), .t, .t, .b r9] (pc (k_palingref30_Lookup h6)<|pc h7<|pc h8<|pc (k_palingref36_taken h10)<|pn)
  ·obtain rfl := oi h; exact rf Tryz.func99 none [.callv (.tup [.j r5.1, .y r5.2]), .t, .f] (pc (k_palingref30_Lookup h6)<|pc h7<|pc h8<|pn)
 ·obtain rfl := oi h; exact rf Tryz.func99 none [.callv (.tup [.j r5.1, .y r5.2]), .f] (pc (k_palingref30_Lookup h6)<|pc h7<|pn)

theorem k_palingref36_Address_L1 {a1 : Api_Net} {a2 : Int} {a3 : Int} : LoopOK Tryz.prog UU 0 98 (subC (codeOf Tryz.f66) [1, 1, 1, 1, 0, 1, 0, 0]) (fun s : (List Int) × Int => match s with | (l14, v15) => palingref36_Address_L1 a1 a2 a3 l14 v15)
  (fun s : (List Int) × Int => (match s with | (l14, v15) => [(1, .j a2), (2, .j a3), (3, .o 0), (6, .v (.int .u32 0)), (7, .y false), (8, .j (-1)), (9, .os 1 l14.length), (10, .j v15)] : Fr DD)) (fun s : (List Int) × Int => (match s with | (l14, v15) => [.box 31 (c31 a1) false, .w 3 l14] : Heap DD)) (fun r => match r with | l31 => .exit 0) (fun r => match r with | l31 => [(1, .j a2), (2, .j a3), (3, .o 0), (6, .v (.int .u32 0)), (7, .y false), (8, .j (-1)), (9, .os 1 l31.length)]) (fun r => match r with | l31 => [.box 31 (c31 a1) false, .w 3 l31]) := by
 refine loop_sound3 (fun s q h => ?_) (fun r => ?_)
 ·obtain ⟨l14, v15⟩ := s; replace h : palingref36_Address_L1 a1 a2 a3 l14 v15 = some q := h
  unfold palingref36_Address_L1 at h
  obtain ⟨h16, h⟩|⟨h16, h⟩ := ite_out h
  ·obtain ⟨x17, h18, h⟩ := bo h
   obtain ⟨x19, h20, h⟩ := bo h
   obtain ⟨r21, h22, h⟩ := bo h
   obtain ⟨h23, h⟩|⟨h23, h⟩ := ite_out h
   ·obtain rfl := oi h; exact rl [1, 2, 3, 6, 7, 8, 9, 10] [0, 1] [.t, .row (c103 x17), .row (c103 x19), .callv (.v (.int .u32 r21)), .obj [] (.w 3 [(wr_i64 ((wr_i64 x17.net.addr) + 1) : Int), (wr_i64 ((wr_i64 r21) + 1) : Int)]), .obj [] (.w 3 (l14 ++ [(wr_i64 ((wr_i64 x17.net.addr) + 1) : Int), (wr_i64 ((wr_i64 r21) + 1) : Int)]))] (pc h16<|pc (ob103 h18)<|pc (ob103 h20)<|pc (k_palingref02_Last h22)<|pc (bs_ob 3 [(wr_i64 ((wr_i64 x17.net.addr) + 1) : Int), (wr_i64 ((wr_i64 r21) + 1) : Int)])<|pc (app_ob 3 (n := l14.length) (l := l14) (xs := [(wr_i64 ((wr_i64 x17.net.addr) + 1) : Int), (wr_i64 ((wr_i64 r21) + 1) : Int)]) h23)<|pn)
   ·cases h
  ·obtain rfl := oi h; exact rl [1, 2, 3, 6, 7, 8, 9] [0, 1] [.f] (pc h16<|pn)
 ·exact Ex.noConfusion

theorem k_palingref36_Address_L2 {a1 : Api_Net} {a2 : Int} {a3 : Int} {l31 : List Int} : LoopOK Tryz.prog UU 0 98 (subC (codeOf Tryz.f66) [1, 1, 1, 1, 1, 0, 1, 0, 0]) (fun s : Int × Int => match s with | (v34, v35) => palingref36_Address_L2 a1 a2 a3 l31 v34 v35)
  (fun s : Int × Int => (match s with | (v34, v35) => [(1, .j a2), (2, .j a3), (3, .o 0), (6, .v (.int .u32 0)), (7, .y false), (8, .j v34), (9, .os 1 l31.length), (11, .j v35)] : Fr DD)) (fun s : Int × Int => (match s with | (v34, v35) => [.box 31 (c31 a1) false, .w 3 l31] : Heap DD)) (fun r => match r with | v50 => .exit 2) (fun r => match r with | v50 => [(6, .v (.int .u32 0)), (7, .y false), (8, .j v50)]) (fun r => match r with | v50 => []) := by
 refine loop_sound3 (fun s q h => ?_) (fun r => ?_)
 ·obtain ⟨v34, v35⟩ := s; replace h : palingref36_Address_L2 a1 a2 a3 l31 v34 v35 = some q := h
  unfold palingref36_Address_L2 at h
  obtain ⟨h36, h⟩|⟨h36, h⟩ := ite_out h
  ·obtain ⟨h37, h⟩|⟨h37, h⟩ := ite_out h
   ·obtain ⟨x38, h39, h⟩ := bo h
    obtain ⟨h40, h⟩|⟨h40, h⟩ := ite_out h
    ·obtain ⟨h41, h⟩|⟨h41, h⟩ := ite_out h
     ·obtain ⟨r42, h43, h⟩ := bo h
      obtain ⟨h44, h⟩|⟨h44, h⟩ := ite_out h
      ·obtain rfl := oi h; exact rl [1, 2, 3, 6, 7, 8, 9, 11] [0, 1] [.t, .row (c3 x38), .t, .t, .b r42, .t] (pc (rn l31.length)<|pc h36<|pc (an l31.length (lin_ob h37))<|pc (an l31.length (obn3 h39))<|pc h40<|pc h41<|pc (k_palingref36_Leads h43)<|pc h44<|pn)
      ·obtain rfl := oi h; exact rl [1, 2, 3, 6, 7, 8, 9, 11] [0, 1] [.t, .row (c3 x38), .t, .t, .b r42, .f] (pc (rn l31.length)<|pc h36<|pc (an l31.length (lin_ob h37))<|pc (an l31.length (obn3 h39))<|pc h40<|pc h41<|pc (k_palingref36_Leads h43)<|pc h44<|pn)
     ·obtain ⟨h45, h⟩|⟨h45, h⟩ := ite_out h
      ·obtain ⟨r46, h47, h⟩ := bo h
       obtain ⟨h48, h⟩|⟨h48, h⟩ := ite_out h
       ·obtain rfl := oi h; exact rl [1, 2, 3, 6, 7, 8, 9, 11] [0, 1] [.t, .row (c3 x38), .t, .f, .t, .b r46, .t] (pc (rn l31.length)<|pc h36<|pc (an l31.length (lin_ob h37))<|pc (an l31.length (obn3 h39))<|pc h40<|pc h41<|pc h45<|pc (k_palingref36_Leads h47)<|pc h48<|pn)
       ·obtain rfl := oi h; exact rl [1, 2, 3, 6, 7, 8, 9, 11] [0, 1] [.t, .row (c3 x38), .t, .f, .t, .b r46, .f] (pc (rn l31.length)<|pc h36<|pc (an l31.length (lin_ob h37))<|pc (an l31.length (obn3 h39))<|pc h40<|pc h41<|pc h45<|pc (k_palingref36_Leads h47)<|pc h48<|pn)
      ·obtain rfl := oi h; exact rl [1, 2, 3, 6, 7, 8, 9, 11] [0, 1] [.t, .row (c3 x38), .t, .f, .f] (pc (rn l31.length)<|pc h36<|pc (an l31.length (lin_ob h37))<|pc (an l31.length (obn3 h39))<|pc h40<|pc h41<|pc h45<|pn)
    ·obtain rfl := oi h; exact rl [1, 2, 3, 6, 7, 8, 9, 11] [0, 1] [.t, .row (c3 x38), .f] (pc (rn l31.length)<|pc h36<|pc (an l31.length (lin_ob h37))<|pc (an l31.length (obn3 h39))<|pc h40<|pn)
   ·cases h
  ·obtain rfl := oi h; exact rl [6, 7, 8] [] [.f] (pc (rn l31.length)<|pc h36<|pn)
 ·exact Ex.noConfusion

theorem k_palingref36_Address {a1 : Api_Net} {a2 : Int} {a3 : Int} {r : Int × Bool} (h : palingref36_Address a1 a2 a3 = some r) :
  CallsOK Tryz.prog UU 66 [.agg (c31 a1), .j a2, .j a3] [] (.tup [.v (.int .u32 r.1), .y r.2]) [] := by
 unfold palingref36_Address at h
 obtain ⟨r4, h5, h⟩ := bo h
 obtain ⟨h6, h⟩|⟨h6, h⟩ := ite_out h
 ·obtain rfl := oi h; exact rf Tryz.func66 none [.b r4, .t] (pc (k_palingref15_Place h5)<|pc h6<|pn)
 ·obtain ⟨r7, h8, h⟩ := bo h
  obtain ⟨h9, h⟩|⟨h9, h⟩ := ite_out h
  ·obtain rfl := oi h; exact rf Tryz.func66 none [.b r4, .f, .b r7, .t] (pc (k_palingref15_Place h5)<|pc h6<|pc (k_palingref15_Place h8)<|pc h9<|pn)
  ·obtain ⟨x10, h11, h⟩ := bo h
   obtain ⟨r12, h13, h⟩ := bo h
   obtain ⟨l31, h32, h⟩ := bo h
   obtain ⟨v50, h51, h⟩ := bo h
   obtain ⟨h53, h⟩|⟨h53, h⟩ := ite_out h
   ·obtain rfl := oi h; exact rf Tryz.func66 none [.b r4, .f, .b r7, .f, .row (c103 x10), .callv (.v (.int .u32 r12)), .obj [] (.w 3 [(wr_i64 r12 : Int)]), .sum [1, 2, 3, 6, 7, 8, 9, 10] [0, 1] (.exit 0) [(1, .j a2), (2, .j a3), (3, .o 0), (6, .v (.int .u32 0)), (7, .y false), (8, .j (-1)), (9, .os 1 l31.length)] [.box 31 (c31 a1) false, .w 3 l31], .sum [1, 2, 3, 6, 7, 8, 9, 11] [0, 1] (.exit 2) [(6, .v (.int .u32 0)), (7, .y false), (8, .j v50)] [], .t] (pc (k_palingref15_Place h5)<|pc h6<|pc (k_palingref15_Place h8)<|pc h9<|pc (ob103 h11)<|pc (k_palingref02_First h13)<|pc (bs_ob 3 [(wr_i64 r12 : Int)])<|pc (k_palingref36_Address_L1 _ _ h32)<|pc (k_palingref36_Address_L2 _ _ h51)<|pc h53<|pn)
   ·obtain rfl := oi h; exact rf Tryz.func66 none [.b r4, .f, .b r7, .f, .row (c103 x10), .callv (.v (.int .u32 r12)), .obj [] (.w 3 [(wr_i64 r12 : Int)]), .sum [1, 2, 3, 6, 7, 8, 9, 10] [0, 1] (.exit 0) [(1, .j a2), (2, .j a3), (3, .o 0), (6, .v (.int .u32 0)), (7, .y false), (8, .j (-1)), (9, .os 1 l31.length)] [.box 31 (c31 a1) false, .w 3 l31], .sum [1, 2, 3, 6, 7, 8, 9, 11] [0, 1] (.exit 2) [(6, .v (.int .u32 0)), (7, .y false), (8, .j v50)] [], .f] (pc (k_palingref15_Place h5)<|pc h6<|pc (k_palingref15_Place h8)<|pc h9<|pc (ob103 h11)<|pc (k_palingref02_First h13)<|pc (bs_ob 3 [(wr_i64 r12 : Int)])<|pc (k_palingref36_Address_L1 _ _ h32)<|pc (k_palingref36_Address_L2 _ _ h51)<|pc h53<|pn)

theorem k_palingref47_edges_J3 {a1 : Api_Net} {v3 : Int} {l5 : List Palingref47_Note} {v6 : Int} {r8 : Int × Bool} {r : Bool} (h : palingref47_edges_J3 a1 v3 l5 v6 r8 = some r) :
  ExecOK Tryz.prog UU 0 101 (subC (codeOf Tryz.f27) [1, 1, 0, 1, 0, 0, 1, 0, 0, 1, 0, 0, 1, 0, 0, 1, 0]) [(1, .o 0), (2, .os 1 0), (3, .os 2 l5.length), (4, .j v3), (5, .j v6), (7, .y r8.2)] [.box 31 (c31 a1) false, .n 43, .w 43 l5] ((fun r => match r with | v16 => .nor) r) ((fun r => match r with | v16 => [(1, .o 0), (2, .os 1 0), (3, .os 2 l5.length), (4, .j v3), (5, .j v6), (45, .y v16)]) r) ((fun r => match r with | v16 => [.box 31 (c31 a1) false, .n 43, .w 43 l5]) r) := by
 unfold palingref47_edges_J3 at h
 obtain ⟨h10, h⟩|⟨h10, h⟩ := ite_out h
 ·obtain ⟨x11, h12, h⟩ := bo h
  obtain ⟨x13, h14, h⟩ := bo h
  obtain rfl := oi h; exact rl [1, 2, 3, 4, 5, 45] [0, 1, 2] [.t, .row (c103 x11), .row (c103 x13)] (pc h10<|pc (ob103 h12)<|pc (ob103 h14)<|pn)
 ·obtain rfl := oi h; exact rl [1, 2, 3, 4, 5, 45] [0, 1, 2] [.f] (pc h10<|pn)

theorem k_palingref47_edges_L2 {a1 : Api_Net} {v3 : Int} : LoopOK Tryz.prog UU 0 101 (subC (codeOf Tryz.f27) [1, 1, 0, 1, 0, 0, 1, 0, 0, 1, 0, 0]) (fun s : (List Palingref47_Note) × Int => match s with | (l5, v6) => palingref47_edges_L2 a1 v3 l5 v6)
  (fun s : (List Palingref47_Note) × Int => (match s with | (l5, v6) => [(1, .o 0), (2, .os 1 0), (3, .os 2 l5.length), (4, .j v3), (5, .j v6)] : Fr DD)) (fun s : (List Palingref47_Note) × Int => (match s with | (l5, v6) => [.box 31 (c31 a1) false, .n 43, .w 43 l5] : Heap DD)) (fun r => match r with | l27 => .exit 2) (fun r => match r with | l27 => [(1, .o 0), (2, .os 1 0), (3, .os 2 l27.length), (4, .j v3)]) (fun r => match r with | l27 => [.box 31 (c31 a1) false, .n 43, .w 43 l27]) := by
 refine loop_sound3 (fun s q h => ?_) (fun r => ?_)
 ·obtain ⟨l5, v6⟩ := s; replace h : palingref47_edges_L2 a1 v3 l5 v6 = some q := h
  unfold palingref47_edges_L2 at h
  obtain ⟨h7, h⟩|⟨h7, h⟩ := ite_out h
  ·obtain ⟨r8, h9, h⟩ := bo h
   obtain ⟨v16, h17, h⟩ := bo h
   obtain ⟨h19, h⟩|⟨h19, h⟩ := ite_out h
   ·obtain ⟨x20, h21, h⟩ := bo h
    obtain ⟨h22, h⟩|⟨h22, h⟩ := ite_out h
    ·obtain rfl := oi h; exact rl [1, 2, 3, 4, 5] [0, 1, 2] [.t, .callv (.tup [.v (.int .u32 r8.1), .y r8.2]), .cut [1, 2, 3, 4, 5, 7] [0, 1, 2] .nor [(1, .o 0), (2, .os 1 0), (3, .os 2 l5.length), (4, .j v3), (5, .j v6), (45, .y v16)] [.box 31 (c31 a1) false, .n 43, .w 43 l5], .t, .row (c103 x20), .obj [] (.w 43 [(⟨8, x20.row, v3, v6⟩ : Palingref47_Note)]), .obj [] (.w 43 (l5 ++ [(⟨8, x20.row, v3, v6⟩ : Palingref47_Note)]))] (pc h7<|pc (k_palingref36_Address h9)<|pc (k_palingref47_edges_J3 h17)<|pc h19<|pc (ob103 h21)<|pc (bs_ob 43 [(⟨8, x20.row, v3, v6⟩ : Palingref47_Note)])<|pc (app_ob 43 (n := l5.length) (l := l5) (xs := [(⟨8, x20.row, v3, v6⟩ : Palingref47_Note)]) h22)<|pc (rn (List.length [(⟨8, x20.row, v3, v6⟩ : Palingref47_Note)]))<|pn)
    ·cases h
   ·obtain rfl := oi h; exact rl [1, 2, 3, 4, 5] [0, 1, 2] [.t, .callv (.tup [.v (.int .u32 r8.1), .y r8.2]), .cut [1, 2, 3, 4, 5, 7] [0, 1, 2] .nor [(1, .o 0), (2, .os 1 0), (3, .os 2 l5.length), (4, .j v3), (5, .j v6), (45, .y v16)] [.box 31 (c31 a1) false, .n 43, .w 43 l5], .f] (pc h7<|pc (k_palingref36_Address h9)<|pc (k_palingref47_edges_J3 h17)<|pc h19<|pn)
  ·obtain rfl := oi h; exact rl [1, 2, 3, 4] [0, 1, 2] [.f] (pc h7<|pn)
 ·exact Ex.noConfusion

theorem k_palingref47_edges_L1 {a1 : Api_Net} : LoopOK Tryz.prog UU 0 101 (subC (codeOf Tryz.f27) [1, 1, 0, 1, 0, 0]) (fun s : (List Palingref47_Note) × Int => match s with | (l2, v3) => palingref47_edges_L1 a1 l2 v3)
  (fun s : (List Palingref47_Note) × Int => (match s with | (l2, v3) => [(1, .o 0), (2, .os 1 0), (3, .os 2 l2.length), (4, .j v3)] : Fr DD)) (fun s : (List Palingref47_Note) × Int => (match s with | (l2, v3) => [.box 31 (c31 a1) false, .n 43, .w 43 l2] : Heap DD)) (fun r => match r with | l33 => .exit 0) (fun r => match r with | l33 => [(1, .o 0), (2, .os 1 0), (3, .os 2 l33.length)]) (fun r => match r with | l33 => [.box 31 (c31 a1) false, .n 43, .w 43 l33]) := by
 refine loop_sound3 (fun s q h => ?_) (fun r => ?_)
 ·obtain ⟨l2, v3⟩ := s; replace h : palingref47_edges_L1 a1 l2 v3 = some q := h
  unfold palingref47_edges_L1 at h
  obtain ⟨h4, h⟩|⟨h4, h⟩ := ite_out h
  ·obtain ⟨l27, h28, h⟩ := bo h
   obtain rfl := oi h; exact rl [1, 2, 3, 4] [0, 1, 2] [.t, .sum [1, 2, 3, 4, 5] [0, 1, 2] (.exit 2) [(1, .o 0), (2, .os 1 0), (3, .os 2 l27.length), (4, .j v3)] [.box 31 (c31 a1) false, .n 43, .w 43 l27]] (pc h4<|pc (k_palingref47_edges_L2 _ _ h28)<|pn)
  ·obtain rfl := oi h; exact rl [1, 2, 3] [0, 1, 2] [.f] (pc h4<|pn)
 ·exact Ex.noConfusion

theorem k_palingref47_edges_J5 {a1 : Api_Net} {l36 : List Palingref47_Note} {v37 : Int} {r : Bool} (h : palingref47_edges_J5 a1 l36 v37 = some r) :
  ExecOK Tryz.prog UU 0 101 (subC (codeOf Tryz.f27) [1, 1, 1, 0, 1, 0, 0, 1, 0, 0, 0]) [(1, .o 0), (2, .os 1 0), (3, .os 2 l36.length), (8, .j v37)] [.box 31 (c31 a1) false, .n 43, .w 43 l36] ((fun r => match r with | v48 => .nor) r) ((fun r => match r with | v48 => [(1, .o 0), (2, .os 1 0), (3, .os 2 l36.length), (8, .j v37), (81, .y v48)]) r) ((fun r => match r with | v48 => [.box 31 (c31 a1) false, .n 43, .w 43 l36]) r) := by
 unfold palingref47_edges_J5 at h
 obtain ⟨x39, h40, h⟩ := bo h
 obtain ⟨h41, h⟩|⟨h41, h⟩ := ite_out h
 ·obtain ⟨x42, h43, h⟩ := bo h
  obtain ⟨r46, h45, h⟩ := bo h
  obtain rfl := oi h; exact rl [1, 2, 3, 8, 81] [0, 1, 2] [.row (c52 x39), .t, .row (c52 x42), .callm [] (.sl 3 r46) []] (pc (ob52 h40)<|pc h41<|pc (ob52 h43)<|pc (k_palingref47_vlans h45)<|pn)
 ·obtain rfl := oi h; exact rl [1, 2, 3, 8, 81] [0, 1, 2] [.row (c52 x39), .f] (pc (ob52 h40)<|pc h41<|pn)

theorem k_palingref47_edges_L4 {a1 : Api_Net} : LoopOK Tryz.prog UU 0 101 (subC (codeOf Tryz.f27) [1, 1, 1, 0, 1, 0, 0]) (fun s : (List Palingref47_Note) × Int => match s with | (l36, v37) => palingref47_edges_L4 a1 l36 v37)
  (fun s : (List Palingref47_Note) × Int => (match s with | (l36, v37) => [(1, .o 0), (2, .os 1 0), (3, .os 2 l36.length), (8, .j v37)] : Fr DD)) (fun s : (List Palingref47_Note) × Int => (match s with | (l36, v37) => [.box 31 (c31 a1) false, .n 43, .w 43 l36] : Heap DD)) (fun r => match r with | l62 => .exit 4) (fun r => match r with | l62 => [(2, .os 0 0), (3, .os 1 l62.length)]) (fun r => match r with | l62 => [.n 43, .w 43 l62]) := by
 refine loop_sound3 (fun s q h => ?_) (fun r => ?_)
 ·obtain ⟨l36, v37⟩ := s; replace h : palingref47_edges_L4 a1 l36 v37 = some q := h
  unfold palingref47_edges_L4 at h
  obtain ⟨h38, h⟩|⟨h38, h⟩ := ite_out h
  ·obtain ⟨v48, h49, h⟩ := bo h
   obtain ⟨h51, h⟩|⟨h51, h⟩ := ite_out h
   ·obtain ⟨x52, h53, h⟩ := bo h
    obtain ⟨x54, h55, h⟩ := bo h
    obtain ⟨r58, h57, h⟩ := bo h
    obtain ⟨h59, h⟩|⟨h59, h⟩ := ite_out h
    ·obtain rfl := oi h; exact rl [1, 2, 3, 8] [0, 1, 2] [.t, .skp, .cut [1, 2, 3, 8] [0, 1, 2] .nor [(1, .o 0), (2, .os 1 0), (3, .os 2 l36.length), (8, .j v37), (81, .y v48)] [.box 31 (c31 a1) false, .n 43, .w 43 l36], .t, .row (c52 x52), .row (c52 x54), .callf [] (.sl 3 r58), .obj [] (.w 43 [(⟨9, x52.row, v37, (r58.length : Int)⟩ : Palingref47_Note)]), .obj [] (.w 43 (l36 ++ [(⟨9, x52.row, v37, (r58.length : Int)⟩ : Palingref47_Note)]))] (pc h38<|pc (k_palingref47_edges_J5 h49)<|pc h51<|pc (ob52 h53)<|pc (ob52 h55)<|pc (k_palingref47_vlans h57)<|pc (bs_ob 43 [(⟨9, x52.row, v37, (r58.length : Int)⟩ : Palingref47_Note)])<|pc (app_ob 43 (n := l36.length) (l := l36) (xs := [(⟨9, x52.row, v37, (r58.length : Int)⟩ : Palingref47_Note)]) h59)<|pn)
    ·cases h
   ·obtain rfl := oi h; exact rl [1, 2, 3, 8] [0, 1, 2] [.t, .skp, .cut [1, 2, 3, 8] [0, 1, 2] .nor [(1, .o 0), (2, .os 1 0), (3, .os 2 l36.length), (8, .j v37), (81, .y v48)] [.box 31 (c31 a1) false, .n 43, .w 43 l36], .f] (pc h38<|pc (k_palingref47_edges_J5 h49)<|pc h51<|pn)
  ·obtain rfl := oi h; exact rl [2, 3] [1, 2] [.f] (pc h38<|pn)
 ·exact Ex.noConfusion

theorem k_palingref47_edges {a1 : Api_Net} {r : ((List Palingref47_Note))} (h : palingref47_edges a1 = some r) :
  CallsOK Tryz.prog UU 27 [.agg (c31 a1)] [] ((fun r => match r with | l65 => .os 0 l65.length) r) ((fun r => match r with | l65 => [.w 43 l65]) r) := by
 unfold palingref47_edges at h
 obtain ⟨l33, h34, h⟩ := bo h
 obtain ⟨l62, h63, h⟩ := bo h
 obtain rfl := oi h; exact rf Tryz.func27 (some [1]) [.sum [1, 2, 3, 4] [0, 1, 2] (.exit 0) [(1, .o 0), (2, .os 1 0), (3, .os 2 l33.length)] [.box 31 (c31 a1) false, .n 43, .w 43 l33], .sum [1, 2, 3, 8] [0, 1, 2] (.exit 4) [(2, .os 0 0), (3, .os 1 l62.length)] [.n 43, .w 43 l62]] (pc (k_palingref47_edges_L1 _ _ h34)<|pc (k_palingref47_edges_L4 _ _ h63)<|pn)

theorem k_palingref47_All {a1 : Api_Net} {r : ((List Palingref47_Note) × Int)} (h : palingref47_All a1 = some r) :
  CallsOK Tryz.prog UU 9 [.agg (c31 a1)] [] ((fun r => match r with | (l24, v25) => .tup [.os 0 l24.length, .j v25]) r) ((fun r => match r with | (l24, v25) => [.w 43 l24]) r) := by
 unfold palingref47_All at h
 obtain ⟨r2, h3, h⟩ := bo h
 obtain ⟨h4, h⟩|⟨h4, h⟩ := ite_out h
 ·obtain rfl := oi h; exact rf Tryz.func9 (some [2]) [.b r2, .t] (pc (k_palingref15_Right h3)<|pc h4<|pn)
 ·obtain ⟨l7, h6, h⟩ := bo h
  obtain ⟨l10, h9, h⟩ := bo h
  obtain ⟨h11, h⟩|⟨h11, h⟩ := ite_out h
  ·obtain ⟨l14, h13, h⟩ := bo h
   obtain ⟨h15, h⟩|⟨h15, h⟩ := ite_out h
   ·obtain ⟨l18, h17, h⟩ := bo h
    obtain ⟨h19, h⟩|⟨h19, h⟩ := ite_out h
    ·obtain ⟨l22, h21, h⟩ := bo h
     obtain ⟨h23, h⟩|⟨h23, h⟩ := ite_out h
     ·obtain rfl := oi h; exact rf Tryz.func9 (some [2]) [.b r2, .f, .sum [1] [] .nor [] [.box 31 (c31 a1) false, .n 43, .w 43 l7], .callo (.os 0 l7.length) [.w 43 l7], .callo (.os 0 l10.length) [.w 43 l10], .obj [] (.w 43 (l7 ++ l10)), .callo (.os 0 l14.length) [.w 43 l14], .obj [] (.w 43 ((l7 ++ l10) ++ l14)), .callo (.os 0 l18.length) [.w 43 l18], .obj [] (.w 43 (((l7 ++ l10) ++ l14) ++ l18)), .callo (.os 0 l22.length) [.w 43 l22], .obj [] (.w 43 ((((l7 ++ l10) ++ l14) ++ l18) ++ l22))] (pc (k_palingref15_Right h3)<|pc h4<|pc (rh [.box 31 (c31 a1) false, .n 43, .w 43 l7])<|pc (k_palingref47_shifted h6)<|pc (im43 l7)<|pc (rr (.agg [.sl 61 a1.devices, .sl 52 a1.ports, .sl 49 a1.links, .sl 63 a1.domains, .sl 92 a1.statics, .sl 76 a1.floods, .sl 78 a1.vrfs, .sl 103 a1.irbs]))<|pc (k_palingref47_lopsided h9)<|pc (im43 l10)<|pc (app_ob 43 (n := l7.length) (l := l7) (xs := l10) h11)<|pc (rn l10.length)<|pc (k_palingref47_domains h13)<|pc (im43 l14)<|pc (app_ob 43 (n := (List.length (l7 ++ l10))) (l := l7 ++ l10) (xs := l14) h15)<|pc (rn l14.length)<|pc (k_palingref47_records h17)<|pc (im43 l18)<|pc (app_ob 43 (n := (List.length ((l7 ++ l10) ++ l14))) (l := (l7 ++ l10) ++ l14) (xs := l18) h19)<|pc (rn l18.length)<|pc (k_palingref47_edges h21)<|pc (im43 l22)<|pc (app_ob 43 (n := (List.length (((l7 ++ l10) ++ l14) ++ l18))) (l := ((l7 ++ l10) ++ l14) ++ l18) (xs := l22) h23)<|pc (rn l22.length)<|pn)
     ·cases h
    ·cases h
   ·cases h
  ·cases h

theorem k_palingref44_Port {a1 : Api_Net} {a2 : Int} {r : ByteArray} (h : palingref44_Port a1 a2 = some r) :
  CallsOK Tryz.prog UU 30 [.agg (c31 a1), .j a2] [] (.x r) [] := by
 unfold palingref44_Port at h
 obtain ⟨r3, h4, h⟩ := bo h
 obtain ⟨h5, h⟩|⟨h5, h⟩ := ite_out h
 ·obtain rfl := oi h; exact rf Tryz.func30 none [.b r3, .t] (pc (k_palingref15_Place h4)<|pc h5<|pn)
 ·obtain ⟨x6, h7, h⟩ := bo h
  obtain ⟨x8, h9, h⟩ := bo h
  obtain ⟨h10, h⟩|⟨h10, h⟩ := ite_out h
  ·obtain ⟨x11, h12, h⟩ := bo h
   obtain ⟨h13, h⟩|⟨h13, h⟩ := ite_out h
   ·obtain rfl := oi h; exact rf Tryz.func30 none [.b r3, .f, .row (c52 x6), .row (c61 x8), .row (c52 x11)] (pc (k_palingref15_Place h4)<|pc h5<|pc (ob52 h7)<|pc (ob61 h9)<|pc (of_decide_eq_true h10)<|pc (ob52 h12)<|pc (of_decide_eq_true h13)<|pn)
   ·cases h
  ·cases h

theorem k_palingref03_digits_L1 : LoopOK Tryz.prog UU 0 23 (subC (codeOf Tryz.f69) [1, 1, 0, 0, 0]) (fun s : Int × ByteArray => match s with | (v2, v3) => palingref03_digits_L1 v2 v3)
  (fun s : Int × ByteArray => (match s with | (v2, v3) => [(0, .v (.int .u64 v2)), (2, .e), (3, .x v3)] : Fr DD)) (fun s : Int × ByteArray => (match s with | (v2, v3) => [] : Heap DD)) (fun r => match r with | (v8, v9) => .exit 0) (fun r => match r with | (v8, v9) => [(0, .v (.int .u64 v8)), (2, .e), (3, .x v9)]) (fun r => match r with | (v8, v9) => []) := by
 refine loop_sound3 (fun s q h => ?_) (fun r => ?_)
 ·obtain ⟨v2, v3⟩ := s; replace h : palingref03_digits_L1 v2 v3 = some q := h
  unfold palingref03_digits_L1 at h
  obtain ⟨h4, h⟩|⟨h4, h⟩ := ite_out h
  ·obtain ⟨h5, h⟩|⟨h5, h⟩ := ite_out h
   ·obtain rfl := oi h; exact rl [0, 2, 3] [] [.t, .obj [] (.w 5 [(wr_u8 (wr_u64 (48 + (Int.tmod v2 10))) : Int)]), .callv (.v (.string (bstr [(wr_u8 (wr_u64 (48 + (Int.tmod v2 10))) : Int)])))] (pc h4<|pc (show (10 : Int) ≠ 0 from by decide)<|pc (bs_ob 5 [(wr_u8 (wr_u64 (48 + (Int.tmod v2 10))) : Int)])<|pc (cvb5 [(wr_u8 (wr_u64 (48 + (Int.tmod v2 10))) : Int)])<|pc (rn (List.length [(wr_u8 (wr_u64 (48 + (Int.tmod v2 10))) : Int)]))<|pc (of_decide_eq_true h5)<|pc (show (10 : Int) ≠ 0 from by decide)<|pn)
   ·cases h
  ·obtain rfl := oi h; exact rl [0, 2, 3] [] [.f] (pc h4<|pn)
 ·exact Ex.noConfusion

theorem k_palingref03_digits {a1 : Int} {r : ByteArray} (h : palingref03_digits a1 = some r) :
  CallsOK Tryz.prog UU 69 [.v (.int .u64 a1)] [] (.x r) [] := by
 unfold palingref03_digits at h
 obtain ⟨r11, h10, h⟩ := bo h
 obtain ⟨v8, v9⟩ := r11
 obtain ⟨h12, h⟩|⟨h12, h⟩ := ite_out h
 ·obtain rfl := oi h; exact rf Tryz.func69 none [.sum [0, 2, 3] [] (.exit 0) [(0, .v (.int .u64 v8)), (2, .e), (3, .x v9)] [], .obj [] (.w 5 [(wr_u8 (wr_u64 (48 + v8)) : Int)]), .callv (.v (.string (bstr [(wr_u8 (wr_u64 (48 + v8)) : Int)])))] (pc (k_palingref03_digits_L1 _ _ h10)<|pc (bs_ob 5 [(wr_u8 (wr_u64 (48 + v8)) : Int)])<|pc (cvb5 [(wr_u8 (wr_u64 (48 + v8)) : Int)])<|pc (rn (List.length [(wr_u8 (wr_u64 (48 + v8)) : Int)]))<|pc (of_decide_eq_true h12)<|pn)
 ·cases h

theorem k_palingref03_Text {a1 : Int} {r : ByteArray} (h : palingref03_Text a1 = some r) :
  CallsOK Tryz.prog UU 32 [.j a1] [] (.x r) [] := by
 unfold palingref03_Text at h
 obtain ⟨h2, h⟩|⟨h2, h⟩ := ite_out h
 ·obtain ⟨r3, h4, h⟩ := bo h
  obtain ⟨h5, h⟩|⟨h5, h⟩ := ite_out h
  ·obtain rfl := oi h; exact rf Tryz.func32 none [.t, .callv (.x r3)] (pc h2<|pc (k_palingref03_digits h4)<|pc (of_decide_eq_true h5)<|pn)
  ·cases h
 ·obtain ⟨r6, h7, h⟩ := bo h
  obtain rfl := oi h; exact rf Tryz.func32 none [.f, .callv (.x r6)] (pc h2<|pc (k_palingref03_digits h7)<|pn)

theorem k_palingref18_Text {a1 : Api_Net} {a2 : Int} {r : ByteArray} (h : palingref18_Text a1 a2 = some r) :
  CallsOK Tryz.prog UU 31 [.agg (c31 a1), .j a2] [] (.x r) [] := by
 unfold palingref18_Text at h
 obtain ⟨r3, h4, h⟩ := bo h
 obtain ⟨h5, h⟩|⟨h5, h⟩ := ite_out h
 ·obtain rfl := oi h; exact rf Tryz.func31 none [.b r3, .t] (pc (k_palingref15_Place h4)<|pc h5<|pn)
 ·obtain ⟨x6, h7, h⟩ := bo h
  obtain ⟨x8, h9, h⟩ := bo h
  obtain ⟨h10, h⟩|⟨h10, h⟩ := ite_out h
  ·obtain ⟨r11, h12, h⟩ := bo h
   obtain ⟨h13, h⟩|⟨h13, h⟩ := ite_out h
   ·obtain rfl := oi h; exact rf Tryz.func31 none [.b r3, .f, .row (c63 x6), .row (c61 x8), .callv (.x r11)] (pc (k_palingref15_Place h4)<|pc h5<|pc (ob63 h7)<|pc (ob61 h9)<|pc (of_decide_eq_true h10)<|pc (k_palingref03_Text h12)<|pc (of_decide_eq_true h13)<|pn)
   ·cases h
  ·cases h

end Go.Eng
