/- Part of the proof of NamesOwn: printed mirrors of the functions, or their contracts. No conditions. -/
import Derived.Test.YtcclngfmkodgjaaMAK1
set_option linter.unusedVariables false
set_option maxRecDepth 100000
namespace Go.Eng
open Go Go.Proofs
theorem k_palinglaw15_works {r : Bool} (h : palinglaw15_works = some r) :
  CallsOK Try.prog UU 10 [] [] (.y r) [] := by
 have hr : some true = some r := (by kernel_rfl : palinglaw15_works = some true).symm.trans h
 unfold palinglaw15_works at h
 obtain ⟨l3, h2, h⟩ := bo h
 obtain ⟨r4, h5, h⟩ := bo h
 obtain ⟨h6, h⟩|⟨h6, h⟩ := ite_out h
 ·obtain ⟨r7, h8, h⟩ := bo h
  obtain ⟨h9, h⟩|⟨h9, h⟩ := ite_out h
  ·obtain ⟨r10, h11, h⟩ := bo h
   obtain ⟨h12, h⟩|⟨h12, h⟩ := ite_out h
   ·obtain ⟨r13, h14, h⟩ := bo h
    obtain ⟨h15, h⟩|⟨h15, h⟩ := ite_out h
    ·obtain ⟨r16, h17, h⟩ := bo h
     obtain ⟨h18, h⟩|⟨h18, h⟩ := ite_out h
     ·obtain ⟨r19, h20, h⟩ := bo h
      obtain ⟨h21, h⟩|⟨h21, h⟩ := ite_out h
      ·obtain ⟨h22, h⟩|⟨h22, h⟩ := ite_out h
       ·obtain ⟨h23, h⟩|⟨h23, h⟩ := ite_out h
        ·obtain ⟨x24, h25, h⟩ := bo h
         obtain rfl := oi h; exact rf Try.func10 none [.obj [] (.w 47 [(⟨0, 0, (⟨#[97]⟩ : ByteArray), 0, 0⟩ : Api_Device)]), .obj [] (.w 49 [(⟨0, 0, 10, 0, (-1), (⟨#[112]⟩ : ByteArray), []⟩ : Api_Port)]), .obj [] (.w 51 [(⟨0, 10, 0, (-1), 0, []⟩ : Api_Domain)]), .callo (.os 0 l3.length) [.w 3 l3], .b r4, .t, .b r7, .t, .callv (.j r10), .t, .callv (.j r13), .t, .callv (.j r16), .t, .callv (.j r19), .t, .t, .row (c3 x24)] (pc (bs_ob 47 [(⟨0, 0, (⟨#[97]⟩ : ByteArray), 0, 0⟩ : Api_Device)])<|pc (bs_ob 49 [(⟨0, 0, 10, 0, (-1), (⟨#[112]⟩ : ByteArray), []⟩ : Api_Port)])<|pc (bs_ob 51 [(⟨0, 10, 0, (-1), 0, []⟩ : Api_Domain)])<|pc (k_names_Members h2)<|pc (im3 l3)<|pc (rn (List.length [(⟨0, 0, (⟨#[97]⟩ : ByteArray), 0, 0⟩ : Api_Device)]))<|pc (rn (List.length [(⟨0, 0, 10, 0, (-1), (⟨#[112]⟩ : ByteArray), []⟩ : Api_Port)]))<|pc (rn 0)<|pc (rn (List.length [(⟨0, 10, 0, (-1), 0, []⟩ : Api_Domain)]))<|pd (rn 0)<|pd (rn 0)<|pc (k_names_Right h5)<|pc (rn (List.length [(⟨0, 0, (⟨#[97]⟩ : ByteArray), 0, 0⟩ : Api_Device)]))<|pc (rn (List.length [(⟨0, 0, 10, 0, (-1), (⟨#[112]⟩ : ByteArray), []⟩ : Api_Port)]))<|pc (rn 0)<|pc (rn (List.length [(⟨0, 10, 0, (-1), 0, []⟩ : Api_Domain)]))<|pd (rn 0)<|pd (rn 0)<|pc h6<|pc (k_names_Right h8)<|pc h9<|pc (k_names_Device h11)<|pc (rn (List.length [(⟨0, 0, (⟨#[97]⟩ : ByteArray), 0, 0⟩ : Api_Device)]))<|pc (rn (List.length [(⟨0, 0, 10, 0, (-1), (⟨#[112]⟩ : ByteArray), []⟩ : Api_Port)]))<|pc (rn 0)<|pc (rn (List.length [(⟨0, 10, 0, (-1), 0, []⟩ : Api_Domain)]))<|pd (rn 0)<|pd (rn 0)<|pc h12<|pc (k_names_Port h14)<|pc (rn (List.length [(⟨0, 0, (⟨#[97]⟩ : ByteArray), 0, 0⟩ : Api_Device)]))<|pc (rn (List.length [(⟨0, 0, 10, 0, (-1), (⟨#[112]⟩ : ByteArray), []⟩ : Api_Port)]))<|pc (rn 0)<|pc (rn (List.length [(⟨0, 10, 0, (-1), 0, []⟩ : Api_Domain)]))<|pd (rn 0)<|pd (rn 0)<|pc h15<|pc (k_names_Domain h17)<|pc (rn (List.length [(⟨0, 0, (⟨#[97]⟩ : ByteArray), 0, 0⟩ : Api_Device)]))<|pc (rn (List.length [(⟨0, 0, 10, 0, (-1), (⟨#[112]⟩ : ByteArray), []⟩ : Api_Port)]))<|pc (rn 0)<|pc (rn (List.length [(⟨0, 10, 0, (-1), 0, []⟩ : Api_Domain)]))<|pd (rn 0)<|pd (rn 0)<|pc h18<|pc (k_names_Domain h20)<|pc (rn (List.length [(⟨0, 0, (⟨#[97]⟩ : ByteArray), 0, 0⟩ : Api_Device)]))<|pc (rn (List.length [(⟨0, 0, 10, 0, (-1), (⟨#[112]⟩ : ByteArray), []⟩ : Api_Port)]))<|pc (rn 0)<|pc (rn (List.length [(⟨0, 10, 0, (-1), 0, []⟩ : Api_Domain)]))<|pd (rn 0)<|pd (rn 0)<|pc h21<|pc (rn l3.length)<|pc h22<|pc (an l3.length (lin_ob h23))<|pc (an l3.length (obn3 h25))<|pn)
        ·cases h
       ·exact absurd (hr.trans h.symm) (by decide)
      ·exact absurd (hr.trans h.symm) (by decide)
     ·exact absurd (hr.trans h.symm) (by decide)
    ·exact absurd (hr.trans h.symm) (by decide)
   ·exact absurd (hr.trans h.symm) (by decide)
  ·exact absurd (hr.trans h.symm) (by decide)
 ·exact absurd (hr.trans h.symm) (by decide)

theorem k_palinglaw15_Great_L1 {a1 : Api_Net} : LoopOK Try.prog UU 0 123 (subC (codeOf Try.f6) [1, 1, 0, 1, 0, 0]) (ρ := Unit ⊕ Unit) (palinglaw15_Great_L1 a1)
  (fun v10 : Int => ([(1, .o 0), (2, .y false), (3, .j v10)] : Fr DD)) (fun v10 : Int => ([.box 31 (c31 a1) false] : Heap DD)) (fun r => match r with | Sum.inl _ => .ret | Sum.inr _ => .exit 0) (fun r => match r with | Sum.inl _ => [(2, .y true)] | Sum.inr _ => [(1, .o 0), (2, .y false)]) (fun r => match r with | Sum.inl _ => [] | Sum.inr _ => [.box 31 (c31 a1) false]) := by
 refine loop_sound3 (fun s q h => ?_) (fun r => ?_)
 ·replace h : palinglaw15_Great_L1 a1 s = some q := h; revert h; revert s; intro v10 h
  unfold palinglaw15_Great_L1 at h
  obtain ⟨h11, h⟩|⟨h11, h⟩ := ite_out h
  ·obtain ⟨x12, h13, h⟩ := bo h
   obtain ⟨h14, h⟩|⟨h14, h⟩ := ite_out h
   ·obtain rfl := oi h; exact rl [2] [] [.t, .row (c49 x12), .t] (pc h11<|pc (ob49 h13)<|pc h14<|pn)
   ·obtain rfl := oi h; exact rl [1, 2, 3] [0] [.t, .row (c49 x12), .f] (pc h11<|pc (ob49 h13)<|pc h14<|pn)
  ·obtain rfl := oi h; exact rl [1, 2] [0] [.f] (pc h11<|pn)
 ·rcases r with _ | _ <;> exact Ex.noConfusion

theorem k_palinglaw15_Great_L2 {a1 : Api_Net} : LoopOK Try.prog UU 0 123 (subC (codeOf Try.f6) [1, 1, 1, 0, 1, 0, 0]) (ρ := Unit ⊕ Unit) (palinglaw15_Great_L2 a1)
  (fun v17 : Int => ([(1, .o 0), (2, .y false), (4, .j v17)] : Fr DD)) (fun v17 : Int => ([.box 31 (c31 a1) false] : Heap DD)) (fun r => match r with | Sum.inl _ => .ret | Sum.inr _ => .exit 2) (fun r => match r with | Sum.inl _ => [(2, .y true)] | Sum.inr _ => [(1, .o 0), (2, .y false)]) (fun r => match r with | Sum.inl _ => [] | Sum.inr _ => [.box 31 (c31 a1) false]) := by
 refine loop_sound3 (fun s q h => ?_) (fun r => ?_)
 ·replace h : palinglaw15_Great_L2 a1 s = some q := h; revert h; revert s; intro v17 h
  unfold palinglaw15_Great_L2 at h
  obtain ⟨h18, h⟩|⟨h18, h⟩ := ite_out h
  ·obtain ⟨x19, h20, h⟩ := bo h
   obtain ⟨h21, h⟩|⟨h21, h⟩ := ite_out h
   ·obtain rfl := oi h; exact rl [2] [] [.t, .row (c51 x19), .t] (pc h18<|pc (ob51 h20)<|pc h21<|pn)
   ·obtain rfl := oi h; exact rl [1, 2, 4] [0] [.t, .row (c51 x19), .f] (pc h18<|pc (ob51 h20)<|pc h21<|pn)
  ·obtain rfl := oi h; exact rl [1, 2] [0] [.f] (pc h18<|pn)
 ·rcases r with _ | _ <;> exact Ex.noConfusion

theorem k_palinglaw15_Great_L3 {a1 : Api_Net} : LoopOK Try.prog UU 0 123 (subC (codeOf Try.f6) [1, 1, 1, 1, 0, 1, 0, 0]) (ρ := Unit ⊕ Unit) (palinglaw15_Great_L3 a1)
  (fun v24 : Int => ([(1, .o 0), (2, .y false), (5, .j v24)] : Fr DD)) (fun v24 : Int => ([.box 31 (c31 a1) false] : Heap DD)) (fun r => match r with | Sum.inl _ => .ret | Sum.inr _ => .exit 4) (fun r => match r with | Sum.inl _ => [(2, .y true)] | Sum.inr _ => [(1, .o 0), (2, .y false)]) (fun r => match r with | Sum.inl _ => [] | Sum.inr _ => [.box 31 (c31 a1) false]) := by
 refine loop_sound3 (fun s q h => ?_) (fun r => ?_)
 ·replace h : palinglaw15_Great_L3 a1 s = some q := h; revert h; revert s; intro v24 h
  unfold palinglaw15_Great_L3 at h
  obtain ⟨h25, h⟩|⟨h25, h⟩ := ite_out h
  ·obtain ⟨x26, h27, h⟩ := bo h
   obtain ⟨h28, h⟩|⟨h28, h⟩ := ite_out h
   ·obtain rfl := oi h; exact rl [2] [] [.t, .row (c58 x26), .t] (pc h25<|pc (ob58 h27)<|pc h28<|pn)
   ·obtain rfl := oi h; exact rl [1, 2, 5] [0] [.t, .row (c58 x26), .f] (pc h25<|pc (ob58 h27)<|pc h28<|pn)
  ·obtain rfl := oi h; exact rl [1, 2] [0] [.f] (pc h25<|pn)
 ·rcases r with _ | _ <;> exact Ex.noConfusion

theorem k_palinglaw15_Great_L4 {a1 : Api_Net} : LoopOK Try.prog UU 0 123 (subC (codeOf Try.f6) [1, 1, 1, 1, 1, 0, 1, 0, 0]) (ρ := Unit ⊕ Unit) (palinglaw15_Great_L4 a1)
  (fun v31 : Int => ([(1, .o 0), (2, .y false), (6, .j v31)] : Fr DD)) (fun v31 : Int => ([.box 31 (c31 a1) false] : Heap DD)) (fun r => match r with | Sum.inl _ => .ret | Sum.inr _ => .exit 6) (fun r => match r with | Sum.inl _ => [(2, .y true)] | Sum.inr _ => [(2, .y false)]) (fun r => match r with | Sum.inl _ => [] | Sum.inr _ => []) := by
 refine loop_sound3 (fun s q h => ?_) (fun r => ?_)
 ·replace h : palinglaw15_Great_L4 a1 s = some q := h; revert h; revert s; intro v31 h
  unfold palinglaw15_Great_L4 at h
  obtain ⟨h32, h⟩|⟨h32, h⟩ := ite_out h
  ·obtain ⟨x33, h34, h⟩ := bo h
   obtain ⟨h35, h⟩|⟨h35, h⟩ := ite_out h
   ·obtain rfl := oi h; exact rl [2] [] [.t, .row (c53 x33), .t] (pc h32<|pc (ob53 h34)<|pc h35<|pn)
   ·obtain ⟨x36, h37, h⟩ := bo h
    obtain ⟨h38, h⟩|⟨h38, h⟩ := ite_out h
    ·obtain rfl := oi h; exact rl [2] [] [.t, .row (c53 x33), .f, .row (c53 x36), .t] (pc h32<|pc (ob53 h34)<|pc h35<|pc (ob53 h37)<|pc h38<|pn)
    ·obtain rfl := oi h; exact rl [1, 2, 6] [0] [.t, .row (c53 x33), .f, .row (c53 x36), .f] (pc h32<|pc (ob53 h34)<|pc h35<|pc (ob53 h37)<|pc h38<|pn)
  ·obtain rfl := oi h; exact rl [2] [] [.f] (pc h32<|pn)
 ·rcases r with _ | _ <;> exact Ex.noConfusion

theorem k_palinglaw15_Great {a1 : Api_Net} {r : Bool} (h : palinglaw15_Great a1 = some r) :
  CallsOK Try.prog UU 6 [.agg (c31 a1)] [] (.y r) [] := by
 unfold palinglaw15_Great at h
 obtain ⟨h2, h⟩|⟨h2, h⟩ := ite_out h
 ·obtain rfl := oi h; exact rf Try.func6 none [.t] (pc h2<|pn)
 ·obtain ⟨h3, h⟩|⟨h3, h⟩ := ite_out h
  ·obtain rfl := oi h; exact rf Try.func6 none [.f, .t] (pc h2<|pc h3<|pn)
  ·obtain ⟨h4, h⟩|⟨h4, h⟩ := ite_out h
   ·obtain rfl := oi h; exact rf Try.func6 none [.f, .f, .t] (pc h2<|pc h3<|pc h4<|pn)
   ·obtain ⟨h5, h⟩|⟨h5, h⟩ := ite_out h
    ·obtain rfl := oi h; exact rf Try.func6 none [.f, .f, .f, .t] (pc h2<|pc h3<|pc h4<|pc h5<|pn)
    ·obtain ⟨h6, h⟩|⟨h6, h⟩ := ite_out h
     ·obtain rfl := oi h; exact rf Try.func6 none [.f, .f, .f, .f, .t] (pc h2<|pc h3<|pc h4<|pc h5<|pc h6<|pn)
     ·obtain ⟨h7, h⟩|⟨h7, h⟩ := ite_out h
      ·obtain rfl := oi h; exact rf Try.func6 none [.f, .f, .f, .f, .f, .t] (pc h2<|pc h3<|pc h4<|pc h5<|pc h6<|pc h7<|pn)
      ·obtain ⟨h8, h⟩|⟨h8, h⟩ := ite_out h
       ·obtain rfl := oi h; exact rf Try.func6 none [.f, .f, .f, .f, .f, .f, .t] (pc h2<|pc h3<|pc h4<|pc h5<|pc h6<|pc h7<|pc h8<|pn)
       ·obtain ⟨h9, h⟩|⟨h9, h⟩ := ite_out h
        ·obtain rfl := oi h; exact rf Try.func6 none [.f, .f, .f, .f, .f, .f, .f, .t] (pc h2<|pc h3<|pc h4<|pc h5<|pc h6<|pc h7<|pc h8<|pc h9<|pn)
        ·obtain ⟨r16, h15, h⟩ := bo h
         rcases r16 with _ | _
         ·obtain rfl := oi h; exact rf Try.func6 none [.f, .f, .f, .f, .f, .f, .f, .f, .sum [1, 2, 3] [0] .ret [(2, .y true)] []] (pc h2<|pc h3<|pc h4<|pc h5<|pc h6<|pc h7<|pc h8<|pc h9<|pc (k_palinglaw15_Great_L1 _ _ h15)<|pn)
         ·obtain ⟨r23, h22, h⟩ := bo h
          rcases r23 with _ | _
          ·obtain rfl := oi h; exact rf Try.func6 none [.f, .f, .f, .f, .f, .f, .f, .f, .sum [1, 2, 3] [0] (.exit 0) [(1, .o 0), (2, .y false)] [.box 31 (c31 a1) false], .sum [1, 2, 4] [0] .ret [(2, .y true)] []] (pc h2<|pc h3<|pc h4<|pc h5<|pc h6<|pc h7<|pc h8<|pc h9<|pc (k_palinglaw15_Great_L1 _ _ h15)<|pc (k_palinglaw15_Great_L2 _ _ h22)<|pn)
          ·obtain ⟨r30, h29, h⟩ := bo h
           rcases r30 with _ | _
           ·obtain rfl := oi h; exact rf Try.func6 none [.f, .f, .f, .f, .f, .f, .f, .f, .sum [1, 2, 3] [0] (.exit 0) [(1, .o 0), (2, .y false)] [.box 31 (c31 a1) false], .sum [1, 2, 4] [0] (.exit 2) [(1, .o 0), (2, .y false)] [.box 31 (c31 a1) false], .sum [1, 2, 5] [0] .ret [(2, .y true)] []] (pc h2<|pc h3<|pc h4<|pc h5<|pc h6<|pc h7<|pc h8<|pc h9<|pc (k_palinglaw15_Great_L1 _ _ h15)<|pc (k_palinglaw15_Great_L2 _ _ h22)<|pc (k_palinglaw15_Great_L3 _ _ h29)<|pn)
           ·obtain ⟨r40, h39, h⟩ := bo h
            rcases r40 with _ | _
            ·obtain rfl := oi h; exact rf Try.func6 none [.f, .f, .f, .f, .f, .f, .f, .f, .sum [1, 2, 3] [0] (.exit 0) [(1, .o 0), (2, .y false)] [.box 31 (c31 a1) false], .sum [1, 2, 4] [0] (.exit 2) [(1, .o 0), (2, .y false)] [.box 31 (c31 a1) false], .sum [1, 2, 5] [0] (.exit 4) [(1, .o 0), (2, .y false)] [.box 31 (c31 a1) false], .sum [1, 2, 6] [0] .ret [(2, .y true)] []] (pc h2<|pc h3<|pc h4<|pc h5<|pc h6<|pc h7<|pc h8<|pc h9<|pc (k_palinglaw15_Great_L1 _ _ h15)<|pc (k_palinglaw15_Great_L2 _ _ h22)<|pc (k_palinglaw15_Great_L3 _ _ h29)<|pc (k_palinglaw15_Great_L4 _ _ h39)<|pn)
            ·obtain rfl := oi h; exact rf Try.func6 none [.f, .f, .f, .f, .f, .f, .f, .f, .sum [1, 2, 3] [0] (.exit 0) [(1, .o 0), (2, .y false)] [.box 31 (c31 a1) false], .sum [1, 2, 4] [0] (.exit 2) [(1, .o 0), (2, .y false)] [.box 31 (c31 a1) false], .sum [1, 2, 5] [0] (.exit 4) [(1, .o 0), (2, .y false)] [.box 31 (c31 a1) false], .sum [1, 2, 6] [0] (.exit 6) [(2, .y false)] []] (pc h2<|pc h3<|pc h4<|pc h5<|pc h6<|pc h7<|pc h8<|pc h9<|pc (k_palinglaw15_Great_L1 _ _ h15)<|pc (k_palinglaw15_Great_L2 _ _ h22)<|pc (k_palinglaw15_Great_L3 _ _ h29)<|pc (k_palinglaw15_Great_L4 _ _ h39)<|pn)

theorem k_slices_Clone_Device {a1 : List Api_Device} {r : List Api_Device} (h : slices_Clone_Device a1 = some r) :
  CallsOK Try.prog UU 26 [.sl 47 a1] [] (.os 0 r.length) [.w 47 r] := by
 unfold slices_Clone_Device at h
 obtain ⟨h1, h⟩|⟨h1, h⟩ := ite_out h
 ·injection h with h; subst h
  refine sn_split ?_ (fun e => ?_)
  ·exact rf Try.func26 (some [1]) [.obj [] (.n 47), .obj [] (.w 47 a1)] (pc (bs_ob 47 [])<|pc (app_ob 47 (n := 0) (l := []) (xs := a1) h1)<|pn)
  ·subst e; exact rf Try.func26 (some [1]) [] (pn)
 ·cases h

theorem k_slices_Clone_Port {a1 : List Api_Port} {r : List Api_Port} (h : slices_Clone_Port a1 = some r) :
  CallsOK Try.prog UU 27 [.sl 49 a1] [] (.os 0 r.length) [.w 49 r] := by
 unfold slices_Clone_Port at h
 obtain ⟨h1, h⟩|⟨h1, h⟩ := ite_out h
 ·injection h with h; subst h
  refine sn_split ?_ (fun e => ?_)
  ·exact rf Try.func27 (some [1]) [.obj [] (.n 49), .obj [] (.w 49 a1)] (pc (bs_ob 49 [])<|pc (app_ob 49 (n := 0) (l := []) (xs := a1) h1)<|pn)
  ·subst e; exact rf Try.func27 (some [1]) [] (pn)
 ·cases h

theorem k_slices_Clone_Link {a1 : List Api_Link} {r : List Api_Link} (h : slices_Clone_Link a1 = some r) :
  CallsOK Try.prog UU 28 [.sl 88 a1] [] (.os 0 r.length) [.w 88 r] := by
 unfold slices_Clone_Link at h
 obtain ⟨h1, h⟩|⟨h1, h⟩ := ite_out h
 ·injection h with h; subst h
  refine sn_split ?_ (fun e => ?_)
  ·exact rf Try.func28 (some [1]) [.obj [] (.n 88), .obj [] (.w 88 a1)] (pc (bs_ob 88 [])<|pc (app_ob 88 (n := 0) (l := []) (xs := a1) h1)<|pn)
  ·subst e; exact rf Try.func28 (some [1]) [] (pn)
 ·cases h

theorem k_slices_Clone_Domain {a1 : List Api_Domain} {r : List Api_Domain} (h : slices_Clone_Domain a1 = some r) :
  CallsOK Try.prog UU 29 [.sl 51 a1] [] (.os 0 r.length) [.w 51 r] := by
 unfold slices_Clone_Domain at h
 obtain ⟨h1, h⟩|⟨h1, h⟩ := ite_out h
 ·injection h with h; subst h
  refine sn_split ?_ (fun e => ?_)
  ·exact rf Try.func29 (some [1]) [.obj [] (.n 51), .obj [] (.w 51 a1)] (pc (bs_ob 51 [])<|pc (app_ob 51 (n := 0) (l := []) (xs := a1) h1)<|pn)
  ·subst e; exact rf Try.func29 (some [1]) [] (pn)
 ·cases h

theorem k_slices_Clone_Static {a1 : List Api_Static} {r : List Api_Static} (h : slices_Clone_Static a1 = some r) :
  CallsOK Try.prog UU 30 [.sl 92 a1] [] (.os 0 r.length) [.w 92 r] := by
 unfold slices_Clone_Static at h
 obtain ⟨h1, h⟩|⟨h1, h⟩ := ite_out h
 ·injection h with h; subst h
  refine sn_split ?_ (fun e => ?_)
  ·exact rf Try.func30 (some [1]) [.obj [] (.n 92), .obj [] (.w 92 a1)] (pc (bs_ob 92 [])<|pc (app_ob 92 (n := 0) (l := []) (xs := a1) h1)<|pn)
  ·subst e; exact rf Try.func30 (some [1]) [] (pn)
 ·cases h

theorem k_slices_Clone_Flood {a1 : List Api_Flood} {r : List Api_Flood} (h : slices_Clone_Flood a1 = some r) :
  CallsOK Try.prog UU 31 [.sl 58 a1] [] (.os 0 r.length) [.w 58 r] := by
 unfold slices_Clone_Flood at h
 obtain ⟨h1, h⟩|⟨h1, h⟩ := ite_out h
 ·injection h with h; subst h
  refine sn_split ?_ (fun e => ?_)
  ·exact rf Try.func31 (some [1]) [.obj [] (.n 58), .obj [] (.w 58 a1)] (pc (bs_ob 58 [])<|pc (app_ob 58 (n := 0) (l := []) (xs := a1) h1)<|pn)
  ·subst e; exact rf Try.func31 (some [1]) [] (pn)
 ·cases h

theorem k_slices_Clone_Vrf {a1 : List Api_Vrf} {r : List Api_Vrf} (h : slices_Clone_Vrf a1 = some r) :
  CallsOK Try.prog UU 32 [.sl 53 a1] [] (.os 0 r.length) [.w 53 r] := by
 unfold slices_Clone_Vrf at h
 obtain ⟨h1, h⟩|⟨h1, h⟩ := ite_out h
 ·injection h with h; subst h
  refine sn_split ?_ (fun e => ?_)
  ·exact rf Try.func32 (some [1]) [.obj [] (.n 53), .obj [] (.w 53 a1)] (pc (bs_ob 53 [])<|pc (app_ob 53 (n := 0) (l := []) (xs := a1) h1)<|pn)
  ·subst e; exact rf Try.func32 (some [1]) [] (pn)
 ·cases h

theorem k_slices_Clone_Irb {a1 : List Api_Irb} {r : List Api_Irb} (h : slices_Clone_Irb a1 = some r) :
  CallsOK Try.prog UU 33 [.sl 99 a1] [] (.os 0 r.length) [.w 99 r] := by
 unfold slices_Clone_Irb at h
 obtain ⟨h1, h⟩|⟨h1, h⟩ := ite_out h
 ·injection h with h; subst h
  refine sn_split ?_ (fun e => ?_)
  ·exact rf Try.func33 (some [1]) [.obj [] (.n 99), .obj [] (.w 99 a1)] (pc (bs_ob 99 [])<|pc (app_ob 99 (n := 0) (l := []) (xs := a1) h1)<|pn)
  ·subst e; exact rf Try.func33 (some [1]) [] (pn)
 ·cases h

theorem k_slices_Clone_int {a1 : List Int} {r : List Int} (h : slices_Clone_int a1 = some r) :
  CallsOK Try.prog UU 34 [.sl 3 a1] [] (.os 0 r.length) [.w 3 r] := by
 unfold slices_Clone_int at h
 obtain ⟨h1, h⟩|⟨h1, h⟩ := ite_out h
 ·injection h with h; subst h
  refine sn_split ?_ (fun e => ?_)
  ·exact rf Try.func34 (some [1]) [.obj [] (.n 3), .obj [] (.w 3 a1)] (pc (bs_ob 3 [])<|pc (app_ob 3 (n := 0) (l := []) (xs := a1) h1)<|pn)
  ·subst e; exact rf Try.func34 (some [1]) [] (pn)
 ·cases h

theorem k_slices_Clone_uint32 {a1 : List Int} {r : List Int} (h : slices_Clone_uint32 a1 = some r) :
  CallsOK Try.prog UU 35 [.sl 45 a1] [] (.os 0 r.length) [.w 45 r] := by
 unfold slices_Clone_uint32 at h
 obtain ⟨h1, h⟩|⟨h1, h⟩ := ite_out h
 ·injection h with h; subst h
  refine sn_split ?_ (fun e => ?_)
  ·exact rf Try.func35 (some [1]) [.obj [] (.n 45), .obj [] (.w 45 a1)] (pc (bs_ob 45 [])<|pc (app_ob 45 (n := 0) (l := []) (xs := a1) h1)<|pn)
  ·subst e; exact rf Try.func35 (some [1]) [] (pn)
 ·cases h

def b0_k_names_Copy_L1 : AObj DD := .box 31 [.os 1 0, .os 2 0, .os 3 0, .os 4 0, .os 5 0, .os 6 0, .os 7 0, .os 8 0] false
theorem k_names_Copy_L1 {l4 : List Api_Device} {l7 : List Api_Port} {l10 : List Api_Link} {l13 : List Api_Domain} {l16 : List Api_Static} {l19 : List Api_Flood} {l22 : List Api_Vrf} {l25 : List Api_Irb} : LoopOK Try.prog UU 0 119 (subC (codeOf Try.f11) [1, 1, 0, 1, 0, 0]) (fun s : (List Api_Port) × Int => match s with | (l26, v27) => names_Copy_L1 l4 l7 l10 l13 l16 l19 l22 l25 l26 v27)
  (fun s : (List Api_Port) × Int => (match s with | (l26, v27) => [(2, .o 0), (3, .o 9), (36, .j (l7.length : Int)), (37, .j v27)] : Fr DD)) (fun s : (List Api_Port) × Int => (match s with | (l26, v27) => [b0_k_names_Copy_L1, .n 47, .n 49, .n 88, .n 51, .n 92, .n 58, .n 53, .n 99, .box 31 [.os 10 l4.length, .os 11 l7.length, .os 12 l10.length, .os 13 l13.length, .os 14 l16.length, .os 15 l19.length, .os 16 l22.length, .os 17 l25.length] false, .w 47 l4, .arr 49 l26 l7.length false, .w 88 l10, .w 51 l13, .w 92 l16, .w 58 l19, .w 53 l22, .w 99 l25] : Heap DD)) (fun r => match r with | l39 => .exit 0) (fun r => match r with | l39 => [(2, .o 0), (3, .o 9)]) (fun r => match r with | l39 => [b0_k_names_Copy_L1, .n 47, .n 49, .n 88, .n 51, .n 92, .n 58, .n 53, .n 99, .box 31 [.os 10 l4.length, .os 11 l7.length, .os 12 l10.length, .os 13 l13.length, .os 14 l16.length, .os 15 l19.length, .os 16 l22.length, .os 17 l25.length] false, .w 47 l4, .arr 49 l39 l7.length false, .w 88 l10, .w 51 l13, .w 92 l16, .w 58 l19, .w 53 l22, .w 99 l25]) := by
 refine loop_sound3 (fun s q h => ?_) (fun r => ?_)
 ·obtain ⟨l26, v27⟩ := s; replace h : names_Copy_L1 l4 l7 l10 l13 l16 l19 l22 l25 l26 v27 = some q := h
  unfold names_Copy_L1 at h
  obtain ⟨h28, h⟩|⟨h28, h⟩ := ite_out h
  ·obtain ⟨h29, h⟩|⟨h29, h⟩ := ite_out h
   ·obtain ⟨x30, h31, h⟩ := bo h
    obtain ⟨l34, h33, h⟩ := bo h
    obtain ⟨x35, h36, h⟩ := bo h
    obtain rfl := oi h; exact rl [2, 3, 36, 37] [0, 1, 2, 3, 4, 5, 6, 7, 8, 9, 10, 11, 12, 13, 14, 15, 16, 17] [.t, .sum [9] [] .nor [] [b0_k_names_Copy_L1, .n 47, .n 49, .n 88, .n 51, .n 92, .n 58, .n 53, .n 99, .box 31 [.os 10 l4.length, .os 11 l7.length, .os 12 l10.length, .os 13 l13.length, .os 14 l16.length, .os 15 l19.length, .os 16 l22.length, .os 17 l25.length] false, .w 47 l4, .arr 49 l26 l7.length false, .w 88 l10, .w 51 l13, .w 92 l16, .w 58 l19, .w 53 l22, .w 99 l25, .w 3 l34], .row (c49 x30), .callo (.os 0 l34.length) [.w 3 l34], .row (c49 x35), .obj [18] (.arr 49 (List.set l26 v27.toNat (⟨x35.row, x35.dev, x35.native, x35.cost, x35.link, x35.name, l34⟩ : Api_Port)) l7.length false)] (pc h28<|pc (rr (.op 9 1 0 1))<|pc (rr (.os 11 l7.length))<|pc (rr (.j v27))<|pc (an l7.length (lin_ob h29))<|pc (rn l7.length)<|pc (an l7.length (obn49 h31))<|pc (rh [b0_k_names_Copy_L1, .n 47, .n 49, .n 88, .n 51, .n 92, .n 58, .n 53, .n 99, .box 31 [.os 10 l4.length, .os 11 l7.length, .os 12 l10.length, .os 13 l13.length, .os 14 l16.length, .os 15 l19.length, .os 16 l22.length, .os 17 l25.length] false, .w 47 l4, .arr 49 l26 l7.length false, .w 88 l10, .w 51 l13, .w 92 l16, .w 58 l19, .w 53 l22, .w 99 l25, .w 3 l34])<|pc (k_slices_Clone_int h33)<|pc (im3 l34)<|pc (an l7.length (lin_ob h29))<|pc (rn l7.length)<|pc (st_ob (e := 49) (n := l7.length) (l := l26) (i := v27.toNat) (⟨x35.row, x35.dev, x35.native, x35.cost, x35.link, x35.name, l34⟩ : Api_Port) [.j x35.row, .j x35.dev, .j x35.native, .j x35.cost, .j x35.link, .x x35.name, .sl 3 l34] (obn49 h36) rfl)<|pc (rn l34.length)<|pn)
   ·cases h
  ·obtain rfl := oi h; exact rl [2, 3] [0, 1, 2, 3, 4, 5, 6, 7, 8, 9, 10, 11, 12, 13, 14, 15, 16, 17] [.f] (pc h28<|pn)
 ·exact Ex.noConfusion

def b0_k_names_Copy_L2 : AObj DD := .box 31 [.os 1 0, .os 2 0, .os 3 0, .os 4 0, .os 5 0, .os 6 0, .os 7 0, .os 8 0] false
theorem k_names_Copy_L2 {l4 : List Api_Device} {l7 : List Api_Port} {l10 : List Api_Link} {l13 : List Api_Domain} {l16 : List Api_Static} {l19 : List Api_Flood} {l22 : List Api_Vrf} {l25 : List Api_Irb} {l39 : List Api_Port} : LoopOK Try.prog UU 0 119 (subC (codeOf Try.f11) [1, 1, 1, 0, 1, 0, 0]) (fun s : (List Api_Domain) × Int => match s with | (l42, v43) => names_Copy_L2 l4 l7 l10 l13 l16 l19 l22 l25 l39 l42 v43)
  (fun s : (List Api_Domain) × Int => (match s with | (l42, v43) => [(2, .o 0), (3, .o 9), (55, .j (l13.length : Int)), (56, .j v43)] : Fr DD)) (fun s : (List Api_Domain) × Int => (match s with | (l42, v43) => [b0_k_names_Copy_L2, .n 47, .n 49, .n 88, .n 51, .n 92, .n 58, .n 53, .n 99, .box 31 [.os 10 l4.length, .os 11 l7.length, .os 12 l10.length, .os 13 l13.length, .os 14 l16.length, .os 15 l19.length, .os 16 l22.length, .os 17 l25.length] false, .w 47 l4, .arr 49 l39 l7.length false, .w 88 l10, .arr 51 l42 l13.length false, .w 92 l16, .w 58 l19, .w 53 l22, .w 99 l25] : Heap DD)) (fun r => match r with | l55 => .exit 2) (fun r => match r with | l55 => [(2, .o 0), (3, .o 9)]) (fun r => match r with | l55 => [b0_k_names_Copy_L2, .n 47, .n 49, .n 88, .n 51, .n 92, .n 58, .n 53, .n 99, .box 31 [.os 10 l4.length, .os 11 l7.length, .os 12 l10.length, .os 13 l13.length, .os 14 l16.length, .os 15 l19.length, .os 16 l22.length, .os 17 l25.length] false, .w 47 l4, .arr 49 l39 l7.length false, .w 88 l10, .arr 51 l55 l13.length false, .w 92 l16, .w 58 l19, .w 53 l22, .w 99 l25]) := by
 refine loop_sound3 (fun s q h => ?_) (fun r => ?_)
 ·obtain ⟨l42, v43⟩ := s; replace h : names_Copy_L2 l4 l7 l10 l13 l16 l19 l22 l25 l39 l42 v43 = some q := h
  unfold names_Copy_L2 at h
  obtain ⟨h44, h⟩|⟨h44, h⟩ := ite_out h
  ·obtain ⟨h45, h⟩|⟨h45, h⟩ := ite_out h
   ·obtain ⟨x46, h47, h⟩ := bo h
    obtain ⟨l50, h49, h⟩ := bo h
    obtain ⟨x51, h52, h⟩ := bo h
    obtain rfl := oi h; exact rl [2, 3, 55, 56] [0, 1, 2, 3, 4, 5, 6, 7, 8, 9, 10, 11, 12, 13, 14, 15, 16, 17] [.t, .sum [9] [] .nor [] [b0_k_names_Copy_L2, .n 47, .n 49, .n 88, .n 51, .n 92, .n 58, .n 53, .n 99, .box 31 [.os 10 l4.length, .os 11 l7.length, .os 12 l10.length, .os 13 l13.length, .os 14 l16.length, .os 15 l19.length, .os 16 l22.length, .os 17 l25.length] false, .w 47 l4, .arr 49 l39 l7.length false, .w 88 l10, .arr 51 l42 l13.length false, .w 92 l16, .w 58 l19, .w 53 l22, .w 99 l25, .w 3 l50], .row (c51 x46), .callo (.os 0 l50.length) [.w 3 l50], .row (c51 x51), .obj [18] (.arr 51 (List.set l42 v43.toNat (⟨x51.dev, x51.vlan, x51.vni, x51.irb, x51.row, l50⟩ : Api_Domain)) l13.length false)] (pc h44<|pc (rr (.op 9 1 0 3))<|pc (rr (.os 13 l13.length))<|pc (rr (.j v43))<|pc (an l13.length (lin_ob h45))<|pc (rn l13.length)<|pc (an l13.length (obn51 h47))<|pc (rh [b0_k_names_Copy_L2, .n 47, .n 49, .n 88, .n 51, .n 92, .n 58, .n 53, .n 99, .box 31 [.os 10 l4.length, .os 11 l7.length, .os 12 l10.length, .os 13 l13.length, .os 14 l16.length, .os 15 l19.length, .os 16 l22.length, .os 17 l25.length] false, .w 47 l4, .arr 49 l39 l7.length false, .w 88 l10, .arr 51 l42 l13.length false, .w 92 l16, .w 58 l19, .w 53 l22, .w 99 l25, .w 3 l50])<|pc (k_slices_Clone_int h49)<|pc (im3 l50)<|pc (an l13.length (lin_ob h45))<|pc (rn l13.length)<|pc (st_ob (e := 51) (n := l13.length) (l := l42) (i := v43.toNat) (⟨x51.dev, x51.vlan, x51.vni, x51.irb, x51.row, l50⟩ : Api_Domain) [.j x51.dev, .j x51.vlan, .j x51.vni, .j x51.irb, .j x51.row, .sl 3 l50] (obn51 h52) rfl)<|pc (rn l50.length)<|pn)
   ·cases h
  ·obtain rfl := oi h; exact rl [2, 3] [0, 1, 2, 3, 4, 5, 6, 7, 8, 9, 10, 11, 12, 13, 14, 15, 16, 17] [.f] (pc h44<|pn)
 ·exact Ex.noConfusion

def b0_k_names_Copy_L3 : AObj DD := .box 31 [.os 1 0, .os 2 0, .os 3 0, .os 4 0, .os 5 0, .os 6 0, .os 7 0, .os 8 0] false
theorem k_names_Copy_L3 {l4 : List Api_Device} {l7 : List Api_Port} {l10 : List Api_Link} {l13 : List Api_Domain} {l16 : List Api_Static} {l19 : List Api_Flood} {l22 : List Api_Vrf} {l25 : List Api_Irb} {l39 : List Api_Port} {l55 : List Api_Domain} : LoopOK Try.prog UU 0 119 (subC (codeOf Try.f11) [1, 1, 1, 1, 0, 1, 0, 0]) (fun s : (List Api_Flood) × Int => match s with | (l58, v59) => names_Copy_L3 l4 l7 l10 l13 l16 l19 l22 l25 l39 l55 l58 v59)
  (fun s : (List Api_Flood) × Int => (match s with | (l58, v59) => [(2, .o 0), (3, .o 9), (74, .j (l19.length : Int)), (75, .j v59)] : Fr DD)) (fun s : (List Api_Flood) × Int => (match s with | (l58, v59) => [b0_k_names_Copy_L3, .n 47, .n 49, .n 88, .n 51, .n 92, .n 58, .n 53, .n 99, .box 31 [.os 10 l4.length, .os 11 l7.length, .os 12 l10.length, .os 13 l13.length, .os 14 l16.length, .os 15 l19.length, .os 16 l22.length, .os 17 l25.length] false, .w 47 l4, .arr 49 l39 l7.length false, .w 88 l10, .arr 51 l55 l13.length false, .w 92 l16, .arr 58 l58 l19.length false, .w 53 l22, .w 99 l25] : Heap DD)) (fun r => match r with | l71 => .exit 4) (fun r => match r with | l71 => [(2, .o 0), (3, .o 9)]) (fun r => match r with | l71 => [b0_k_names_Copy_L3, .n 47, .n 49, .n 88, .n 51, .n 92, .n 58, .n 53, .n 99, .box 31 [.os 10 l4.length, .os 11 l7.length, .os 12 l10.length, .os 13 l13.length, .os 14 l16.length, .os 15 l19.length, .os 16 l22.length, .os 17 l25.length] false, .w 47 l4, .arr 49 l39 l7.length false, .w 88 l10, .arr 51 l55 l13.length false, .w 92 l16, .arr 58 l71 l19.length false, .w 53 l22, .w 99 l25]) := by
 refine loop_sound3 (fun s q h => ?_) (fun r => ?_)
 ·obtain ⟨l58, v59⟩ := s; replace h : names_Copy_L3 l4 l7 l10 l13 l16 l19 l22 l25 l39 l55 l58 v59 = some q := h
  unfold names_Copy_L3 at h
  obtain ⟨h60, h⟩|⟨h60, h⟩ := ite_out h
  ·obtain ⟨h61, h⟩|⟨h61, h⟩ := ite_out h
   ·obtain ⟨x62, h63, h⟩ := bo h
    obtain ⟨l66, h65, h⟩ := bo h
    obtain ⟨x67, h68, h⟩ := bo h
    obtain rfl := oi h; exact rl [2, 3, 74, 75] [0, 1, 2, 3, 4, 5, 6, 7, 8, 9, 10, 11, 12, 13, 14, 15, 16, 17] [.t, .sum [9] [] .nor [] [b0_k_names_Copy_L3, .n 47, .n 49, .n 88, .n 51, .n 92, .n 58, .n 53, .n 99, .box 31 [.os 10 l4.length, .os 11 l7.length, .os 12 l10.length, .os 13 l13.length, .os 14 l16.length, .os 15 l19.length, .os 16 l22.length, .os 17 l25.length] false, .w 47 l4, .arr 49 l39 l7.length false, .w 88 l10, .arr 51 l55 l13.length false, .w 92 l16, .arr 58 l58 l19.length false, .w 53 l22, .w 99 l25, .w 45 l66], .row (c58 x62), .callo (.os 0 l66.length) [.w 45 l66], .row (c58 x67), .obj [18] (.arr 58 (List.set l58 v59.toNat (⟨x67.row, x67.dev, x67.vni, l66⟩ : Api_Flood)) l19.length false)] (pc h60<|pc (rr (.op 9 1 0 5))<|pc (rr (.os 15 l19.length))<|pc (rr (.j v59))<|pc (an l19.length (lin_ob h61))<|pc (rn l19.length)<|pc (an l19.length (obn58 h63))<|pc (rh [b0_k_names_Copy_L3, .n 47, .n 49, .n 88, .n 51, .n 92, .n 58, .n 53, .n 99, .box 31 [.os 10 l4.length, .os 11 l7.length, .os 12 l10.length, .os 13 l13.length, .os 14 l16.length, .os 15 l19.length, .os 16 l22.length, .os 17 l25.length] false, .w 47 l4, .arr 49 l39 l7.length false, .w 88 l10, .arr 51 l55 l13.length false, .w 92 l16, .arr 58 l58 l19.length false, .w 53 l22, .w 99 l25, .w 45 l66])<|pc (k_slices_Clone_uint32 h65)<|pc (im45 l66)<|pc (an l19.length (lin_ob h61))<|pc (rn l19.length)<|pc (st_ob (e := 58) (n := l19.length) (l := l58) (i := v59.toNat) (⟨x67.row, x67.dev, x67.vni, l66⟩ : Api_Flood) [.j x67.row, .j x67.dev, .j x67.vni, .sl 45 l66] (obn58 h68) rfl)<|pc (rn l66.length)<|pn)
   ·cases h
  ·obtain rfl := oi h; exact rl [2, 3] [0, 1, 2, 3, 4, 5, 6, 7, 8, 9, 10, 11, 12, 13, 14, 15, 16, 17] [.f] (pc h60<|pn)
 ·exact Ex.noConfusion

def b0_k_names_Copy_L4 : AObj DD := .box 31 [.os 1 0, .os 2 0, .os 3 0, .os 4 0, .os 5 0, .os 6 0, .os 7 0, .os 8 0] false
theorem k_names_Copy_L4 {l4 : List Api_Device} {l7 : List Api_Port} {l10 : List Api_Link} {l13 : List Api_Domain} {l16 : List Api_Static} {l19 : List Api_Flood} {l22 : List Api_Vrf} {l25 : List Api_Irb} {l39 : List Api_Port} {l55 : List Api_Domain} {l71 : List Api_Flood} : LoopOK Try.prog UU 0 119 (subC (codeOf Try.f11) [1, 1, 1, 1, 1, 0, 1, 0, 0]) (fun s : (List Api_Vrf) × Int => match s with | (l74, v75) => names_Copy_L4 l4 l7 l10 l13 l16 l19 l22 l25 l39 l55 l71 l74 v75)
  (fun s : (List Api_Vrf) × Int => (match s with | (l74, v75) => [(2, .o 0), (3, .o 9), (93, .j (l22.length : Int)), (94, .j v75)] : Fr DD)) (fun s : (List Api_Vrf) × Int => (match s with | (l74, v75) => [b0_k_names_Copy_L4, .n 47, .n 49, .n 88, .n 51, .n 92, .n 58, .n 53, .n 99, .box 31 [.os 10 l4.length, .os 11 l7.length, .os 12 l10.length, .os 13 l13.length, .os 14 l16.length, .os 15 l19.length, .os 16 l22.length, .os 17 l25.length] false, .w 47 l4, .arr 49 l39 l7.length false, .w 88 l10, .arr 51 l55 l13.length false, .w 92 l16, .arr 58 l71 l19.length false, .arr 53 l74 l22.length false, .w 99 l25] : Heap DD)) (fun r => match r with | l94 => .exit 6) (fun r => match r with | l94 => [(2, .o 0), (3, .o 9)]) (fun r => match r with | l94 => [b0_k_names_Copy_L4, .n 47, .n 49, .n 88, .n 51, .n 92, .n 58, .n 53, .n 99, .box 31 [.os 10 l4.length, .os 11 l7.length, .os 12 l10.length, .os 13 l13.length, .os 14 l16.length, .os 15 l19.length, .os 16 l22.length, .os 17 l25.length] false, .w 47 l4, .arr 49 l39 l7.length false, .w 88 l10, .arr 51 l55 l13.length false, .w 92 l16, .arr 58 l71 l19.length false, .arr 53 l94 l22.length false, .w 99 l25]) := by
 refine loop_sound3 (fun s q h => ?_) (fun r => ?_)
 ·obtain ⟨l74, v75⟩ := s; replace h : names_Copy_L4 l4 l7 l10 l13 l16 l19 l22 l25 l39 l55 l71 l74 v75 = some q := h
  unfold names_Copy_L4 at h
  obtain ⟨h76, h⟩|⟨h76, h⟩ := ite_out h
  ·obtain ⟨h77, h⟩|⟨h77, h⟩ := ite_out h
   ·obtain ⟨x78, h79, h⟩ := bo h
    obtain ⟨l82, h81, h⟩ := bo h
    obtain ⟨x83, h84, h⟩ := bo h
    obtain ⟨l87, h86, h⟩ := bo h
    obtain ⟨x88, h89, h⟩ := bo h
    obtain ⟨x90, h91, h⟩ := bo h
    obtain rfl := oi h; exact rl [2, 3, 93, 94] [0, 1, 2, 3, 4, 5, 6, 7, 8, 9, 10, 11, 12, 13, 14, 15, 16, 17] [.t, .sum [6] [] .nor [] [b0_k_names_Copy_L4, .n 47, .n 49, .n 88, .n 51, .n 92, .n 58, .n 53, .n 99, .box 31 [.os 10 l4.length, .os 11 l7.length, .os 12 l10.length, .os 13 l13.length, .os 14 l16.length, .os 15 l19.length, .os 16 l22.length, .os 17 l25.length] false, .w 47 l4, .arr 49 l39 l7.length false, .w 88 l10, .arr 51 l55 l13.length false, .w 92 l16, .arr 58 l71 l19.length false, .arr 53 l74 l22.length false, .w 99 l25, .w 3 l82], .sum [11] [] .nor [] [b0_k_names_Copy_L4, .n 47, .n 49, .n 88, .n 51, .n 92, .n 58, .n 53, .n 99, .box 31 [.os 10 l4.length, .os 11 l7.length, .os 12 l10.length, .os 13 l13.length, .os 14 l16.length, .os 15 l19.length, .os 16 l22.length, .os 17 l25.length] false, .w 47 l4, .arr 49 l39 l7.length false, .w 88 l10, .arr 51 l55 l13.length false, .w 92 l16, .arr 58 l71 l19.length false, .arr 53 l74 l22.length false, .w 99 l25, .w 3 l82, .w 3 l87], .sum [14] [] .nor [] [b0_k_names_Copy_L4, .n 47, .n 49, .n 88, .n 51, .n 92, .n 58, .n 53, .n 99, .box 31 [.os 10 l4.length, .os 11 l7.length, .os 12 l10.length, .os 13 l13.length, .os 14 l16.length, .os 15 l19.length, .os 16 l22.length, .os 17 l25.length] false, .w 47 l4, .arr 49 l39 l7.length false, .w 88 l10, .arr 51 l55 l13.length false, .w 92 l16, .arr 58 l71 l19.length false, .arr 53 (List.set l74 v75.toNat (⟨x88.row, x88.dev, x88.name, l82, x88.exports⟩ : Api_Vrf)) l22.length false, .w 99 l25, .wt 3 l82, .w 3 l87], .row (c53 x78), .callo (.os 0 l82.length) [.w 3 l82], .row (c53 x83), .callo (.os 0 l87.length) [.w 3 l87], .row (c53 x88), .obj [18] (.arr 53 (List.set l74 v75.toNat (⟨x88.row, x88.dev, x88.name, l82, x88.exports⟩ : Api_Vrf)) l22.length false), .row (c53 x90), .obj [19] (.arr 53 (List.set (List.set l74 v75.toNat (⟨x88.row, x88.dev, x88.name, l82, x88.exports⟩ : Api_Vrf)) v75.toNat (⟨x90.row, x90.dev, x90.name, x90.imports, l87⟩ : Api_Vrf)) l22.length false)] (pc h76<|pc (an l22.length (lin_ob h77))<|pd (rr (.op 16 l22.length v75.toNat 0))<|pd (rr (.op 16 l22.length v75.toNat 0))<|pc (rr (.op 16 l22.length v75.toNat 0))<|pd (rn l22.length)<|pc (an l22.length (obn53 h79))<|pc (rh [b0_k_names_Copy_L4, .n 47, .n 49, .n 88, .n 51, .n 92, .n 58, .n 53, .n 99, .box 31 [.os 10 l4.length, .os 11 l7.length, .os 12 l10.length, .os 13 l13.length, .os 14 l16.length, .os 15 l19.length, .os 16 l22.length, .os 17 l25.length] false, .w 47 l4, .arr 49 l39 l7.length false, .w 88 l10, .arr 51 l55 l13.length false, .w 92 l16, .arr 58 l71 l19.length false, .arr 53 l74 l22.length false, .w 99 l25, .w 3 l82])<|pc (k_slices_Clone_int h81)<|pc (im3 l82)<|pc (rr (.op 16 l22.length v75.toNat 0))<|pd (rn l22.length)<|pc (rr (.op 16 l22.length v75.toNat 0))<|pd (rn l22.length)<|pc (rr (.op 16 l22.length v75.toNat 4))<|pd (an l22.length (obn53 h84))<|pc (rr (.sl 3 x83.exports))<|pc (rh [b0_k_names_Copy_L4, .n 47, .n 49, .n 88, .n 51, .n 92, .n 58, .n 53, .n 99, .box 31 [.os 10 l4.length, .os 11 l7.length, .os 12 l10.length, .os 13 l13.length, .os 14 l16.length, .os 15 l19.length, .os 16 l22.length, .os 17 l25.length] false, .w 47 l4, .arr 49 l39 l7.length false, .w 88 l10, .arr 51 l55 l13.length false, .w 92 l16, .arr 58 l71 l19.length false, .arr 53 l74 l22.length false, .w 99 l25, .w 3 l82, .w 3 l87])<|pc (k_slices_Clone_int h86)<|pc (im3 l87)<|pd (rn l22.length)<|pc (rh [b0_k_names_Copy_L4, .n 47, .n 49, .n 88, .n 51, .n 92, .n 58, .n 53, .n 99, .box 31 [.os 10 l4.length, .os 11 l7.length, .os 12 l10.length, .os 13 l13.length, .os 14 l16.length, .os 15 l19.length, .os 16 l22.length, .os 17 l25.length] false, .w 47 l4, .arr 49 l39 l7.length false, .w 88 l10, .arr 51 l55 l13.length false, .w 92 l16, .arr 58 l71 l19.length false, .arr 53 (List.set l74 v75.toNat (⟨x88.row, x88.dev, x88.name, l82, x88.exports⟩ : Api_Vrf)) l22.length false, .w 99 l25, .wt 3 l82, .w 3 l87])<|pc (st_ob (e := 53) (n := l22.length) (l := l74) (i := v75.toNat) (⟨x88.row, x88.dev, x88.name, l82, x88.exports⟩ : Api_Vrf) [.j x88.row, .j x88.dev, .x x88.name, .sl 3 l82, .sl 3 x88.exports] (obn53 h89) rfl)<|pc (rn l82.length)<|pd (rn l22.length)<|pc (st_ob (e := 53) (n := l22.length) (l := List.set l74 v75.toNat (⟨x88.row, x88.dev, x88.name, l82, x88.exports⟩ : Api_Vrf)) (i := v75.toNat) (⟨x90.row, x90.dev, x90.name, x90.imports, l87⟩ : Api_Vrf) [.j x90.row, .j x90.dev, .x x90.name, .sl 3 x90.imports, .sl 3 l87] (obn53 h91) rfl)<|pc (rn l87.length)<|pn)
   ·cases h
  ·obtain rfl := oi h; exact rl [2, 3] [0, 1, 2, 3, 4, 5, 6, 7, 8, 9, 10, 11, 12, 13, 14, 15, 16, 17] [.f] (pc h76<|pn)
 ·exact Ex.noConfusion

def b0_k_names_Copy : AObj DD := .box 31 [.os 1 0, .os 2 0, .os 3 0, .os 4 0, .os 5 0, .os 6 0, .os 7 0, .os 8 0] false
theorem k_names_Copy {a1 : Api_Net} {r : ((List Api_Device) × (List Api_Port) × (List Api_Link) × (List Api_Domain) × (List Api_Static) × (List Api_Flood) × (List Api_Vrf) × (List Api_Irb) × Nat × Nat × Nat × Nat)} (h : names_Copy a1 = some r) :
  CallsOK Try.prog UU 11 [.agg (c31 a1)] [] ((fun r => match r with | (l97, l98, l99, l100, l101, l102, l103, l104, n105, n106, n107, n108) => .agg [.os 0 l97.length, .os 1 n105, .os 2 l99.length, .os 3 n106, .os 4 l101.length, .os 5 n107, .os 6 n108, .os 7 l104.length]) r) ((fun r => match r with | (l97, l98, l99, l100, l101, l102, l103, l104, n105, n106, n107, n108) => [.w 47 l97, .arr 49 l98 n105 false, .w 88 l99, .arr 51 l100 n106 false, .w 92 l101, .arr 58 l102 n107 false, .arr 53 l103 n108 false, .w 99 l104]) r) := by
 unfold names_Copy at h
 obtain ⟨l4, h3, h⟩ := bo h
 obtain ⟨l7, h6, h⟩ := bo h
 obtain ⟨l10, h9, h⟩ := bo h
 obtain ⟨l13, h12, h⟩ := bo h
 obtain ⟨l16, h15, h⟩ := bo h
 obtain ⟨l19, h18, h⟩ := bo h
 obtain ⟨l22, h21, h⟩ := bo h
 obtain ⟨l25, h24, h⟩ := bo h
 obtain ⟨l39, h40, h⟩ := bo h
 obtain ⟨l55, h56, h⟩ := bo h
 obtain ⟨l71, h72, h⟩ := bo h
 obtain ⟨l94, h95, h⟩ := bo h
 obtain rfl := oi h; exact rf Try.func11 (some [10, 11, 12, 13, 14, 15, 16, 17]) [.sum [2] [] .nor [] [.box 31 (c31 a1) false, .n 47, .n 49, .n 88, .n 51, .n 92, .n 58, .n 53, .n 99, b0_k_names_Copy, .w 47 l4], .sum [5] [] .nor [] [.box 31 (c31 a1) false, .n 47, .n 49, .n 88, .n 51, .n 92, .n 58, .n 53, .n 99, b0_k_names_Copy, .w 47 l4, .w 49 l7], .sum [8] [] .nor [] [.box 31 (c31 a1) false, .n 47, .n 49, .n 88, .n 51, .n 92, .n 58, .n 53, .n 99, b0_k_names_Copy, .w 47 l4, .w 49 l7, .w 88 l10], .sum [11] [] .nor [] [.box 31 (c31 a1) false, .n 47, .n 49, .n 88, .n 51, .n 92, .n 58, .n 53, .n 99, b0_k_names_Copy, .w 47 l4, .w 49 l7, .w 88 l10, .w 51 l13], .sum [14] [] .nor [] [.box 31 (c31 a1) false, .n 47, .n 49, .n 88, .n 51, .n 92, .n 58, .n 53, .n 99, b0_k_names_Copy, .w 47 l4, .w 49 l7, .w 88 l10, .w 51 l13, .w 92 l16], .sum [17] [] .nor [] [.box 31 (c31 a1) false, .n 47, .n 49, .n 88, .n 51, .n 92, .n 58, .n 53, .n 99, b0_k_names_Copy, .w 47 l4, .w 49 l7, .w 88 l10, .w 51 l13, .w 92 l16, .w 58 l19], .sum [20] [] .nor [] [.box 31 (c31 a1) false, .n 47, .n 49, .n 88, .n 51, .n 92, .n 58, .n 53, .n 99, b0_k_names_Copy, .w 47 l4, .w 49 l7, .w 88 l10, .w 51 l13, .w 92 l16, .w 58 l19, .w 53 l22], .sum [23] [] .nor [] [.box 31 (c31 a1) false, .n 47, .n 49, .n 88, .n 51, .n 92, .n 58, .n 53, .n 99, b0_k_names_Copy, .w 47 l4, .w 49 l7, .w 88 l10, .w 51 l13, .w 92 l16, .w 58 l19, .w 53 l22, .w 99 l25], .callo (.os 0 l4.length) [.w 47 l4], .callm [] (.os 0 l7.length) [.w 49 l7], .callo (.os 0 l10.length) [.w 88 l10], .callm [] (.os 0 l13.length) [.w 51 l13], .callo (.os 0 l16.length) [.w 92 l16], .callm [] (.os 0 l19.length) [.w 58 l19], .callm [] (.os 0 l22.length) [.w 53 l22], .callo (.os 0 l25.length) [.w 99 l25], .sum [2, 3, 36, 37] [9, 1, 2, 3, 4, 5, 6, 7, 8, 26, 10, 11, 12, 13, 14, 15, 16, 17] (.exit 0) [(2, .o 0), (3, .o 9)] [b0_k_names_Copy, .n 47, .n 49, .n 88, .n 51, .n 92, .n 58, .n 53, .n 99, .box 31 [.os 10 l4.length, .os 11 l7.length, .os 12 l10.length, .os 13 l13.length, .os 14 l16.length, .os 15 l19.length, .os 16 l22.length, .os 17 l25.length] false, .w 47 l4, .arr 49 l39 l7.length false, .w 88 l10, .w 51 l13, .w 92 l16, .w 58 l19, .w 53 l22, .w 99 l25], .sum [2, 3, 55, 56] [0, 1, 2, 3, 4, 5, 6, 7, 8, 9, 10, 11, 12, 13, 14, 15, 16, 17] (.exit 2) [(2, .o 0), (3, .o 9)] [b0_k_names_Copy, .n 47, .n 49, .n 88, .n 51, .n 92, .n 58, .n 53, .n 99, .box 31 [.os 10 l4.length, .os 11 l7.length, .os 12 l10.length, .os 13 l13.length, .os 14 l16.length, .os 15 l19.length, .os 16 l22.length, .os 17 l25.length] false, .w 47 l4, .arr 49 l39 l7.length false, .w 88 l10, .arr 51 l55 l13.length false, .w 92 l16, .w 58 l19, .w 53 l22, .w 99 l25], .sum [2, 3, 74, 75] [0, 1, 2, 3, 4, 5, 6, 7, 8, 9, 10, 11, 12, 13, 14, 15, 16, 17] (.exit 4) [(2, .o 0), (3, .o 9)] [b0_k_names_Copy, .n 47, .n 49, .n 88, .n 51, .n 92, .n 58, .n 53, .n 99, .box 31 [.os 10 l4.length, .os 11 l7.length, .os 12 l10.length, .os 13 l13.length, .os 14 l16.length, .os 15 l19.length, .os 16 l22.length, .os 17 l25.length] false, .w 47 l4, .arr 49 l39 l7.length false, .w 88 l10, .arr 51 l55 l13.length false, .w 92 l16, .arr 58 l71 l19.length false, .w 53 l22, .w 99 l25], .sum [2, 3, 93, 94] [0, 1, 2, 3, 4, 5, 6, 7, 8, 9, 10, 11, 12, 13, 14, 15, 16, 17] (.exit 6) [(2, .o 0), (3, .o 9)] [b0_k_names_Copy, .n 47, .n 49, .n 88, .n 51, .n 92, .n 58, .n 53, .n 99, .box 31 [.os 10 l4.length, .os 11 l7.length, .os 12 l10.length, .os 13 l13.length, .os 14 l16.length, .os 15 l19.length, .os 16 l22.length, .os 17 l25.length] false, .w 47 l4, .arr 49 l39 l7.length false, .w 88 l10, .arr 51 l55 l13.length false, .w 92 l16, .arr 58 l71 l19.length false, .arr 53 l94 l22.length false, .w 99 l25]] (pc (rh [.box 31 (c31 a1) false, .n 47, .n 49, .n 88, .n 51, .n 92, .n 58, .n 53, .n 99, b0_k_names_Copy, .w 47 l4])<|pc (k_slices_Clone_Device h3)<|pc (im47 l4)<|pc (rr (.op 0 1 0 1))<|pc (rr (.sl 49 a1.ports))<|pc (rh [.box 31 (c31 a1) false, .n 47, .n 49, .n 88, .n 51, .n 92, .n 58, .n 53, .n 99, b0_k_names_Copy, .w 47 l4, .w 49 l7])<|pc (k_slices_Clone_Port h6)<|pd (rr (.op 0 1 0 2))<|pd (rr (.sl 88 a1.links))<|pc (rh [.box 31 (c31 a1) false, .n 47, .n 49, .n 88, .n 51, .n 92, .n 58, .n 53, .n 99, b0_k_names_Copy, .w 47 l4, .w 49 l7, .w 88 l10])<|pc (k_slices_Clone_Link h9)<|pc (im88 l10)<|pd (rr (.op 0 1 0 3))<|pc (rr (.op 0 1 0 3))<|pd (rr (.sl 51 a1.domains))<|pc (rr (.sl 51 a1.domains))<|pc (rh [.box 31 (c31 a1) false, .n 47, .n 49, .n 88, .n 51, .n 92, .n 58, .n 53, .n 99, b0_k_names_Copy, .w 47 l4, .w 49 l7, .w 88 l10, .w 51 l13])<|pc (k_slices_Clone_Domain h12)<|pd (rr (.op 0 1 0 4))<|pd (rr (.op 0 1 0 4))<|pd (rr (.sl 92 a1.statics))<|pd (rr (.sl 92 a1.statics))<|pc (rh [.box 31 (c31 a1) false, .n 47, .n 49, .n 88, .n 51, .n 92, .n 58, .n 53, .n 99, b0_k_names_Copy, .w 47 l4, .w 49 l7, .w 88 l10, .w 51 l13, .w 92 l16])<|pc (k_slices_Clone_Static h15)<|pc (im92 l16)<|pd (rr (.op 0 1 0 5))<|pd (rr (.op 0 1 0 5))<|pc (rr (.op 0 1 0 5))<|pd (rr (.sl 58 a1.floods))<|pd (rr (.sl 58 a1.floods))<|pc (rr (.sl 58 a1.floods))<|pc (rh [.box 31 (c31 a1) false, .n 47, .n 49, .n 88, .n 51, .n 92, .n 58, .n 53, .n 99, b0_k_names_Copy, .w 47 l4, .w 49 l7, .w 88 l10, .w 51 l13, .w 92 l16, .w 58 l19])<|pc (k_slices_Clone_Flood h18)<|pd (rr (.op 0 1 0 6))<|pd (rr (.op 0 1 0 6))<|pd (rr (.op 0 1 0 6))<|pd (rr (.sl 53 a1.vrfs))<|pd (rr (.sl 53 a1.vrfs))<|pd (rr (.sl 53 a1.vrfs))<|pc (rh [.box 31 (c31 a1) false, .n 47, .n 49, .n 88, .n 51, .n 92, .n 58, .n 53, .n 99, b0_k_names_Copy, .w 47 l4, .w 49 l7, .w 88 l10, .w 51 l13, .w 92 l16, .w 58 l19, .w 53 l22])<|pc (k_slices_Clone_Vrf h21)<|pd (rr (.op 0 1 0 7))<|pd (rr (.op 0 1 0 7))<|pd (rr (.op 0 1 0 7))<|pc (rr (.op 0 1 0 7))<|pd (rr (.sl 99 a1.irbs))<|pd (rr (.sl 99 a1.irbs))<|pd (rr (.sl 99 a1.irbs))<|pc (rr (.sl 99 a1.irbs))<|pc (rh [.box 31 (c31 a1) false, .n 47, .n 49, .n 88, .n 51, .n 92, .n 58, .n 53, .n 99, b0_k_names_Copy, .w 47 l4, .w 49 l7, .w 88 l10, .w 51 l13, .w 92 l16, .w 58 l19, .w 53 l22, .w 99 l25])<|pc (k_slices_Clone_Irb h24)<|pc (im99 l25)<|pc (rn l7.length)<|pc (k_names_Copy_L1 _ _ h40)<|pc (rn l13.length)<|pc (k_names_Copy_L2 _ _ h56)<|pc (rn l19.length)<|pc (k_names_Copy_L3 _ _ h72)<|pc (rn l22.length)<|pc (k_names_Copy_L4 _ _ h95)<|pn)

end Go.Eng
