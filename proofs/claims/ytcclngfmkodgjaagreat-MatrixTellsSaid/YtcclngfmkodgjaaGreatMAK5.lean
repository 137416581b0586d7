/- Part of the proof of MatrixTells: printed mirrors of the functions, or their contracts. No conditions. -/
import Derived.Test.YtcclngfmkodgjaaGreatMAK4
set_option linter.unusedVariables false
set_option maxRecDepth 100000
namespace Go.Eng
open Go Go.Proofs
theorem ZaS {a1:Z2} {a2:Int} :Zx Tryz.prog UU 0 41 (Zs (Zt Tryz.f278) [1,0,1,0,0]) (ρ:=Int⊕Unit) (Z1f a1 a2)
  (fun v3:Int=>([(1, .j a2),(2, .o 0),(4, .z),(5, .j v3)]:Fr DD)) (fun v3:Int=>([.box 31 (c31 a1) false]:Z3 DD)) (fun r=>match r with|Sum.inl v16=> .ret|Sum.inr _=> .exit 0) (fun r=>match r with|Sum.inl v16=> [(4, .j v16)]|Sum.inr _=> [(4, .z)]) (fun r=>match r with|Sum.inl v16=> []|Sum.inr _=> []):=by
 refine Zy (fun s q h=> ?_) (fun r=> ?_)
 ·replace h:Z1f a1 a2 s=some q:=h;revert h;revert s;intro v3 h
  unfold Z1f at h
  obtain⟨h4,h⟩|⟨h4,h⟩:=Z1 h
  ·obtain⟨x5,h6,h⟩:=bo h
   obtain⟨h7,h⟩|⟨h7,h⟩:=Z1 h
   ·obtain⟨x8,h9,h⟩:=bo h
    obtain rfl:=oi h;exact rl [4] [] [.t, .row (YY x5), .t, .row (YY x8)] (pc h4<|pc (Xh h6)<|pc h7<|pc (Xh h9)<|pn)
   ·obtain⟨x10,h11,h⟩:=bo h
    obtain⟨h12,h⟩|⟨h12,h⟩:=Z1 h
    ·obtain⟨x13,h14,h⟩:=bo h
     obtain rfl:=oi h;exact rl [4] [] [.t, .row (YY x5), .f, .row (YY x10), .t, .row (YY x13)] (pc h4<|pc (Xh h6)<|pc h7<|pc (Xh h11)<|pc h12<|pc (Xh h14)<|pn)
    ·obtain rfl:=oi h;exact rl [1,2,4,5] [0] [.t, .row (YY x5), .f, .row (YY x10), .f] (pc h4<|pc (Xh h6)<|pc h7<|pc (Xh h11)<|pc h12<|pn)
  ·obtain rfl:=oi h;exact rl [4] [] [.f] (pc h4<|pn)
 ·rcases r with _|_ <;> exact Ex.noConfusion

theorem Z1C {a1:Z2} {a2:Int} {r:Int} (h:Z3k a1 a2=some r):
  Z7 Tryz.prog UU 278 [.agg (c31 a1), .j a2] [] (.j r) []:=by
 unfold Z3k at h
 obtain⟨r18,h17,h⟩:=bo h
 rcases r18 with v16|_
 ·obtain rfl:=oi h;exact rf Tryz.func278 none [.sum [1,2,4,5] [0] .ret [(4, .j v16)] []] (pc (ZaS _ _ h17)<|pn)
 ·obtain rfl:=oi h;exact rf Tryz.func278 none [.sum [1,2,4,5] [0] (.exit 0) [(4, .z)] []] (pc (ZaS _ _ h17)<|pn)

theorem Z5K {a3:Int} {r4:Int} {x8:ZO} {x10:ZO} {r:Unit⊕Unit} (h:Z5t a3 r4 x8 x10=some r):
  YE Tryz.prog UU 0 55 (Zs (Zt Tryz.f269) [1,1,1,1,0]) [(2, .j a3),(6, .z),(7, .z),(8, .y false),(9, .j r4),(10, .o 0),(11, .o 1)] [.box 110 (Za x8) false, .box 110 (Za x10) false] ((fun r=>match r with|Sum.inl _=> .ret|Sum.inr _=> .nor) r) ((fun r=>match r with|Sum.inl _=> [(6, .j r4),(7, .j x10.native),(8, .y true)]|Sum.inr _=> [(2, .j a3),(6, .z),(7, .z),(8, .y false),(9, .j r4),(10, .o 0),(11, .o 1)]) r) ((fun r=>match r with|Sum.inl _=> []|Sum.inr _=> [.box 110 (Za x8) false, .box 110 (Za x10) false]) r):=by
 unfold Z5t at h
 obtain⟨h12,h⟩|⟨h12,h⟩:=Z1 h
 ·obtain⟨h13,h⟩|⟨h13,h⟩:=Z1 h
  ·obtain rfl:=oi h;exact rl [6,7,8] [] [.t, .t] (pc h12<|pc h13<|pn)
  ·obtain rfl:=oi h;exact rl [2,6,7,8,9,10,11] [0,1] [.t, .f] (pc h12<|pc h13<|pn)
 ·obtain rfl:=oi h;exact rl [2,6,7,8,9,10,11] [0,1] [.f] (pc h12<|pn)

theorem ZaT {a1:Z2} {a2:Int} {a3:Int} {r:Int×Int×Bool} (h:Z3l a1 a2 a3=some r):
  Z7 Tryz.prog UU 269 [.agg (c31 a1), .j a2, .j a3] [] (.tup [.j r.1, .j r.2.1, .y r.2.2]) []:=by
 unfold Z3l at h
 obtain⟨r4,h5,h⟩:=bo h
 obtain⟨h6,h⟩|⟨h6,h⟩:=Z1 h
 ·obtain rfl:=oi h;exact rf Tryz.func269 none [.callv (.j r4), .t] (pc (Z1C h5)<|pc h6<|pn)
 ·obtain⟨h7,h⟩|⟨h7,h⟩:=Z1 h
  ·obtain rfl:=oi h;exact rf Tryz.func269 none [.callv (.j r4), .f, .t] (pc (Z1C h5)<|pc h6<|pc h7<|pn)
  ·obtain⟨x8,h9,h⟩:=bo h
   obtain⟨x10,h11,h⟩:=bo h
   obtain⟨r15,h14,h⟩:=bo h
   rcases r15 with _|_
   ·obtain rfl:=oi h;exact rf Tryz.func269 none [.callv (.j r4), .f, .f, .row (Za x8), .row (Za x10), .cut [2,6,7,8,9,10,11] [1,3] .ret [(6, .j r4),(7, .j x10.native),(8, .y true)] []] (pc (Z1C h5)<|pc h6<|pc h7<|pc (ZA h9)<|pc (ZA h11)<|pc (Z5K h14)<|pn)
   ·obtain⟨r16,h17,h⟩:=bo h
    obtain⟨h18,h⟩|⟨h18,h⟩:=Z1 h
    ·obtain⟨r19,h20,h⟩:=bo h
     obtain⟨h21,h⟩|⟨h21,h⟩:=Z1 h
     ·obtain rfl:=oi h;exact rf Tryz.func269 none [.callv (.j r4), .f, .f, .row (Za x8), .row (Za x10), .cut [2,6,7,8,9,10,11] [1,3] .nor [(2, .j a3),(6, .z),(7, .z),(8, .y false),(9, .j r4),(10, .o 0),(11, .o 1)] [.box 110 (Za x8) false, .box 110 (Za x10) false], .b r16, .t, .b r19, .t] (pc (Z1C h5)<|pc h6<|pc h7<|pc (ZA h9)<|pc (ZA h11)<|pc (Z5K h14)<|pc (Xt h17)<|pc h18<|pc (Xt h20)<|pc h21<|pn)
     ·obtain rfl:=oi h;exact rf Tryz.func269 none [.callv (.j r4), .f, .f, .row (Za x8), .row (Za x10), .cut [2,6,7,8,9,10,11] [1,3] .nor [(2, .j a3),(6, .z),(7, .z),(8, .y false),(9, .j r4),(10, .o 0),(11, .o 1)] [.box 110 (Za x8) false, .box 110 (Za x10) false], .b r16, .t, .b r19, .f] (pc (Z1C h5)<|pc h6<|pc h7<|pc (ZA h9)<|pc (ZA h11)<|pc (Z5K h14)<|pc (Xt h17)<|pc h18<|pc (Xt h20)<|pc h21<|pn)
    ·obtain rfl:=oi h;exact rf Tryz.func269 none [.callv (.j r4), .f, .f, .row (Za x8), .row (Za x10), .cut [2,6,7,8,9,10,11] [1,3] .nor [(2, .j a3),(6, .z),(7, .z),(8, .y false),(9, .j r4),(10, .o 0),(11, .o 1)] [.box 110 (Za x8) false, .box 110 (Za x10) false], .b r16, .f] (pc (Z1C h5)<|pc h6<|pc h7<|pc (ZA h9)<|pc (ZA h11)<|pc (Z5K h14)<|pc (Xt h17)<|pc h18<|pn)

theorem ZaU {a1:Z2} {a2:Int} {a3:Int} {r:Int×Bool} (h:Z1g a1 a2 a3=some r):
  Z7 Tryz.prog UU 258 [.agg (c31 a1), .j a2, .j a3] [] (.tup [.j r.1, .y r.2]) []:=by
 unfold Z1g at h
 obtain⟨r4,h5,h⟩:=bo h
 obtain⟨h6,h⟩|⟨h6,h⟩:=Z1 h
 ·obtain rfl:=oi h;exact rf Tryz.func258 none [.callv (.tup [.j r4.1, .j r4.2.1, .y r4.2.2]), .t] (pc (ZaT h5)<|pc h6<|pn)
 ·obtain⟨x7,h8,h⟩:=bo h
  obtain⟨r9,h10,h⟩:=bo h
  obtain rfl:=oi h;exact rf Tryz.func258 none [.callv (.tup [.j r4.1, .j r4.2.1, .y r4.2.2]), .f, .row (Za x7), .callv (.j r9)] (pc (ZaT h5)<|pc h6<|pc (ZA h8)<|pc (V5 h10)<|pn)

theorem Zfw {a1:Z2} {a2:Int} {l5:List Int} :Zx Tryz.prog UU 0 70 (Zs (Zt Tryz.f235) [1,1,1,0,1,0,0]) (fun s:(List Ya)×Int=>match s with|(l6,v7)=>Qx a1 a2 l5 l6 v7)
  (fun s:(List Ya)×Int=>(match s with|(l6,v7)=> [(1, .j a2),(2, .o 0),(4, .os 1 0),(5, .os 2 l6.length),(6, .os 3 l5.length),(7, .j v7)]:Fr DD)) (fun s:(List Ya)×Int=>(match s with|(l6,v7)=> [.box 31 (c31 a1) false, .n 294, .w 294 l6, .w 3 l5]:Z3 DD)) (fun r=>match r with|l24=> .exit 0) (fun r=>match r with|l24=> [(1, .j a2),(2, .o 0),(4, .os 1 0),(5, .os 2 l24.length)]) (fun r=>match r with|l24=> [.box 31 (c31 a1) false, .n 294, .w 294 l24]):=by
 refine Zy (fun s q h=> ?_) (fun r=> ?_)
 ·obtain⟨l6,v7⟩:=s;replace h:Qx a1 a2 l5 l6 v7=some q:=h
  unfold Qx at h
  obtain⟨h8,h⟩|⟨h8,h⟩:=Z1 h
  ·obtain⟨h9,h⟩|⟨h9,h⟩:=Z1 h
   ·obtain⟨x10,h11,h⟩:=bo h
    obtain⟨x12,h13,h⟩:=bo h
    obtain⟨r14,h15,h⟩:=bo h
    obtain⟨h16,h⟩|⟨h16,h⟩:=Z1 h
    ·obtain⟨x17,h18,h⟩:=bo h
     obtain⟨h19,h⟩|⟨h19,h⟩:=Z1 h
     ·obtain rfl:=oi h;exact rl [1,2,4,5,6,7] [0,1,2,3] [.t, .row (c3 x10), .row (c90 x12), .callv (.tup [.j r14.1, .y r14.2]), .t, .row (c3 x17), .obj [] (.w 294 [(⟨1,x17,r14.1,0⟩:Ya)]), .obj [] (.w 294 (l6++ [(⟨1,x17,r14.1,0⟩:Ya)]))] (pc (rn l5.length)<|pc h8<|pc (an l5.length (Zz h9))<|pc (an l5.length (YV h11))<|pc (ZI h13)<|pc (ZaU h15)<|pc h16<|pc (an l5.length (Zz h9))<|pc (an l5.length (YV h18))<|pc (Yk 294 [(⟨1,x17,r14.1,0⟩:Ya)])<|pc (YR 294 (n:=l6.length) (l:=l6) (xs:= [(⟨1,x17,r14.1,0⟩:Ya)]) h19)<|pc (rn (List.length [(⟨1,x17,r14.1,0⟩:Ya)]))<|pn)
     ·cases h
    ·obtain rfl:=oi h;exact rl [1,2,4,5,6,7] [0,1,2,3] [.t, .row (c3 x10), .row (c90 x12), .callv (.tup [.j r14.1, .y r14.2]), .f] (pc (rn l5.length)<|pc h8<|pc (an l5.length (Zz h9))<|pc (an l5.length (YV h11))<|pc (ZI h13)<|pc (ZaU h15)<|pc h16<|pn)
   ·cases h
  ·obtain rfl:=oi h;exact rl [1,2,4,5] [0,1,2] [.f] (pc (rn l5.length)<|pc h8<|pn)
 ·exact Ex.noConfusion

theorem Zfx {a1:Z2} {a2:Int} :Zx Tryz.prog UU 0 70 (Zs (Zt Tryz.f235) [1,1,1,1,0,1,0,0]) (fun s:(List Ya)×Int=>match s with|(l27,v28)=>Qy a1 a2 l27 v28)
  (fun s:(List Ya)×Int=>(match s with|(l27,v28)=> [(1, .j a2),(2, .o 0),(4, .os 1 0),(5, .os 2 l27.length),(10, .j v28)]:Fr DD)) (fun s:(List Ya)×Int=>(match s with|(l27,v28)=> [.box 31 (c31 a1) false, .n 294, .w 294 l27]:Z3 DD)) (fun r=>match r with|l39=> .exit 2) (fun r=>match r with|l39=> [(4, .os 0 0),(5, .os 1 l39.length)]) (fun r=>match r with|l39=> [.n 294, .w 294 l39]):=by
 refine Zy (fun s q h=> ?_) (fun r=> ?_)
 ·obtain⟨l27,v28⟩:=s;replace h:Qy a1 a2 l27 v28=some q:=h
  unfold Qy at h
  obtain⟨x29,h30,h⟩:=bo h
  obtain⟨h31,h⟩|⟨h31,h⟩:=Z1 h
  ·obtain⟨x32,h33,h⟩:=bo h
   obtain⟨x34,h35,h⟩:=bo h
   obtain⟨h36,h⟩|⟨h36,h⟩:=Z1 h
   ·obtain rfl:=oi h;exact rl [1,2,4,5,10] [0,1,2] [.row (c90 x29), .t, .row (c90 x32), .row (c3 x34), .obj [] (.w 294 [(⟨2,0,x34,0⟩:Ya)]), .obj [] (.w 294 (l27++ [(⟨2,0,x34,0⟩:Ya)]))] (pc (ZI h30)<|pc h31<|pc (ZI h33)<|pc (ob3 h35)<|pc (Yk 294 [(⟨2,0,x34,0⟩:Ya)])<|pc (YR 294 (n:=l27.length) (l:=l27) (xs:= [(⟨2,0,x34,0⟩:Ya)]) h36)<|pc (rn (List.length [(⟨2,0,x34,0⟩:Ya)]))<|pn)
   ·cases h
  ·obtain rfl:=oi h;exact rl [4,5] [1,2] [.row (c90 x29), .f] (pc (ZI h30)<|pc h31<|pn)
 ·exact Ex.noConfusion

theorem Zfy {a1:Z2} {a2:Int} {r:((List Ya))} (h:Z3m a1 a2=some r):
  Z7 Tryz.prog UU 235 [.agg (c31 a1), .j a2] [] ((fun r=>match r with|l42=> .os 0 l42.length) r) ((fun r=>match r with|l42=> [.w 294 l42]) r):=by
 unfold Z3m at h
 obtain⟨l5,h4,h⟩:=bo h
 obtain⟨l24,h25,h⟩:=bo h
 obtain⟨l39,h40,h⟩:=bo h
 obtain rfl:=oi h;exact rf Tryz.func235 (some [1]) [.callo (.os 0 l5.length) [.w 3 l5], .sum [1,2,4,5,6,7] [0,1,2,3] (.exit 0) [(1, .j a2),(2, .o 0),(4, .os 1 0),(5, .os 2 l24.length)] [.box 31 (c31 a1) false, .n 294, .w 294 l24], .sum [1,2,4,5,10] [0,1,2] (.exit 2) [(4, .os 0 0),(5, .os 1 l39.length)] [.n 294, .w 294 l39]] (pc (Z1B h4)<|pc (im3 l5)<|pc (Zfw _ _ h25)<|pc (Zfx _ _ h40)<|pn)

theorem QZ {a1:Yc} {r:Bool} (h:Qz a1=some r):
  Z7 Tryz.prog UU 189 [.agg (WL a1)] [] (.y r) []:=by
 unfold Qz at h
 obtain⟨h2,h⟩|⟨h2,h⟩:=Z1 h
 ·obtain rfl:=oi h;exact rf Tryz.func189 none [.t] (pc h2<|pn)
 ·obtain rfl:=oi h;exact rf Tryz.func189 none [.f] (pc h2<|pn)

theorem Zfz:Zx Tryz.prog UU 0 14 (Zs (Zt Tryz.f232) [1,1,0,1,0,0]) (fun s:Int×Int=>match s with|(v2,v3)=>QA v2 v3)
  (fun s:Int×Int=>(match s with|(v2,v3)=> [(2, .z),(3, .j v2),(4, .j v3)]:Fr DD)) (fun s:Int×Int=>(match s with|(v2,v3)=> []:Z3 DD)) (fun r=>match r with|v6=> .exit 0) (fun r=>match r with|v6=> [(2, .z),(3, .j v6)]) (fun r=>match r with|v6=> []):=by
 refine Zy (fun s q h=> ?_) (fun r=> ?_)
 ·obtain⟨v2,v3⟩:=s;replace h:QA v2 v3=some q:=h
  unfold QA at h
  obtain⟨h4,h⟩|⟨h4,h⟩:=Z1 h
  ·obtain rfl:=oi h;exact rl [2,3,4] [] [.t] (pc h4<|pn)
  ·obtain rfl:=oi h;exact rl [2,3] [] [.f] (pc h4<|pn)
 ·exact Ex.noConfusion

theorem Z7U {a1:Yc} {r:Int} (h:QB a1=some r):
  Z7 Tryz.prog UU 232 [.agg (WL a1)] [] (.j r) []:=by
 unfold QB at h
 obtain⟨v6,h7,h⟩:=bo h
 obtain rfl:=oi h;exact rf Tryz.func232 none [.sum [2,3,4] [] (.exit 0) [(2, .z),(3, .j v6)] []] (pc (Zfz _ _ h7)<|pn)

theorem Z3O {a1:Yc} {r:Int} (h:QC a1=some r):
  Z7 Tryz.prog UU 190 [.agg (WL a1)] [] (.v (.int .u32 r)) []:=by
 unfold QC at h
 obtain⟨r2,h3,h⟩:=bo h
 obtain⟨h4,h⟩|⟨h4,h⟩:=Z1 h
 ·obtain rfl:=oi h;exact rf Tryz.func190 none [.b r2, .t] (pc (QZ h3)<|pc h4<|pn)
 ·obtain⟨r5,h6,h⟩:=bo h
  obtain⟨h7,h⟩|⟨h7,h⟩:=Z1 h
  ·obtain⟨r8,h9,h⟩:=bo h
   obtain rfl:=oi h;exact rf Tryz.func190 none [.b r2, .f, .callv (.j r5), .callv (.j r8)] (pc (QZ h3)<|pc h4<|pc (Z7U h6)<|pc (Z7f h7)<|pc (Z7U h9)<|pn)
  ·cases h

theorem ZaV {a1:Yc} {r:Int} (h:Z1h a1=some r):
  Z7 Tryz.prog UU 191 [.agg (WL a1)] [] (.v (.int .u32 r)) []:=by
 unfold Z1h at h
 obtain⟨r2,h3,h⟩:=bo h
 obtain⟨h4,h⟩|⟨h4,h⟩:=Z1 h
 ·obtain rfl:=oi h;exact rf Tryz.func191 none [.b r2, .t] (pc (QZ h3)<|pc h4<|pn)
 ·obtain⟨r5,h6,h⟩:=bo h
  obtain⟨r7,h8,h⟩:=bo h
  obtain rfl:=oi h;exact rf Tryz.func191 none [.b r2, .f, .callv (.v (.int .u32 r5)), .callv (.j r7)] (pc (QZ h3)<|pc h4<|pc (Z3O h6)<|pc (Z7U h8)<|pn)

theorem WF {a1:Z2} {a2:Int} {r:Int} (h:Z1i a1 a2=some r):
  Z7 Tryz.prog UU 282 [.agg (c31 a1), .j a2] [] (.j r) []:=by
 unfold Z1i at h
 obtain⟨x3,h4,h⟩:=bo h
 obtain⟨x5,h6,h⟩:=bo h
 obtain rfl:=oi h;exact rf Tryz.func282 none [.row (ZK x3), .row (c90 x5)] (pc (ZP h4)<|pc (ZI h6)<|pn)

theorem Z3P {a1:Yc} {a2:Int} {r:Bool} (h:Z3n a1 a2=some r):
  Z7 Tryz.prog UU 121 [.agg (WL a1), .v (.int .u32 a2)] [] (.y r) []:=by
 unfold Z3n at h
 obtain⟨r3,h4,h⟩:=bo h
 obtain⟨h5,h⟩|⟨h5,h⟩:=Z1 h
 ·obtain⟨r6,h7,h⟩:=bo h
  obtain⟨h8,h⟩|⟨h8,h⟩:=Z1 h
  ·obtain⟨r9,h10,h⟩:=bo h
   obtain rfl:=oi h;exact rf Tryz.func121 none [.b r3, .t, .callv (.v (.int .u32 r6)), .t, .callv (.v (.int .u32 r9))] (pc (QZ h4)<|pc h5<|pc (Z3O h7)<|pc h8<|pc (ZaV h10)<|pn)
  ·obtain rfl:=oi h;exact rf Tryz.func121 none [.b r3, .t, .callv (.v (.int .u32 r6)), .f] (pc (QZ h4)<|pc h5<|pc (Z3O h7)<|pc h8<|pn)
 ·obtain rfl:=oi h;exact rf Tryz.func121 none [.b r3, .f] (pc (QZ h4)<|pc h5<|pn)

theorem ZaW {a1:Z2} {a2:Int} {a3:Int} :Zx Tryz.prog UU 0 67 (Zs (Zt Tryz.f283) [1,1,1,0,1,0,0]) (ρ:=Unit⊕Unit) (QD a1 a2 a3)
  (fun v11:Int=>([(1, .j a2),(2, .j a3),(3, .o 0),(6, .y false),(7, .j v11)]:Fr DD)) (fun v11:Int=>([.box 31 (c31 a1) false]:Z3 DD)) (fun r=>match r with|Sum.inl _=> .ret|Sum.inr _=> .exit 0) (fun r=>match r with|Sum.inl _=> [(6, .y true)]|Sum.inr _=> [(6, .y false)]) (fun r=>match r with|Sum.inl _=> []|Sum.inr _=> []):=by
 refine Zy (fun s q h=> ?_) (fun r=> ?_)
 ·replace h:QD a1 a2 a3 s=some q:=h;revert h;revert s;intro v11 h
  unfold QD at h
  obtain⟨x12,h13,h⟩:=bo h
  obtain⟨h14,h⟩|⟨h14,h⟩:=Z1 h
  ·obtain⟨x15,h16,h⟩:=bo h
   obtain⟨x17,h18,h⟩:=bo h
   obtain⟨h19,h⟩|⟨h19,h⟩:=Z1 h
   ·obtain⟨x20,h21,h⟩:=bo h
    obtain⟨x22,h23,h⟩:=bo h
    obtain⟨x24,h25,h⟩:=bo h
    obtain⟨r26,h27,h⟩:=bo h
    obtain⟨h28,h⟩|⟨h28,h⟩:=Z1 h
    ·obtain rfl:=oi h;exact rl [6] [] [.row (c88 x12), .t, .row (c88 x15), .row (c88 x17), .t, .row (c88 x20), .row (c88 x22), .row (c3 x24), .b r26, .t] (pc (Yv h13)<|pc h14<|pc (Yv h16)<|pc (Yv h18)<|pc h19<|pc (Yv h21)<|pc (Yv h23)<|pc (ob3 h25)<|pc (Xt h27)<|pc h28<|pn)
    ·obtain rfl:=oi h;exact rl [1,2,3,6,7] [0] [.row (c88 x12), .t, .row (c88 x15), .row (c88 x17), .t, .row (c88 x20), .row (c88 x22), .row (c3 x24), .b r26, .f] (pc (Yv h13)<|pc h14<|pc (Yv h16)<|pc (Yv h18)<|pc h19<|pc (Yv h21)<|pc (Yv h23)<|pc (ob3 h25)<|pc (Xt h27)<|pc h28<|pn)
   ·obtain rfl:=oi h;exact rl [1,2,3,6,7] [0] [.row (c88 x12), .t, .row (c88 x15), .row (c88 x17), .f] (pc (Yv h13)<|pc h14<|pc (Yv h16)<|pc (Yv h18)<|pc h19<|pn)
  ·obtain rfl:=oi h;exact rl [6] [] [.row (c88 x12), .f] (pc (Yv h13)<|pc h14<|pn)
 ·rcases r with _|_ <;> exact Ex.noConfusion

theorem Z5L {a1:Z2} {a2:Int} {a3:Int} {r:Bool} (h:Z3o a1 a2 a3=some r):
  Z7 Tryz.prog UU 283 [.agg (c31 a1), .j a2, .j a3] [] (.y r) []:=by
 unfold Z3o at h
 obtain⟨r4,h5,h⟩:=bo h
 obtain⟨h6,h⟩|⟨h6,h⟩:=Z1 h
 ·obtain rfl:=oi h;exact rf Tryz.func283 none [.b r4, .t] (pc (ZB h5)<|pc h6<|pn)
 ·obtain⟨r7,h8,h⟩:=bo h
  obtain⟨h9,h⟩|⟨h9,h⟩:=Z1 h
  ·obtain rfl:=oi h;exact rf Tryz.func283 none [.b r4, .f, .b r7, .t] (pc (ZB h5)<|pc h6<|pc (ZB h8)<|pc h9<|pn)
  ·obtain⟨h10,h⟩|⟨h10,h⟩:=Z1 h
   ·obtain rfl:=oi h;exact rf Tryz.func283 none [.b r4, .f, .b r7, .f, .t] (pc (ZB h5)<|pc h6<|pc (ZB h8)<|pc h9<|pc h10<|pn)
   ·obtain⟨r30,h29,h⟩:=bo h
    rcases r30 with _|_
    ·obtain rfl:=oi h;exact rf Tryz.func283 none [.b r4, .f, .b r7, .f, .f, .sum [1,2,3,6,7] [0] .ret [(6, .y true)] []] (pc (ZB h5)<|pc h6<|pc (ZB h8)<|pc h9<|pc h10<|pc (ZaW _ _ h29)<|pn)
    ·obtain rfl:=oi h;exact rf Tryz.func283 none [.b r4, .f, .b r7, .f, .f, .sum [1,2,3,6,7] [0] (.exit 0) [(6, .y false)] []] (pc (ZB h5)<|pc h6<|pc (ZB h8)<|pc h9<|pc h10<|pc (ZaW _ _ h29)<|pn)

theorem ZaX {a1:Z2} {a2:Int} {a3:Int} {a4:Int} {r:Bool} (h:Z3p a1 a2 a3 a4=some r):
  Z7 Tryz.prog UU 284 [.agg (c31 a1), .j a2, .j a3, .j a4] [] (.y r) []:=by
 unfold Z3p at h
 obtain⟨x5,h6,h⟩:=bo h
 obtain⟨x7,h8,h⟩:=bo h
 obtain⟨h9,h⟩|⟨h9,h⟩:=Z1 h
 ·obtain⟨x10,h11,h⟩:=bo h
  obtain⟨x12,h13,h⟩:=bo h
  obtain rfl:=oi h;exact rf Tryz.func284 none [.row (ZK x5), .row (ZK x7), .t, .row (ZK x10), .row (ZK x12)] (pc (ZP h6)<|pc (ZP h8)<|pc h9<|pc (ZP h11)<|pc (ZP h13)<|pn)
 ·obtain⟨x14,h15,h⟩:=bo h
  obtain⟨x16,h17,h⟩:=bo h
  obtain⟨h18,h⟩|⟨h18,h⟩:=Z1 h
  ·obtain⟨x19,h20,h⟩:=bo h
   obtain⟨x21,h22,h⟩:=bo h
   obtain rfl:=oi h;exact rf Tryz.func284 none [.row (ZK x5), .row (ZK x7), .f, .row (ZK x14), .row (ZK x16), .t, .row (ZK x19), .row (ZK x21)] (pc (ZP h6)<|pc (ZP h8)<|pc h9<|pc (ZP h15)<|pc (ZP h17)<|pc h18<|pc (ZP h20)<|pc (ZP h22)<|pn)
  ·obtain rfl:=oi h;exact rf Tryz.func284 none [.row (ZK x5), .row (ZK x7), .f, .row (ZK x14), .row (ZK x16), .f] (pc (ZP h6)<|pc (ZP h8)<|pc h9<|pc (ZP h15)<|pc (ZP h17)<|pc h18<|pn)

theorem Z7V {a1:Z2} {a2:Int} {a3:Int} :Zx Tryz.prog UU 0 78 (Zs (Zt Tryz.f279) [1,1,1,0,1,0,0]) (fun s:Int×Int=>match s with|(v7,v8)=>QE a1 a2 a3 v7 v8)
  (fun s:Int×Int=>(match s with|(v7,v8)=> [(1, .j a2),(2, .v (.int .u32 a3)),(3, .o 0),(6, .z),(7, .y false),(8, .j v7),(9, .j v8)]:Fr DD)) (fun s:Int×Int=>(match s with|(v7,v8)=> [.box 31 (c31 a1) false]:Z3 DD)) (fun r=>match r with|Sum.inl _=> .ret|Sum.inr v35=> .exit 0) (fun r=>match r with|Sum.inl _=> [(6, .z),(7, .y false)]|Sum.inr v35=> [(6, .z),(7, .y false),(8, .j v35)]) (fun r=>match r with|Sum.inl _=> []|Sum.inr v35=> []):=by
 refine Zy (fun s q h=> ?_) (fun r=> ?_)
 ·obtain⟨v7,v8⟩:=s;replace h:QE a1 a2 a3 v7 v8=some q:=h
  unfold QE at h
  obtain⟨h9,h⟩|⟨h9,h⟩:=Z1 h
  ·obtain⟨r10,h11,h⟩:=bo h
   obtain⟨r12,h13,h⟩:=bo h
   obtain⟨h14,h⟩|⟨h14,h⟩:=Z1 h
   ·obtain rfl:=oi h;exact rl [1,2,3,6,7,8,9] [0] [.t, .callv (.j r10), .callv (.j r12), .t] (pc h9<|pc (WF h11)<|pc (WF h13)<|pc h14<|pn)
   ·obtain⟨x15,h16,h⟩:=bo h
    obtain⟨h17,h⟩|⟨h17,h⟩:=Z1 h
    ·obtain rfl:=oi h;exact rl [6,7] [] [.t, .callv (.j r10), .callv (.j r12), .f, .row (ZK x15), .t] (pc h9<|pc (WF h11)<|pc (WF h13)<|pc h14<|pc (ZP h16)<|pc h17<|pn)
    ·obtain⟨x18,h19,h⟩:=bo h
     obtain⟨r20,h21,h⟩:=bo h
     obtain⟨h22,h⟩|⟨h22,h⟩:=Z1 h
     ·obtain rfl:=oi h;exact rl [1,2,3,6,7,8,9] [0] [.t, .callv (.j r10), .callv (.j r12), .f, .row (ZK x15), .f, .row (ZK x18), .b r20, .t] (pc h9<|pc (WF h11)<|pc (WF h13)<|pc h14<|pc (ZP h16)<|pc h17<|pc (ZP h19)<|pc (Z3P h21)<|pc h22<|pn)
     ·obtain⟨x23,h24,h⟩:=bo h
      obtain⟨x25,h26,h⟩:=bo h
      obtain⟨r27,h28,h⟩:=bo h
      obtain⟨h29,h⟩|⟨h29,h⟩:=Z1 h
      ·obtain rfl:=oi h;exact rl [1,2,3,6,7,8,9] [0] [.t, .callv (.j r10), .callv (.j r12), .f, .row (ZK x15), .f, .row (ZK x18), .b r20, .f, .row (ZK x23), .row (ZK x25), .b r27, .t] (pc h9<|pc (WF h11)<|pc (WF h13)<|pc h14<|pc (ZP h16)<|pc h17<|pc (ZP h19)<|pc (Z3P h21)<|pc h22<|pc (ZP h24)<|pc (ZP h26)<|pc (Z5L h28)<|pc h29<|pn)
      ·obtain⟨h30,h⟩|⟨h30,h⟩:=Z1 h
       ·obtain rfl:=oi h;exact rl [1,2,3,6,7,8,9] [0] [.t, .callv (.j r10), .callv (.j r12), .f, .row (ZK x15), .f, .row (ZK x18), .b r20, .f, .row (ZK x23), .row (ZK x25), .b r27, .f, .t] (pc h9<|pc (WF h11)<|pc (WF h13)<|pc h14<|pc (ZP h16)<|pc h17<|pc (ZP h19)<|pc (Z3P h21)<|pc h22<|pc (ZP h24)<|pc (ZP h26)<|pc (Z5L h28)<|pc h29<|pc h30<|pn)
       ·obtain⟨r31,h32,h⟩:=bo h
        obtain⟨h33,h⟩|⟨h33,h⟩:=Z1 h
        ·obtain rfl:=oi h;exact rl [1,2,3,6,7,8,9] [0] [.t, .callv (.j r10), .callv (.j r12), .f, .row (ZK x15), .f, .row (ZK x18), .b r20, .f, .row (ZK x23), .row (ZK x25), .b r27, .f, .f, .b r31, .t] (pc h9<|pc (WF h11)<|pc (WF h13)<|pc h14<|pc (ZP h16)<|pc h17<|pc (ZP h19)<|pc (Z3P h21)<|pc h22<|pc (ZP h24)<|pc (ZP h26)<|pc (Z5L h28)<|pc h29<|pc h30<|pc (ZaX h32)<|pc h33<|pn)
        ·obtain rfl:=oi h;exact rl [1,2,3,6,7,8,9] [0] [.t, .callv (.j r10), .callv (.j r12), .f, .row (ZK x15), .f, .row (ZK x18), .b r20, .f, .row (ZK x23), .row (ZK x25), .b r27, .f, .f, .b r31, .f] (pc h9<|pc (WF h11)<|pc (WF h13)<|pc h14<|pc (ZP h16)<|pc h17<|pc (ZP h19)<|pc (Z3P h21)<|pc h22<|pc (ZP h24)<|pc (ZP h26)<|pc (Z5L h28)<|pc h29<|pc h30<|pc (ZaX h32)<|pc h33<|pn)
  ·obtain rfl:=oi h;exact rl [6,7,8] [] [.f] (pc h9<|pn)
 ·rcases r with _|_ <;> exact Ex.noConfusion

theorem Z7W {a1:Z2} {a2:Int} {a3:Int} {r:Int×Bool} (h:Z3q a1 a2 a3=some r):
  Z7 Tryz.prog UU 279 [.agg (c31 a1), .j a2, .v (.int .u32 a3)] [] (.tup [.j r.1, .y r.2]) []:=by
 unfold Z3q at h
 obtain⟨r4,h5,h⟩:=bo h
 obtain⟨h6,h⟩|⟨h6,h⟩:=Z1 h
 ·obtain rfl:=oi h;exact rf Tryz.func279 none [.b r4, .t] (pc (ZB h5)<|pc h6<|pn)
 ·obtain⟨r37,h36,h⟩:=bo h
  rcases r37 with _|v35
  ·obtain rfl:=oi h;exact rf Tryz.func279 none [.b r4, .f, .sum [1,2,3,6,7,8,9] [0] .ret [(6, .z),(7, .y false)] []] (pc (ZB h5)<|pc h6<|pc (Z7V _ _ h36)<|pn)
  ·obtain⟨h38,h⟩|⟨h38,h⟩:=Z1 h
   ·obtain rfl:=oi h;exact rf Tryz.func279 none [.b r4, .f, .sum [1,2,3,6,7,8,9] [0] (.exit 0) [(6, .z),(7, .y false),(8, .j v35)] [], .t] (pc (ZB h5)<|pc h6<|pc (Z7V _ _ h36)<|pc h38<|pn)
   ·obtain rfl:=oi h;exact rf Tryz.func279 none [.b r4, .f, .sum [1,2,3,6,7,8,9] [0] (.exit 0) [(6, .z),(7, .y false),(8, .j v35)] [], .f] (pc (ZB h5)<|pc h6<|pc (Z7V _ _ h36)<|pc h38<|pn)

theorem ZaY {a1:Z2} {a2:Int} :Zx Tryz.prog UU 0 22 (Zs (Zt Tryz.f280) [1,0,1,0,0]) (ρ:=Unit⊕Unit) (QF a1 a2)
  (fun v3:Int=>([(1, .v (.int .u32 a2)),(2, .o 0),(4, .y false),(5, .j v3)]:Fr DD)) (fun v3:Int=>([.box 31 (c31 a1) false]:Z3 DD)) (fun r=>match r with|Sum.inl _=> .ret|Sum.inr _=> .exit 0) (fun r=>match r with|Sum.inl _=> [(4, .y true)]|Sum.inr _=> [(4, .y false)]) (fun r=>match r with|Sum.inl _=> []|Sum.inr _=> []):=by
 refine Zy (fun s q h=> ?_) (fun r=> ?_)
 ·replace h:QF a1 a2 s=some q:=h;revert h;revert s;intro v3 h
  unfold QF at h
  obtain⟨h4,h⟩|⟨h4,h⟩:=Z1 h
  ·obtain⟨x5,h6,h⟩:=bo h
   obtain⟨h7,h⟩|⟨h7,h⟩:=Z1 h
   ·obtain rfl:=oi h;exact rl [4] [] [.t, .row (ZK x5), .t] (pc h4<|pc (ZP h6)<|pc h7<|pn)
   ·obtain rfl:=oi h;exact rl [1,2,4,5] [0] [.t, .row (ZK x5), .f] (pc h4<|pc (ZP h6)<|pc h7<|pn)
  ·obtain rfl:=oi h;exact rl [4] [] [.f] (pc h4<|pn)
 ·rcases r with _|_ <;> exact Ex.noConfusion

theorem ZfA {a1:Z2} {a2:Int} {r:Bool} (h:Z3r a1 a2=some r):
  Z7 Tryz.prog UU 280 [.agg (c31 a1), .v (.int .u32 a2)] [] (.y r) []:=by
 unfold Z3r at h
 obtain⟨r9,h8,h⟩:=bo h
 rcases r9 with _|_
 ·obtain rfl:=oi h;exact rf Tryz.func280 none [.sum [1,2,4,5] [0] .ret [(4, .y true)] []] (pc (ZaY _ _ h8)<|pn)
 ·obtain rfl:=oi h;exact rf Tryz.func280 none [.sum [1,2,4,5] [0] (.exit 0) [(4, .y false)] []] (pc (ZaY _ _ h8)<|pn)

theorem Z5M {a1:Z2} {a2:Int} {a3:Int} {a4:Int} {r:Bool} (h:Z1j a1 a2 a3 a4=some r):
  Z7 Tryz.prog UU 270 [.agg (c31 a1), .j a2, .j a3, .v (.int .u32 a4)] [] (.y r) []:=by
 unfold Z1j at h
 obtain⟨r5,h6,h⟩:=bo h
 obtain⟨h7,h⟩|⟨h7,h⟩:=Z1 h
 ·obtain⟨h8,h⟩|⟨h8,h⟩:=Z1 h
  ·obtain⟨r9,h10,h⟩:=bo h
   obtain rfl:=oi h;exact rf Tryz.func270 none [.callv (.tup [.j r5.1, .y r5.2]), .t, .t, .b r9] (pc (Z7W h6)<|pc h7<|pc h8<|pc (ZfA h10)<|pn)
  ·obtain rfl:=oi h;exact rf Tryz.func270 none [.callv (.tup [.j r5.1, .y r5.2]), .t, .f] (pc (Z7W h6)<|pc h7<|pc h8<|pn)
 ·obtain rfl:=oi h;exact rf Tryz.func270 none [.callv (.tup [.j r5.1, .y r5.2]), .f] (pc (Z7W h6)<|pc h7<|pn)

theorem ZaZ {a1:Z2} {a2:Int} {a3:Int} :Zx Tryz.prog UU 0 98 (Zs (Zt Tryz.f259) [1,1,1,1,0,1,0,0]) (fun s:(List Int)×Int=>match s with|(l14,v15)=>UY a1 a2 a3 l14 v15)
  (fun s:(List Int)×Int=>(match s with|(l14,v15)=> [(1, .j a2),(2, .j a3),(3, .o 0),(6, .v (.int .u32 0)),(7, .y false),(8, .j (-1)),(9, .os 1 l14.length),(10, .j v15)]:Fr DD)) (fun s:(List Int)×Int=>(match s with|(l14,v15)=> [.box 31 (c31 a1) false, .w 3 l14]:Z3 DD)) (fun r=>match r with|l31=> .exit 0) (fun r=>match r with|l31=> [(1, .j a2),(2, .j a3),(3, .o 0),(6, .v (.int .u32 0)),(7, .y false),(8, .j (-1)),(9, .os 1 l31.length)]) (fun r=>match r with|l31=> [.box 31 (c31 a1) false, .w 3 l31]):=by
 refine Zy (fun s q h=> ?_) (fun r=> ?_)
 ·obtain⟨l14,v15⟩:=s;replace h:UY a1 a2 a3 l14 v15=some q:=h
  unfold UY at h
  obtain⟨h16,h⟩|⟨h16,h⟩:=Z1 h
  ·obtain⟨x17,h18,h⟩:=bo h
   obtain⟨x19,h20,h⟩:=bo h
   obtain⟨r21,h22,h⟩:=bo h
   obtain⟨h23,h⟩|⟨h23,h⟩:=Z1 h
   ·obtain rfl:=oi h;exact rl [1,2,3,6,7,8,9,10] [0,1] [.t, .row (ZK x17), .row (ZK x19), .callv (.v (.int .u32 r21)), .obj [] (.w 3 [(Z4 ((Z4 x17.net.addr)+1):Int),(Z4 ((Z4 r21)+1):Int)]), .obj [] (.w 3 (l14++ [(Z4 ((Z4 x17.net.addr)+1):Int),(Z4 ((Z4 r21)+1):Int)]))] (pc h16<|pc (ZP h18)<|pc (ZP h20)<|pc (ZaV h22)<|pc (Yk 3 [(Z4 ((Z4 x17.net.addr)+1):Int),(Z4 ((Z4 r21)+1):Int)])<|pc (YR 3 (n:=l14.length) (l:=l14) (xs:= [(Z4 ((Z4 x17.net.addr)+1):Int),(Z4 ((Z4 r21)+1):Int)]) h23)<|pn)
   ·cases h
  ·obtain rfl:=oi h;exact rl [1,2,3,6,7,8,9] [0,1] [.f] (pc h16<|pn)
 ·exact Ex.noConfusion

theorem Zb0 {a1:Z2} {a2:Int} {a3:Int} {l31:List Int} :Zx Tryz.prog UU 0 98 (Zs (Zt Tryz.f259) [1,1,1,1,1,0,1,0,0]) (fun s:Int×Int=>match s with|(v34,v35)=>UZ a1 a2 a3 l31 v34 v35)
  (fun s:Int×Int=>(match s with|(v34,v35)=> [(1, .j a2),(2, .j a3),(3, .o 0),(6, .v (.int .u32 0)),(7, .y false),(8, .j v34),(9, .os 1 l31.length),(11, .j v35)]:Fr DD)) (fun s:Int×Int=>(match s with|(v34,v35)=> [.box 31 (c31 a1) false, .w 3 l31]:Z3 DD)) (fun r=>match r with|v50=> .exit 2) (fun r=>match r with|v50=> [(6, .v (.int .u32 0)),(7, .y false),(8, .j v50)]) (fun r=>match r with|v50=> []):=by
 refine Zy (fun s q h=> ?_) (fun r=> ?_)
 ·obtain⟨v34,v35⟩:=s;replace h:UZ a1 a2 a3 l31 v34 v35=some q:=h
  unfold UZ at h
  obtain⟨h36,h⟩|⟨h36,h⟩:=Z1 h
  ·obtain⟨h37,h⟩|⟨h37,h⟩:=Z1 h
   ·obtain⟨x38,h39,h⟩:=bo h
    obtain⟨h40,h⟩|⟨h40,h⟩:=Z1 h
    ·obtain⟨h41,h⟩|⟨h41,h⟩:=Z1 h
     ·obtain⟨r42,h43,h⟩:=bo h
      obtain⟨h44,h⟩|⟨h44,h⟩:=Z1 h
      ·obtain rfl:=oi h;exact rl [1,2,3,6,7,8,9,11] [0,1] [.t, .row (c3 x38), .t, .t, .b r42, .t] (pc (rn l31.length)<|pc h36<|pc (an l31.length (Zz h37))<|pc (an l31.length (YV h39))<|pc h40<|pc h41<|pc (Z5M h43)<|pc h44<|pn)
      ·obtain rfl:=oi h;exact rl [1,2,3,6,7,8,9,11] [0,1] [.t, .row (c3 x38), .t, .t, .b r42, .f] (pc (rn l31.length)<|pc h36<|pc (an l31.length (Zz h37))<|pc (an l31.length (YV h39))<|pc h40<|pc h41<|pc (Z5M h43)<|pc h44<|pn)
     ·obtain⟨h45,h⟩|⟨h45,h⟩:=Z1 h
      ·obtain⟨r46,h47,h⟩:=bo h
       obtain⟨h48,h⟩|⟨h48,h⟩:=Z1 h
       ·obtain rfl:=oi h;exact rl [1,2,3,6,7,8,9,11] [0,1] [.t, .row (c3 x38), .t, .f, .t, .b r46, .t] (pc (rn l31.length)<|pc h36<|pc (an l31.length (Zz h37))<|pc (an l31.length (YV h39))<|pc h40<|pc h41<|pc h45<|pc (Z5M h47)<|pc h48<|pn)
       ·obtain rfl:=oi h;exact rl [1,2,3,6,7,8,9,11] [0,1] [.t, .row (c3 x38), .t, .f, .t, .b r46, .f] (pc (rn l31.length)<|pc h36<|pc (an l31.length (Zz h37))<|pc (an l31.length (YV h39))<|pc h40<|pc h41<|pc h45<|pc (Z5M h47)<|pc h48<|pn)
      ·obtain rfl:=oi h;exact rl [1,2,3,6,7,8,9,11] [0,1] [.t, .row (c3 x38), .t, .f, .f] (pc (rn l31.length)<|pc h36<|pc (an l31.length (Zz h37))<|pc (an l31.length (YV h39))<|pc h40<|pc h41<|pc h45<|pn)
    ·obtain rfl:=oi h;exact rl [1,2,3,6,7,8,9,11] [0,1] [.t, .row (c3 x38), .f] (pc (rn l31.length)<|pc h36<|pc (an l31.length (Zz h37))<|pc (an l31.length (YV h39))<|pc h40<|pn)
   ·cases h
  ·obtain rfl:=oi h;exact rl [6,7,8] [] [.f] (pc (rn l31.length)<|pc h36<|pn)
 ·exact Ex.noConfusion

theorem Zb1 {a1:Z2} {a2:Int} {a3:Int} {r:Int×Bool} (h:T0 a1 a2 a3=some r):
  Z7 Tryz.prog UU 259 [.agg (c31 a1), .j a2, .j a3] [] (.tup [.v (.int .u32 r.1), .y r.2]) []:=by
 unfold T0 at h
 obtain⟨r4,h5,h⟩:=bo h
 obtain⟨h6,h⟩|⟨h6,h⟩:=Z1 h
 ·obtain rfl:=oi h;exact rf Tryz.func259 none [.b r4, .t] (pc (ZB h5)<|pc h6<|pn)
 ·obtain⟨r7,h8,h⟩:=bo h
  obtain⟨h9,h⟩|⟨h9,h⟩:=Z1 h
  ·obtain rfl:=oi h;exact rf Tryz.func259 none [.b r4, .f, .b r7, .t] (pc (ZB h5)<|pc h6<|pc (ZB h8)<|pc h9<|pn)
  ·obtain⟨x10,h11,h⟩:=bo h
   obtain⟨r12,h13,h⟩:=bo h
   obtain⟨l31,h32,h⟩:=bo h
   obtain⟨v50,h51,h⟩:=bo h
   obtain⟨h53,h⟩|⟨h53,h⟩:=Z1 h
   ·obtain rfl:=oi h;exact rf Tryz.func259 none [.b r4, .f, .b r7, .f, .row (ZK x10), .callv (.v (.int .u32 r12)), .obj [] (.w 3 [(Z4 r12:Int)]), .sum [1,2,3,6,7,8,9,10] [0,1] (.exit 0) [(1, .j a2),(2, .j a3),(3, .o 0),(6, .v (.int .u32 0)),(7, .y false),(8, .j (-1)),(9, .os 1 l31.length)] [.box 31 (c31 a1) false, .w 3 l31], .sum [1,2,3,6,7,8,9,11] [0,1] (.exit 2) [(6, .v (.int .u32 0)),(7, .y false),(8, .j v50)] [], .t] (pc (ZB h5)<|pc h6<|pc (ZB h8)<|pc h9<|pc (ZP h11)<|pc (Z3O h13)<|pc (Yk 3 [(Z4 r12:Int)])<|pc (ZaZ _ _ h32)<|pc (Zb0 _ _ h51)<|pc h53<|pn)
   ·obtain rfl:=oi h;exact rf Tryz.func259 none [.b r4, .f, .b r7, .f, .row (ZK x10), .callv (.v (.int .u32 r12)), .obj [] (.w 3 [(Z4 r12:Int)]), .sum [1,2,3,6,7,8,9,10] [0,1] (.exit 0) [(1, .j a2),(2, .j a3),(3, .o 0),(6, .v (.int .u32 0)),(7, .y false),(8, .j (-1)),(9, .os 1 l31.length)] [.box 31 (c31 a1) false, .w 3 l31], .sum [1,2,3,6,7,8,9,11] [0,1] (.exit 2) [(6, .v (.int .u32 0)),(7, .y false),(8, .j v50)] [], .f] (pc (ZB h5)<|pc h6<|pc (ZB h8)<|pc h9<|pc (ZP h11)<|pc (Z3O h13)<|pc (Yk 3 [(Z4 r12:Int)])<|pc (ZaZ _ _ h32)<|pc (Zb0 _ _ h51)<|pc h53<|pn)

theorem ZfB {a1:Z2} {a2:Int} :Zx Tryz.prog UU 0 57 (Zs (Zt Tryz.f236) [1,1,1,0,1,0,0]) (fun s:(List YF)×Int=>match s with|(l9,v10)=>QG a1 a2 l9 v10)
  (fun s:(List YF)×Int=>(match s with|(l9,v10)=> [(1, .j a2),(2, .o 0),(4, .os 1 0),(5, .os 2 l9.length),(6, .j v10)]:Fr DD)) (fun s:(List YF)×Int=>(match s with|(l9,v10)=> [.box 31 (c31 a1) false, .n 297, .w 297 l9]:Z3 DD)) (fun r=>match r with|l22=> .exit 0) (fun r=>match r with|l22=> [(4, .os 0 0),(5, .os 1 l22.length)]) (fun r=>match r with|l22=> [.n 297, .w 297 l22]):=by
 refine Zy (fun s q h=> ?_) (fun r=> ?_)
 ·obtain⟨l9,v10⟩:=s;replace h:QG a1 a2 l9 v10=some q:=h
  unfold QG at h
  obtain⟨h11,h⟩|⟨h11,h⟩:=Z1 h
  ·obtain⟨x12,h13,h⟩:=bo h
   obtain⟨r14,h15,h⟩:=bo h
   obtain⟨h16,h⟩|⟨h16,h⟩:=Z1 h
   ·obtain⟨x17,h18,h⟩:=bo h
    obtain⟨h19,h⟩|⟨h19,h⟩:=Z1 h
    ·obtain rfl:=oi h;exact rl [1,2,4,5,6] [0,1,2] [.t, .row (c90 x12), .callv (.tup [.v (.int .u32 r14.1), .y r14.2]), .t, .row (ZK x17), .obj [] (.w 297 [(⟨v10,x17.domain,r14.1⟩:YF)]), .obj [] (.w 297 (l9++ [(⟨v10,x17.domain,r14.1⟩:YF)]))] (pc h11<|pc (ZI h13)<|pc (Zb1 h15)<|pc h16<|pc (ZP h18)<|pc (Yk 297 [(⟨v10,x17.domain,r14.1⟩:YF)])<|pc (YR 297 (n:=l9.length) (l:=l9) (xs:= [(⟨v10,x17.domain,r14.1⟩:YF)]) h19)<|pc (rn (List.length [(⟨v10,x17.domain,r14.1⟩:YF)]))<|pn)
    ·cases h
   ·obtain rfl:=oi h;exact rl [1,2,4,5,6] [0,1,2] [.t, .row (c90 x12), .callv (.tup [.v (.int .u32 r14.1), .y r14.2]), .f] (pc h11<|pc (ZI h13)<|pc (Zb1 h15)<|pc h16<|pn)
  ·obtain rfl:=oi h;exact rl [4,5] [1,2] [.f] (pc h11<|pn)
 ·exact Ex.noConfusion

theorem ZfC {a1:Z2} {a2:Int} {r:((List YF))} (h:Uf a1 a2=some r):
  Z7 Tryz.prog UU 236 [.agg (c31 a1), .j a2] [] ((fun r=>match r with|l25=> .os 0 l25.length) r) ((fun r=>match r with|l25=> [.w 297 l25]) r):=by
 unfold Uf at h
 obtain⟨r3,h4,h⟩:=bo h
 obtain⟨h5,h⟩|⟨h5,h⟩:=Z1 h
 ·obtain rfl:=oi h;exact rf Tryz.func236 (some [2]) [.b r3, .t] (pc (ZB h4)<|pc h5<|pn)
 ·obtain⟨x6,h7,h⟩:=bo h
  obtain⟨h8,h⟩|⟨h8,h⟩:=Z1 h
  ·obtain rfl:=oi h;exact rf Tryz.func236 (some [2]) [.b r3, .f, .row (c90 x6), .t] (pc (ZB h4)<|pc h5<|pc (ZI h7)<|pc h8<|pn)
  ·obtain⟨l22,h23,h⟩:=bo h
   obtain rfl:=oi h;exact rf Tryz.func236 (some [1]) [.b r3, .f, .row (c90 x6), .f, .sum [1,2,4,5,6] [0,1,2] (.exit 0) [(4, .os 0 0),(5, .os 1 l22.length)] [.n 297, .w 297 l22]] (pc (ZB h4)<|pc h5<|pc (ZI h7)<|pc h8<|pc (ZfB _ _ h23)<|pn)

theorem ZfD {a1:Z2} {a2:List Int} {a3:Int} {v6:Int} {l10:List Int} :Zx Tryz.prog UU 0 174 (Zs (Zt Tryz.f206) [1,1,1,0,1,0,0,1,0,0,1,1,0,0]) (fun s:(List Bool)×Int=>match s with|(l11,v12)=>QH a1 a2 a3 v6 l10 l11 v12)
  (fun s:(List Bool)×Int=>(match s with|(l11,v12)=> [(1, .sl 3 a2),(2, .j a3),(3, .o 0),(6, .os 1 0),(7, .os 2 0),(8, .os 3 (Int.toNat (a1.domains.length:Int))),(9, .os 4 (Int.toNat (a1.domains.length:Int))),(10, .j v6),(11, .os 5 l10.length),(12, .j v12)]:Fr DD)) (fun s:(List Bool)×Int=>(match s with|(l11,v12)=> [.box 31 (c31 a1) false, .n 4, .n 4, .arr 4 l11 (Int.toNat (a1.domains.length:Int)) false, .arr 4 (List.replicate (Int.toNat (a1.domains.length:Int)) false) (Int.toNat (a1.domains.length:Int)) false, .w 3 l10]:Z3 DD)) (fun r=>match r with|l35=> .exit 2) (fun r=>match r with|l35=> [(1, .sl 3 a2),(2, .j a3),(3, .o 0),(6, .os 1 0),(7, .os 2 0),(8, .os 3 (Int.toNat (a1.domains.length:Int))),(9, .os 4 (Int.toNat (a1.domains.length:Int))),(10, .j v6)]) (fun r=>match r with|l35=> [.box 31 (c31 a1) false, .n 4, .n 4, .arr 4 l35 (Int.toNat (a1.domains.length:Int)) false, .arr 4 (List.replicate (Int.toNat (a1.domains.length:Int)) false) (Int.toNat (a1.domains.length:Int)) false]):=by
 refine Zy (fun s q h=> ?_) (fun r=> ?_)
 ·obtain⟨l11,v12⟩:=s;replace h:QH a1 a2 a3 v6 l10 l11 v12=some q:=h
  unfold QH at h
  obtain⟨h13,h⟩|⟨h13,h⟩:=Z1 h
  ·obtain⟨h14,h⟩|⟨h14,h⟩:=Z1 h
   ·obtain⟨x15,h16,h⟩:=bo h
    obtain⟨h17,h⟩|⟨h17,h⟩:=Z1 h
    ·obtain⟨x18,h19,h⟩:=bo h
     obtain rfl:=oi h;exact rl [1,2,3,6,7,8,9,10,11,12] [0,1,2,3,4,5] [.t, .row (c4 x15), .t, .row (c4 x18), .obj [] (.arr 4 (List.set l11 v6.toNat true) (Int.toNat (a1.domains.length:Int)) false)] (pc (rn l10.length)<|pc h13<|pc (an (Int.toNat (a1.domains.length:Int)) (Zz h14))<|pc (an (Int.toNat (a1.domains.length:Int)) (Xs h16))<|pc h17<|pc (an (Int.toNat (a1.domains.length:Int)) (Zz h14))<|pc (XR (e:=4) (n:=(Int.toNat (a1.domains.length:Int))) (l:=l11) (i:=v6.toNat) true [.y true] (Xs h19) rfl)<|pn)
    ·obtain⟨h20,h⟩|⟨h20,h⟩:=Z1 h
     ·obtain⟨x21,h22,h⟩:=bo h
      obtain⟨x23,h24,h⟩:=bo h
      obtain⟨x25,h26,h⟩:=bo h
      obtain rfl:=oi h;exact rl [1,2,3,6,7,8,9,10,11,12] [0,1,2,3,4,5] [.t, .row (c4 x15), .f, .row (c3 x21), .row (c3 x23), .row (c4 x25), .obj [] (.arr 4 (List.set l11 v6.toNat (x23==a3)) (Int.toNat (a1.domains.length:Int)) false)] (pc (rn l10.length)<|pc h13<|pc (an (Int.toNat (a1.domains.length:Int)) (Zz h14))<|pc (an (Int.toNat (a1.domains.length:Int)) (Xs h16))<|pc h17<|pc (an l10.length (Zz h20))<|pc (an l10.length (YV h22))<|pc (ob3 h24)<|pc (an (Int.toNat (a1.domains.length:Int)) (Zz h14))<|pc (XR (e:=4) (n:=(Int.toNat (a1.domains.length:Int))) (l:=l11) (i:=v6.toNat) (x23==a3) [.v (.bool (x23==a3))] (Xs h26) rfl)<|pn)
     ·cases h
   ·cases h
  ·obtain rfl:=oi h;exact rl [1,2,3,6,7,8,9,10] [0,1,2,3,4] [.f] (pc (rn l10.length)<|pc h13<|pn)
 ·exact Ex.noConfusion

theorem ZfE {a1:Z2} {a2:List Int} {a3:Int} :Zx Tryz.prog UU 0 174 (Zs (Zt Tryz.f206) [1,1,1,0,1,0,0]) (fun s:(List Bool)×Int=>match s with|(l5,v6)=>T1 a1 a2 a3 l5 v6)
  (fun s:(List Bool)×Int=>(match s with|(l5,v6)=> [(1, .sl 3 a2),(2, .j a3),(3, .o 0),(6, .os 1 0),(7, .os 2 0),(8, .os 3 (Int.toNat (a1.domains.length:Int))),(9, .os 4 (Int.toNat (a1.domains.length:Int))),(10, .j v6)]:Fr DD)) (fun s:(List Bool)×Int=>(match s with|(l5,v6)=> [.box 31 (c31 a1) false, .n 4, .n 4, .arr 4 l5 (Int.toNat (a1.domains.length:Int)) false, .arr 4 (List.replicate (Int.toNat (a1.domains.length:Int)) false) (Int.toNat (a1.domains.length:Int)) false]:Z3 DD)) (fun r=>match r with|l43=> .exit 0) (fun r=>match r with|l43=> [(3, .o 0),(6, .os 1 0),(7, .os 2 0),(8, .os 3 (Int.toNat (a1.domains.length:Int))),(9, .os 4 (Int.toNat (a1.domains.length:Int)))]) (fun r=>match r with|l43=> [.box 31 (c31 a1) false, .n 4, .n 4, .arr 4 l43 (Int.toNat (a1.domains.length:Int)) false, .arr 4 (List.replicate (Int.toNat (a1.domains.length:Int)) false) (Int.toNat (a1.domains.length:Int)) false]):=by
 refine Zy (fun s q h=> ?_) (fun r=> ?_)
 ·obtain⟨l5,v6⟩:=s;replace h:T1 a1 a2 a3 l5 v6=some q:=h
  unfold T1 at h
  obtain⟨h7,h⟩|⟨h7,h⟩:=Z1 h
  ·obtain⟨l10,h9,h⟩:=bo h
   obtain⟨l35,h36,h⟩:=bo h
   obtain rfl:=oi h;exact rl [1,2,3,6,7,8,9,10] [0,1,2,3,4] [.t, .callo (.os 0 l10.length) [.w 3 l10], .sum [1,2,3,6,7,8,9,10,11,12] [0,1,2,3,4,5] (.exit 2) [(1, .sl 3 a2),(2, .j a3),(3, .o 0),(6, .os 1 0),(7, .os 2 0),(8, .os 3 (Int.toNat (a1.domains.length:Int))),(9, .os 4 (Int.toNat (a1.domains.length:Int))),(10, .j v6)] [.box 31 (c31 a1) false, .n 4, .n 4, .arr 4 l35 (Int.toNat (a1.domains.length:Int)) false, .arr 4 (List.replicate (Int.toNat (a1.domains.length:Int)) false) (Int.toNat (a1.domains.length:Int)) false]] (pc h7<|pc (Z1B h9)<|pc (im3 l10)<|pc (ZfD _ _ h36)<|pn)
  ·obtain rfl:=oi h;exact rl [3,6,7,8,9] [0,1,2,3,4] [.f] (pc h7<|pn)
 ·exact Ex.noConfusion

theorem Zb2 {a1:Z2} {v48:Int} {v52:Int} {l56:List Ya} {l57:List Bool} {l58:List Bool} {v59:Int} {r:(List Bool)} (h:Z3s a1 v48 v52 l56 l57 l58 v59=some r):
  YE Tryz.prog UU 0 174 (Zs (Zt Tryz.f206) [1,1,1,1,0,1,0,0,1,0,0,0,1,0,0,1,0,0,1,1,0,0,1,0,0,0]) [(3, .o 0),(6, .os 1 0),(7, .os 2 0),(8, .os 3 (Int.toNat (a1.domains.length:Int))),(9, .os 4 (Int.toNat (a1.domains.length:Int))),(13, .j v48),(14, .j v52),(15, .os 5 l56.length),(16, .j v59)] [.box 31 (c31 a1) false, .n 4, .n 4, .arr 4 l57 (Int.toNat (a1.domains.length:Int)) false, .arr 4 l58 (Int.toNat (a1.domains.length:Int)) false, .w 294 l56] ((fun r=>match r with|l88=> .nor) r) ((fun r=>match r with|l88=> [(3, .o 0),(6, .os 1 0),(7, .os 2 0),(8, .os 3 (Int.toNat (a1.domains.length:Int))),(9, .os 4 (Int.toNat (a1.domains.length:Int))),(13, .j v48),(14, .j v52),(15, .os 5 l56.length),(16, .j v59)]) r) ((fun r=>match r with|l88=> [.box 31 (c31 a1) false, .n 4, .n 4, .arr 4 l88 (Int.toNat (a1.domains.length:Int)) false, .arr 4 l58 (Int.toNat (a1.domains.length:Int)) false, .w 294 l56]) r):=by
 unfold Z3s at h
 obtain⟨h61,h⟩|⟨h61,h⟩:=Z1 h
 ·obtain⟨x62,h63,h⟩:=bo h
  obtain⟨x64,h65,h⟩:=bo h
  obtain⟨h66,h⟩|⟨h66,h⟩:=Z1 h
  ·obtain⟨x67,h68,h⟩:=bo h
   obtain⟨h69,h⟩|⟨h69,h⟩:=Z1 h
   ·obtain⟨h70,h⟩|⟨h70,h⟩:=Z1 h
    ·obtain⟨x71,h72,h⟩:=bo h
     obtain rfl:=oi h;exact rl [3,6,7,8,9,13,14,15,16] [0,1,2,3,4,5] [.row (Vn x62), .row (Vn x64), .row (c4 x67), .t, .row (c4 x71), .obj [] (.arr 4 (List.set l57 (Int.toNat x62.domain) true) (Int.toNat (a1.domains.length:Int)) false)] (pc (an l56.length (Zz h61))<|pc (rn l56.length)<|pc (an l56.length (Tj h63))<|pc (an l56.length (Zz h61))<|pc (rn l56.length)<|pc (an l56.length (Tj h65))<|pc (an (Int.toNat (a1.domains.length:Int)) (Zz h66))<|pc (an (Int.toNat (a1.domains.length:Int)) (Xs h68))<|pc h69<|pc (an (Int.toNat (a1.domains.length:Int)) (Zz h70))<|pc (XR (e:=4) (n:=(Int.toNat (a1.domains.length:Int))) (l:=l57) (i:=(Int.toNat x62.domain)) true [.y true] (Xs h72) rfl)<|pn)
    ·cases h
   ·obtain⟨h73,h⟩|⟨h73,h⟩:=Z1 h
    ·obtain⟨x74,h75,h⟩:=bo h
     obtain⟨h76,h⟩|⟨h76,h⟩:=Z1 h
     ·obtain⟨x77,h78,h⟩:=bo h
      obtain rfl:=oi h;exact rl [3,6,7,8,9,13,14,15,16] [0,1,2,3,4,5] [.row (Vn x62), .row (Vn x64), .row (c4 x67), .f, .row (c4 x74), .row (c4 x77), .obj [] (.arr 4 (List.set l57 (Int.toNat x62.domain) x74) (Int.toNat (a1.domains.length:Int)) false)] (pc (an l56.length (Zz h61))<|pc (rn l56.length)<|pc (an l56.length (Tj h63))<|pc (an l56.length (Zz h61))<|pc (rn l56.length)<|pc (an l56.length (Tj h65))<|pc (an (Int.toNat (a1.domains.length:Int)) (Zz h66))<|pc (an (Int.toNat (a1.domains.length:Int)) (Xs h68))<|pc h69<|pc (an (Int.toNat (a1.domains.length:Int)) (Zz h73))<|pc (an (Int.toNat (a1.domains.length:Int)) (Xs h75))<|pc (an (Int.toNat (a1.domains.length:Int)) (Zz h76))<|pc (XR (e:=4) (n:=(Int.toNat (a1.domains.length:Int))) (l:=l57) (i:=(Int.toNat x62.domain)) x74 [.y x74] (Xs h78) rfl)<|pn)
     ·cases h
    ·cases h
  ·cases h
 ·cases h

theorem ZfF {a1:Z2} {v48:Int} {v52:Int} {l56:List Ya} :Zx Tryz.prog UU 0 174 (Zs (Zt Tryz.f206) [1,1,1,1,0,1,0,0,1,0,0,0,1,0,0,1,0,0,1,1,0,0]) (fun s:(List Bool)×(List Bool)×Int=>match s with|(l57,l58,v59)=>T2 a1 v48 v52 l56 l57 l58 v59)
  (fun s:(List Bool)×(List Bool)×Int=>(match s with|(l57,l58,v59)=> [(3, .o 0),(6, .os 1 0),(7, .os 2 0),(8, .os 3 (Int.toNat (a1.domains.length:Int))),(9, .os 4 (Int.toNat (a1.domains.length:Int))),(13, .j v48),(14, .j v52),(15, .os 5 l56.length),(16, .j v59)]:Fr DD)) (fun s:(List Bool)×(List Bool)×Int=>(match s with|(l57,l58,v59)=> [.box 31 (c31 a1) false, .n 4, .n 4, .arr 4 l57 (Int.toNat (a1.domains.length:Int)) false, .arr 4 l58 (Int.toNat (a1.domains.length:Int)) false, .w 294 l56]:Z3 DD)) (fun r=>match r with|(l123,l124)=> .exit 8) (fun r=>match r with|(l123,l124)=> [(3, .o 0),(6, .os 1 0),(7, .os 2 0),(8, .os 3 (Int.toNat (a1.domains.length:Int))),(9, .os 4 (Int.toNat (a1.domains.length:Int))),(13, .j v48),(14, .j v52)]) (fun r=>match r with|(l123,l124)=> [.box 31 (c31 a1) false, .n 4, .n 4, .arr 4 l123 (Int.toNat (a1.domains.length:Int)) false, .arr 4 l124 (Int.toNat (a1.domains.length:Int)) false]):=by
 refine Zy (fun s q h=> ?_) (fun r=> ?_)
 ·obtain⟨l57,l58,v59⟩:=s;replace h:T2 a1 v48 v52 l56 l57 l58 v59=some q:=h
  unfold T2 at h
  obtain⟨h60,h⟩|⟨h60,h⟩:=Z1 h
  ·obtain⟨l88,h89,h⟩:=bo h
   obtain⟨h91,h⟩|⟨h91,h⟩:=Z1 h
   ·obtain⟨x92,h93,h⟩:=bo h
    obtain⟨x94,h95,h⟩:=bo h
    obtain⟨h96,h⟩|⟨h96,h⟩:=Z1 h
    ·obtain⟨x97,h98,h⟩:=bo h
     obtain⟨h99,h⟩|⟨h99,h⟩:=Z1 h
     ·obtain⟨h100,h⟩|⟨h100,h⟩:=Z1 h
      ·obtain⟨x101,h102,h⟩:=bo h
       obtain rfl:=oi h;exact rl [3,6,7,8,9,13,14,15,16] [0,1,2,3,4,5] [.t, .skp, .cut [3,6,7,8,9,13,14,15,16] [0,1,2,3,4,5] .nor [(3, .o 0),(6, .os 1 0),(7, .os 2 0),(8, .os 3 (Int.toNat (a1.domains.length:Int))),(9, .os 4 (Int.toNat (a1.domains.length:Int))),(13, .j v48),(14, .j v52),(15, .os 5 l56.length),(16, .j v59)] [.box 31 (c31 a1) false, .n 4, .n 4, .arr 4 l88 (Int.toNat (a1.domains.length:Int)) false, .arr 4 l58 (Int.toNat (a1.domains.length:Int)) false, .w 294 l56], .row (Vn x92), .row (Vn x94), .row (c4 x97), .t, .row (c4 x101), .obj [] (.arr 4 (List.set l58 (Int.toNat x92.domain) true) (Int.toNat (a1.domains.length:Int)) false)] (pc (rn l56.length)<|pc h60<|pc (Zb2 h89)<|pc (an l56.length (Zz h91))<|pc (rn l56.length)<|pc (an l56.length (Tj h93))<|pc (an l56.length (Zz h91))<|pc (rn l56.length)<|pc (an l56.length (Tj h95))<|pc (an (Int.toNat (a1.domains.length:Int)) (Zz h96))<|pc (an (Int.toNat (a1.domains.length:Int)) (Xs h98))<|pc h99<|pc (an (Int.toNat (a1.domains.length:Int)) (Zz h100))<|pc (XR (e:=4) (n:=(Int.toNat (a1.domains.length:Int))) (l:=l58) (i:=(Int.toNat x92.domain)) true [.y true] (Xs h102) rfl)<|pn)
      ·cases h
     ·obtain⟨h103,h⟩|⟨h103,h⟩:=Z1 h
      ·obtain⟨x104,h105,h⟩:=bo h
       obtain⟨h106,h⟩|⟨h106,h⟩:=Z1 h
       ·obtain⟨x107,h108,h⟩:=bo h
        obtain rfl:=oi h;exact rl [3,6,7,8,9,13,14,15,16] [0,1,2,3,4,5] [.t, .skp, .cut [3,6,7,8,9,13,14,15,16] [0,1,2,3,4,5] .nor [(3, .o 0),(6, .os 1 0),(7, .os 2 0),(8, .os 3 (Int.toNat (a1.domains.length:Int))),(9, .os 4 (Int.toNat (a1.domains.length:Int))),(13, .j v48),(14, .j v52),(15, .os 5 l56.length),(16, .j v59)] [.box 31 (c31 a1) false, .n 4, .n 4, .arr 4 l88 (Int.toNat (a1.domains.length:Int)) false, .arr 4 l58 (Int.toNat (a1.domains.length:Int)) false, .w 294 l56], .row (Vn x92), .row (Vn x94), .row (c4 x97), .f, .row (c4 x104), .row (c4 x107), .obj [] (.arr 4 (List.set l58 (Int.toNat x92.domain) x104) (Int.toNat (a1.domains.length:Int)) false)] (pc (rn l56.length)<|pc h60<|pc (Zb2 h89)<|pc (an l56.length (Zz h91))<|pc (rn l56.length)<|pc (an l56.length (Tj h93))<|pc (an l56.length (Zz h91))<|pc (rn l56.length)<|pc (an l56.length (Tj h95))<|pc (an (Int.toNat (a1.domains.length:Int)) (Zz h96))<|pc (an (Int.toNat (a1.domains.length:Int)) (Xs h98))<|pc h99<|pc (an (Int.toNat (a1.domains.length:Int)) (Zz h103))<|pc (an (Int.toNat (a1.domains.length:Int)) (Xs h105))<|pc (an (Int.toNat (a1.domains.length:Int)) (Zz h106))<|pc (XR (e:=4) (n:=(Int.toNat (a1.domains.length:Int))) (l:=l58) (i:=(Int.toNat x92.domain)) x104 [.y x104] (Xs h108) rfl)<|pn)
       ·cases h
      ·cases h
    ·cases h
   ·cases h
  ·obtain rfl:=oi h;exact rl [3,6,7,8,9,13,14] [0,1,2,3,4] [.f] (pc (rn l56.length)<|pc h60<|pn)
 ·exact Ex.noConfusion

theorem ZfG {a1:Z2} {v48:Int} :Zx Tryz.prog UU 0 174 (Zs (Zt Tryz.f206) [1,1,1,1,0,1,0,0,1,0,0,0,1,0,0]) (fun s:(List Bool)×(List Bool)×Int=>match s with|(l50,l51,v52)=>T3 a1 v48 l50 l51 v52)
  (fun s:(List Bool)×(List Bool)×Int=>(match s with|(l50,l51,v52)=> [(3, .o 0),(6, .os 1 0),(7, .os 2 0),(8, .os 3 (Int.toNat (a1.domains.length:Int))),(9, .os 4 (Int.toNat (a1.domains.length:Int))),(13, .j v48),(14, .j v52)]:Fr DD)) (fun s:(List Bool)×(List Bool)×Int=>(match s with|(l50,l51,v52)=> [.box 31 (c31 a1) false, .n 4, .n 4, .arr 4 l50 (Int.toNat (a1.domains.length:Int)) false, .arr 4 l51 (Int.toNat (a1.domains.length:Int)) false]:Z3 DD)) (fun r=>match r with|(l139,l140)=> .exit 6) (fun r=>match r with|(l139,l140)=> [(3, .o 0),(6, .os 1 0),(7, .os 2 0),(8, .os 3 (Int.toNat (a1.domains.length:Int))),(9, .os 4 (Int.toNat (a1.domains.length:Int))),(13, .j v48)]) (fun r=>match r with|(l139,l140)=> [.box 31 (c31 a1) false, .n 4, .n 4, .arr 4 l139 (Int.toNat (a1.domains.length:Int)) false, .arr 4 l140 (Int.toNat (a1.domains.length:Int)) false]):=by
 refine Zy (fun s q h=> ?_) (fun r=> ?_)
 ·obtain⟨l50,l51,v52⟩:=s;replace h:T3 a1 v48 l50 l51 v52=some q:=h
  unfold T3 at h
  obtain⟨h53,h⟩|⟨h53,h⟩:=Z1 h
  ·obtain⟨l56,h55,h⟩:=bo h
   obtain⟨r126,h125,h⟩:=bo h
   obtain⟨l123,l124⟩:=r126
   obtain rfl:=oi h;exact rl [3,6,7,8,9,13,14] [0,1,2,3,4] [.t, .callo (.os 0 l56.length) [.w 294 l56], .sum [3,6,7,8,9,13,14,15,16] [0,1,2,3,4,5] (.exit 8) [(3, .o 0),(6, .os 1 0),(7, .os 2 0),(8, .os 3 (Int.toNat (a1.domains.length:Int))),(9, .os 4 (Int.toNat (a1.domains.length:Int))),(13, .j v48),(14, .j v52)] [.box 31 (c31 a1) false, .n 4, .n 4, .arr 4 l123 (Int.toNat (a1.domains.length:Int)) false, .arr 4 l124 (Int.toNat (a1.domains.length:Int)) false]] (pc h53<|pc (Zfy h55)<|pc (Zef l56)<|pc (ZfF _ _ h125)<|pn)
  ·obtain rfl:=oi h;exact rl [3,6,7,8,9,13] [0,1,2,3,4] [.f] (pc h53<|pn)
 ·exact Ex.noConfusion

theorem ZfH {a1:Z2} {v48:Int} {l139:List Bool} {v144:Int} {l149:List YF} :Zx Tryz.prog UU 0 174 (Zs (Zt Tryz.f206) [1,1,1,1,0,1,0,0,1,0,0,1,1,0,0,1,0,0,1,1,0,0]) (fun s:(List Bool)×Int=>match s with|(l150,v151)=>T4 a1 v48 l139 v144 l149 l150 v151)
  (fun s:(List Bool)×Int=>(match s with|(l150,v151)=> [(3, .o 0),(6, .os 1 0),(7, .os 2 0),(8, .os 3 (Int.toNat (a1.domains.length:Int))),(9, .os 4 (Int.toNat (a1.domains.length:Int))),(13, .j v48),(17, .j v144),(18, .os 5 l149.length),(19, .j v151)]:Fr DD)) (fun s:(List Bool)×Int=>(match s with|(l150,v151)=> [.box 31 (c31 a1) false, .n 4, .n 4, .arr 4 l139 (Int.toNat (a1.domains.length:Int)) false, .arr 4 l150 (Int.toNat (a1.domains.length:Int)) false, .w 297 l149]:Z3 DD)) (fun r=>match r with|l178=> .exit 12) (fun r=>match r with|l178=> [(3, .o 0),(6, .os 1 0),(7, .os 2 0),(8, .os 3 (Int.toNat (a1.domains.length:Int))),(9, .os 4 (Int.toNat (a1.domains.length:Int))),(13, .j v48),(17, .j v144)]) (fun r=>match r with|l178=> [.box 31 (c31 a1) false, .n 4, .n 4, .arr 4 l139 (Int.toNat (a1.domains.length:Int)) false, .arr 4 l178 (Int.toNat (a1.domains.length:Int)) false]):=by
 refine Zy (fun s q h=> ?_) (fun r=> ?_)
 ·obtain⟨l150,v151⟩:=s;replace h:T4 a1 v48 l139 v144 l149 l150 v151=some q:=h
  unfold T4 at h
  obtain⟨h152,h⟩|⟨h152,h⟩:=Z1 h
  ·obtain⟨h153,h⟩|⟨h153,h⟩:=Z1 h
   ·obtain⟨x154,h155,h⟩:=bo h
    obtain⟨x156,h157,h⟩:=bo h
    obtain⟨h158,h⟩|⟨h158,h⟩:=Z1 h
    ·obtain⟨x159,h160,h⟩:=bo h
     obtain⟨h161,h⟩|⟨h161,h⟩:=Z1 h
     ·obtain⟨h162,h⟩|⟨h162,h⟩:=Z1 h
      ·obtain⟨x163,h164,h⟩:=bo h
       obtain rfl:=oi h;exact rl [3,6,7,8,9,13,17,18,19] [0,1,2,3,4,5] [.t, .row (QQ x154), .row (QQ x156), .row (c4 x159), .t, .row (c4 x163), .obj [] (.arr 4 (List.set l150 (Int.toNat x154.domain) true) (Int.toNat (a1.domains.length:Int)) false)] (pc (rn l149.length)<|pc h152<|pc (an l149.length (Zz h153))<|pc (rn l149.length)<|pc (an l149.length (Z5B h155))<|pc (an l149.length (Zz h153))<|pc (rn l149.length)<|pc (an l149.length (Z5B h157))<|pc (an (Int.toNat (a1.domains.length:Int)) (Zz h158))<|pc (an (Int.toNat (a1.domains.length:Int)) (Xs h160))<|pc h161<|pc (an (Int.toNat (a1.domains.length:Int)) (Zz h162))<|pc (XR (e:=4) (n:=(Int.toNat (a1.domains.length:Int))) (l:=l150) (i:=(Int.toNat x154.domain)) true [.y true] (Xs h164) rfl)<|pn)
      ·cases h
     ·obtain⟨h165,h⟩|⟨h165,h⟩:=Z1 h
      ·obtain⟨x166,h167,h⟩:=bo h
       obtain⟨h168,h⟩|⟨h168,h⟩:=Z1 h
       ·obtain⟨x169,h170,h⟩:=bo h
        obtain rfl:=oi h;exact rl [3,6,7,8,9,13,17,18,19] [0,1,2,3,4,5] [.t, .row (QQ x154), .row (QQ x156), .row (c4 x159), .f, .row (c4 x166), .row (c4 x169), .obj [] (.arr 4 (List.set l150 (Int.toNat x154.domain) x166) (Int.toNat (a1.domains.length:Int)) false)] (pc (rn l149.length)<|pc h152<|pc (an l149.length (Zz h153))<|pc (rn l149.length)<|pc (an l149.length (Z5B h155))<|pc (an l149.length (Zz h153))<|pc (rn l149.length)<|pc (an l149.length (Z5B h157))<|pc (an (Int.toNat (a1.domains.length:Int)) (Zz h158))<|pc (an (Int.toNat (a1.domains.length:Int)) (Xs h160))<|pc h161<|pc (an (Int.toNat (a1.domains.length:Int)) (Zz h165))<|pc (an (Int.toNat (a1.domains.length:Int)) (Xs h167))<|pc (an (Int.toNat (a1.domains.length:Int)) (Zz h168))<|pc (XR (e:=4) (n:=(Int.toNat (a1.domains.length:Int))) (l:=l150) (i:=(Int.toNat x154.domain)) x166 [.y x166] (Xs h170) rfl)<|pn)
       ·cases h
      ·cases h
    ·cases h
   ·cases h
  ·obtain rfl:=oi h;exact rl [3,6,7,8,9,13,17] [0,1,2,3,4] [.f] (pc (rn l149.length)<|pc h152<|pn)
 ·exact Ex.noConfusion

theorem ZfI {a1:Z2} {v48:Int} {l139:List Bool} :Zx Tryz.prog UU 0 174 (Zs (Zt Tryz.f206) [1,1,1,1,0,1,0,0,1,0,0,1,1,0,0]) (fun s:(List Bool)×Int=>match s with|(l143,v144)=>Vj a1 v48 l139 l143 v144)
  (fun s:(List Bool)×Int=>(match s with|(l143,v144)=> [(3, .o 0),(6, .os 1 0),(7, .os 2 0),(8, .os 3 (Int.toNat (a1.domains.length:Int))),(9, .os 4 (Int.toNat (a1.domains.length:Int))),(13, .j v48),(17, .j v144)]:Fr DD)) (fun s:(List Bool)×Int=>(match s with|(l143,v144)=> [.box 31 (c31 a1) false, .n 4, .n 4, .arr 4 l139 (Int.toNat (a1.domains.length:Int)) false, .arr 4 l143 (Int.toNat (a1.domains.length:Int)) false]:Z3 DD)) (fun r=>match r with|l187=> .exit 10) (fun r=>match r with|l187=> [(3, .o 0),(6, .os 1 0),(7, .os 2 0),(8, .os 3 (Int.toNat (a1.domains.length:Int))),(9, .os 4 (Int.toNat (a1.domains.length:Int))),(13, .j v48)]) (fun r=>match r with|l187=> [.box 31 (c31 a1) false, .n 4, .n 4, .arr 4 l139 (Int.toNat (a1.domains.length:Int)) false, .arr 4 l187 (Int.toNat (a1.domains.length:Int)) false]):=by
 refine Zy (fun s q h=> ?_) (fun r=> ?_)
 ·obtain⟨l143,v144⟩:=s;replace h:Vj a1 v48 l139 l143 v144=some q:=h
  unfold Vj at h
  obtain⟨h145,h⟩|⟨h145,h⟩:=Z1 h
  ·obtain⟨h146,h⟩|⟨h146,h⟩:=Z1 h
   ·obtain⟨l149,h148,h⟩:=bo h
    obtain⟨l178,h179,h⟩:=bo h
    obtain rfl:=oi h;exact rl [3,6,7,8,9,13,17] [0,1,2,3,4] [.t, .t, .callo (.os 0 l149.length) [.w 297 l149], .sum [3,6,7,8,9,13,17,18,19] [0,1,2,3,4,5] (.exit 12) [(3, .o 0),(6, .os 1 0),(7, .os 2 0),(8, .os 3 (Int.toNat (a1.domains.length:Int))),(9, .os 4 (Int.toNat (a1.domains.length:Int))),(13, .j v48),(17, .j v144)] [.box 31 (c31 a1) false, .n 4, .n 4, .arr 4 l139 (Int.toNat (a1.domains.length:Int)) false, .arr 4 l178 (Int.toNat (a1.domains.length:Int)) false]] (pc h145<|pc h146<|pc (ZfC h148)<|pc (Zeg l149)<|pc (ZfH _ _ h179)<|pn)
   ·obtain rfl:=oi h;exact rl [3,6,7,8,9,13] [0,1,2,3,4] [.t, .f] (pc h145<|pc h146<|pn)
  ·obtain rfl:=oi h;exact rl [3,6,7,8,9,13] [0,1,2,3,4] [.f] (pc h145<|pn)
 ·exact Ex.noConfusion

theorem ZfJ {a1:Z2} :Zx Tryz.prog UU 0 174 (Zs (Zt Tryz.f206) [1,1,1,1,0,1,0,0]) (fun s:(List Bool)×(List Bool)×Int=>match s with|(l46,l47,v48)=>T5 a1 l46 l47 v48)
  (fun s:(List Bool)×(List Bool)×Int=>(match s with|(l46,l47,v48)=> [(3, .o 0),(6, .os 1 0),(7, .os 2 0),(8, .os 3 (Int.toNat (a1.domains.length:Int))),(9, .os 4 (Int.toNat (a1.domains.length:Int))),(13, .j v48)]:Fr DD)) (fun s:(List Bool)×(List Bool)×Int=>(match s with|(l46,l47,v48)=> [.box 31 (c31 a1) false, .n 4, .n 4, .arr 4 l46 (Int.toNat (a1.domains.length:Int)) false, .arr 4 l47 (Int.toNat (a1.domains.length:Int)) false]:Z3 DD)) (fun r=>match r with|(l198,l199)=> .exit 4) (fun r=>match r with|(l198,l199)=> [(6, .os 0 0),(7, .os 1 0),(8, .os 2 (Int.toNat (a1.domains.length:Int))),(9, .os 3 (Int.toNat (a1.domains.length:Int)))]) (fun r=>match r with|(l198,l199)=> [.n 4, .n 4, .arr 4 l198 (Int.toNat (a1.domains.length:Int)) false, .arr 4 l199 (Int.toNat (a1.domains.length:Int)) false]):=by
 refine Zy (fun s q h=> ?_) (fun r=> ?_)
 ·obtain⟨l46,l47,v48⟩:=s;replace h:T5 a1 l46 l47 v48=some q:=h
  unfold T5 at h
  obtain⟨h49,h⟩|⟨h49,h⟩:=Z1 h
  ·obtain⟨r142,h141,h⟩:=bo h
   obtain⟨l139,l140⟩:=r142
   obtain⟨l187,h188,h⟩:=bo h
   obtain rfl:=oi h;exact rl [3,6,7,8,9,13] [0,1,2,3,4] [.t, .sum [3,6,7,8,9,13,14] [0,1,2,3,4] (.exit 6) [(3, .o 0),(6, .os 1 0),(7, .os 2 0),(8, .os 3 (Int.toNat (a1.domains.length:Int))),(9, .os 4 (Int.toNat (a1.domains.length:Int))),(13, .j v48)] [.box 31 (c31 a1) false, .n 4, .n 4, .arr 4 l139 (Int.toNat (a1.domains.length:Int)) false, .arr 4 l140 (Int.toNat (a1.domains.length:Int)) false], .sum [3,6,7,8,9,13,17] [0,1,2,3,4] (.exit 10) [(3, .o 0),(6, .os 1 0),(7, .os 2 0),(8, .os 3 (Int.toNat (a1.domains.length:Int))),(9, .os 4 (Int.toNat (a1.domains.length:Int))),(13, .j v48)] [.box 31 (c31 a1) false, .n 4, .n 4, .arr 4 l139 (Int.toNat (a1.domains.length:Int)) false, .arr 4 l187 (Int.toNat (a1.domains.length:Int)) false]] (pc h49<|pc (ZfG _ _ h141)<|pc (ZfI _ _ h188)<|pn)
  ·obtain rfl:=oi h;exact rl [6,7,8,9] [1,2,3,4] [.f] (pc h49<|pn)
 ·exact Ex.noConfusion

theorem ZfK {a1:Z2} {a2:List Int} {a3:Int} {r:((List Bool)×(List Bool))} (h:Z3t a1 a2 a3=some r):
  Z7 Tryz.prog UU 206 [.agg (c31 a1), .sl 3 a2, .j a3] [] ((fun r=>match r with|(l202,l203)=> .tup [.os 0 (Int.toNat (a1.domains.length:Int)), .os 1 (Int.toNat (a1.domains.length:Int))]) r) ((fun r=>match r with|(l202,l203)=> [.arr 4 l202 (Int.toNat (a1.domains.length:Int)) false, .arr 4 l203 (Int.toNat (a1.domains.length:Int)) false]) r):=by
 unfold Z3t at h
 obtain⟨h4,h⟩|⟨h4,h⟩:=Z1 h
 ·obtain⟨l43,h44,h⟩:=bo h
  obtain⟨r201,h200,h⟩:=bo h
  obtain⟨l198,l199⟩:=r201
  obtain rfl:=oi h;exact rf Tryz.func206 (some [2,3]) [.obj [] (.arr 4 (List.replicate (Int.toNat (a1.domains.length:Int)) false) (Int.toNat (a1.domains.length:Int)) false), .obj [] (.arr 4 (List.replicate (Int.toNat (a1.domains.length:Int)) false) (Int.toNat (a1.domains.length:Int)) false), .sum [1,2,3,6,7,8,9,10] [0,1,2,3,4] (.exit 0) [(3, .o 0),(6, .os 1 0),(7, .os 2 0),(8, .os 3 (Int.toNat (a1.domains.length:Int))),(9, .os 4 (Int.toNat (a1.domains.length:Int)))] [.box 31 (c31 a1) false, .n 4, .n 4, .arr 4 l43 (Int.toNat (a1.domains.length:Int)) false, .arr 4 (List.replicate (Int.toNat (a1.domains.length:Int)) false) (Int.toNat (a1.domains.length:Int)) false], .sum [3,6,7,8,9,13] [0,1,2,3,4] (.exit 4) [(6, .os 0 0),(7, .os 1 0),(8, .os 2 (Int.toNat (a1.domains.length:Int))),(9, .os 3 (Int.toNat (a1.domains.length:Int)))] [.n 4, .n 4, .arr 4 l198 (Int.toNat (a1.domains.length:Int)) false, .arr 4 l199 (Int.toNat (a1.domains.length:Int)) false]] (pc (Tk 4 false h4)<|pc (rn (Int.toNat (a1.domains.length:Int)))<|pc (Tk 4 false h4)<|pc (rn (Int.toNat (a1.domains.length:Int)))<|pc (ZfE _ _ h44)<|pc (ZfJ _ _ h200)<|pn)
 ·cases h

theorem Z3Q {r:(Unit)} (h:Vk=some r):
  Z7 Tryz.prog UU 160 [] [] ((fun r=>match r with|_=> .os 0 (List.length [(1:Int),(2:Int),(4:Int),(8:Int),(16:Int),(32:Int),(64:Int),(128:Int),(256:Int),(512:Int)])) r) ((fun r=>match r with|_=> [.w 3 [(1:Int),(2:Int),(4:Int),(8:Int),(16:Int),(32:Int),(64:Int),(128:Int),(256:Int),(512:Int)]]) r):=by
 unfold Vk at h
 obtain rfl:=oi h;exact rf Tryz.func160 (some [1]) [.obj [] (.w 3 [(1:Int),(2:Int),(4:Int),(8:Int),(16:Int),(32:Int),(64:Int),(128:Int),(256:Int),(512:Int)])] (pc (Yk 3 [(1:Int),(2:Int),(4:Int),(8:Int),(16:Int),(32:Int),(64:Int),(128:Int),(256:Int),(512:Int)])<|pn)

theorem Zb3 {a1:Z2} {a2:List Int} {v8:Int} {l16:List Bool} {l17:List Bool} {l18:List Y1} {v19:Int} {r:(List Y1)} (h:Z3u a1 a2 v8 l16 l17 l18 v19=some r):
  YE Tryz.prog UU 0 78 (Zs (Zt Tryz.f157) [1,1,1,0,1,0,0,1,0,0,1,1,1,0,0,1,0,0,0]) [(1, .sl 3 a2),(2, .o 0),(4, .os 1 0),(5, .y false),(6, .os 2 (Int.toNat (a1.domains.length:Int))),(7, .j v8),(8, .os 3 (Int.toNat (a1.domains.length:Int))),(9, .os 4 (Int.toNat (a1.domains.length:Int))),(10, .j v19)] [.box 31 (c31 a1) false, .n 221, .arr 221 l18 (Int.toNat (a1.domains.length:Int)) false, .arr 4 l16 (Int.toNat (a1.domains.length:Int)) false, .arr 4 l17 (Int.toNat (a1.domains.length:Int)) false] ((fun r=>match r with|l44=> .nor) r) ((fun r=>match r with|l44=> [(1, .sl 3 a2),(2, .o 0),(4, .os 1 0),(5, .y false),(6, .os 2 (Int.toNat (a1.domains.length:Int))),(7, .j v8),(8, .os 3 (Int.toNat (a1.domains.length:Int))),(9, .os 4 (Int.toNat (a1.domains.length:Int))),(10, .j v19)]) r) ((fun r=>match r with|l44=> [.box 31 (c31 a1) false, .n 221, .arr 221 l44 (Int.toNat (a1.domains.length:Int)) false, .arr 4 l16 (Int.toNat (a1.domains.length:Int)) false, .arr 4 l17 (Int.toNat (a1.domains.length:Int)) false]) r):=by
 unfold Z3u at h
 obtain⟨h21,h⟩|⟨h21,h⟩:=Z1 h
 ·obtain⟨x22,h23,h⟩:=bo h
  obtain⟨h24,h⟩|⟨h24,h⟩:=Z1 h
  ·obtain⟨h25,h⟩|⟨h25,h⟩:=Z1 h
   ·obtain⟨x26,h27,h⟩:=bo h
    obtain⟨r28,h29,h⟩:=bo h
    obtain⟨h30,h⟩|⟨h30,h⟩:=Z1 h
    ·obtain⟨x31,h32,h⟩:=bo h
     obtain⟨x33,h34,h⟩:=bo h
     obtain rfl:=oi h;exact rl [1,2,4,5,6,7,8,9,10] [0,1,2,3,4] [.row (c4 x22), .t, .sum [7] [] .nor [] [.box 31 (c31 a1) false, .n 221, .arr 221 l18 (Int.toNat (a1.domains.length:Int)) false, .arr 4 l16 (Int.toNat (a1.domains.length:Int)) false, .arr 4 l17 (Int.toNat (a1.domains.length:Int)) false, .w 3 [(1:Int),(2:Int),(4:Int),(8:Int),(16:Int),(32:Int),(64:Int),(128:Int),(256:Int),(512:Int)]], .row (WD x26), .callo (.os 0 (List.length [(1:Int),(2:Int),(4:Int),(8:Int),(16:Int),(32:Int),(64:Int),(128:Int),(256:Int),(512:Int)])) [.w 3 [(1:Int),(2:Int),(4:Int),(8:Int),(16:Int),(32:Int),(64:Int),(128:Int),(256:Int),(512:Int)]], .row (c3 x31), .row (WD x33), .obj [] (.arr 221 (List.set l18 v19.toNat (⟨Z4 (x26.plain+x31),x33.led⟩:Y1)) (Int.toNat (a1.domains.length:Int)) false)] (pc (an (Int.toNat (a1.domains.length:Int)) (Zz h21))<|pc (an (Int.toNat (a1.domains.length:Int)) (Xs h23))<|pc h24<|pc (rr (.os 2 (Int.toNat (a1.domains.length:Int))))<|pc (rr (.j v19))<|pc (rr (.os 2 (Int.toNat (a1.domains.length:Int))))<|pc (rr (.j v19))<|pd (an (Int.toNat (a1.domains.length:Int)) (Zz h25))<|pc (rr (.op 2 (Int.toNat (a1.domains.length:Int)) v19.toNat 0))<|pd (rn (Int.toNat (a1.domains.length:Int)))<|pc (rr (.op 2 (Int.toNat (a1.domains.length:Int)) v19.toNat 0))<|pd (an (Int.toNat (a1.domains.length:Int)) (Vo h27))<|pc (rr (.j x26.plain))<|pc (rh [.box 31 (c31 a1) false, .n 221, .arr 221 l18 (Int.toNat (a1.domains.length:Int)) false, .arr 4 l16 (Int.toNat (a1.domains.length:Int)) false, .arr 4 l17 (Int.toNat (a1.domains.length:Int)) false, .w 3 [(1:Int),(2:Int),(4:Int),(8:Int),(16:Int),(32:Int),(64:Int),(128:Int),(256:Int),(512:Int)]])<|pc (Z3Q h29)<|pc (im3 [(1:Int),(2:Int),(4:Int),(8:Int),(16:Int),(32:Int),(64:Int),(128:Int),(256:Int),(512:Int)])<|pc (rr (.j v8))<|pc (an (List.length [(1:Int),(2:Int),(4:Int),(8:Int),(16:Int),(32:Int),(64:Int),(128:Int),(256:Int),(512:Int)]) (Zz h30))<|pc (an (List.length [(1:Int),(2:Int),(4:Int),(8:Int),(16:Int),(32:Int),(64:Int),(128:Int),(256:Int),(512:Int)]) (YV h32))<|pc (an (Int.toNat (a1.domains.length:Int)) (Zz h25))<|pc (rn (Int.toNat (a1.domains.length:Int)))<|pc (XR (e:=221) (n:=(Int.toNat (a1.domains.length:Int))) (l:=l18) (i:=v19.toNat) (⟨Z4 (x26.plain+x31),x33.led⟩:Y1) [.j (Z4 (x26.plain+x31)), .j x33.led] (Vo h34) rfl)<|pn)
    ·cases h
   ·cases h
  ·obtain rfl:=oi h;exact rl [1,2,4,5,6,7,8,9,10] [0,1,2,3,4] [.row (c4 x22), .f] (pc (an (Int.toNat (a1.domains.length:Int)) (Zz h21))<|pc (an (Int.toNat (a1.domains.length:Int)) (Xs h23))<|pc h24<|pn)
 ·cases h

theorem ZfL {a1:Z2} {a2:List Int} {v8:Int} {l16:List Bool} {l17:List Bool} :Zx Tryz.prog UU 0 78 (Zs (Zt Tryz.f157) [1,1,1,0,1,0,0,1,0,0,1,1,1,0,0]) (fun s:(List Y1)×Int=>match s with|(l18,v19)=>T6 a1 a2 v8 l16 l17 l18 v19)
  (fun s:(List Y1)×Int=>(match s with|(l18,v19)=> [(1, .sl 3 a2),(2, .o 0),(4, .os 1 0),(5, .y false),(6, .os 2 (Int.toNat (a1.domains.length:Int))),(7, .j v8),(8, .os 3 (Int.toNat (a1.domains.length:Int))),(9, .os 4 (Int.toNat (a1.domains.length:Int))),(10, .j v19)]:Fr DD)) (fun s:(List Y1)×Int=>(match s with|(l18,v19)=> [.box 31 (c31 a1) false, .n 221, .arr 221 l18 (Int.toNat (a1.domains.length:Int)) false, .arr 4 l16 (Int.toNat (a1.domains.length:Int)) false, .arr 4 l17 (Int.toNat (a1.domains.length:Int)) false]:Z3 DD)) (fun r=>match r with|l67=> .exit 2) (fun r=>match r with|l67=> [(1, .sl 3 a2),(2, .o 0),(4, .os 1 0),(5, .y false),(6, .os 2 (Int.toNat (a1.domains.length:Int))),(7, .j v8)]) (fun r=>match r with|l67=> [.box 31 (c31 a1) false, .n 221, .arr 221 l67 (Int.toNat (a1.domains.length:Int)) false]):=by
 refine Zy (fun s q h=> ?_) (fun r=> ?_)
 ·obtain⟨l18,v19⟩:=s;replace h:T6 a1 a2 v8 l16 l17 l18 v19=some q:=h
  unfold T6 at h
  obtain⟨h20,h⟩|⟨h20,h⟩:=Z1 h
  ·obtain⟨l44,h45,h⟩:=bo h
   obtain⟨h47,h⟩|⟨h47,h⟩:=Z1 h
   ·obtain⟨x48,h49,h⟩:=bo h
    obtain⟨h50,h⟩|⟨h50,h⟩:=Z1 h
    ·obtain⟨h51,h⟩|⟨h51,h⟩:=Z1 h
     ·obtain⟨x52,h53,h⟩:=bo h
      obtain⟨r54,h55,h⟩:=bo h
      obtain⟨h56,h⟩|⟨h56,h⟩:=Z1 h
      ·obtain⟨x57,h58,h⟩:=bo h
       obtain⟨x59,h60,h⟩:=bo h
       obtain rfl:=oi h;exact rl [1,2,4,5,6,7,8,9,10] [0,1,2,3,4] [.t, .skp, .cut [1,2,4,5,6,7,8,9,10] [0,1,2,3,4] .nor [(1, .sl 3 a2),(2, .o 0),(4, .os 1 0),(5, .y false),(6, .os 2 (Int.toNat (a1.domains.length:Int))),(7, .j v8),(8, .os 3 (Int.toNat (a1.domains.length:Int))),(9, .os 4 (Int.toNat (a1.domains.length:Int))),(10, .j v19)] [.box 31 (c31 a1) false, .n 221, .arr 221 l44 (Int.toNat (a1.domains.length:Int)) false, .arr 4 l16 (Int.toNat (a1.domains.length:Int)) false, .arr 4 l17 (Int.toNat (a1.domains.length:Int)) false], .row (c4 x48), .t, .sum [7] [] .nor [] [.box 31 (c31 a1) false, .n 221, .arr 221 l44 (Int.toNat (a1.domains.length:Int)) false, .arr 4 l16 (Int.toNat (a1.domains.length:Int)) false, .arr 4 l17 (Int.toNat (a1.domains.length:Int)) false, .w 3 [(1:Int),(2:Int),(4:Int),(8:Int),(16:Int),(32:Int),(64:Int),(128:Int),(256:Int),(512:Int)]], .row (WD x52), .callo (.os 0 (List.length [(1:Int),(2:Int),(4:Int),(8:Int),(16:Int),(32:Int),(64:Int),(128:Int),(256:Int),(512:Int)])) [.w 3 [(1:Int),(2:Int),(4:Int),(8:Int),(16:Int),(32:Int),(64:Int),(128:Int),(256:Int),(512:Int)]], .row (c3 x57), .row (WD x59), .obj [] (.arr 221 (List.set l44 v19.toNat (⟨x59.plain,Z4 (x52.led+x57)⟩:Y1)) (Int.toNat (a1.domains.length:Int)) false)] (pc (rn (Int.toNat (a1.domains.length:Int)))<|pc h20<|pc (Zb3 h45)<|pc (an (Int.toNat (a1.domains.length:Int)) (Zz h47))<|pc (an (Int.toNat (a1.domains.length:Int)) (Xs h49))<|pc h50<|pc (rr (.os 2 (Int.toNat (a1.domains.length:Int))))<|pc (rr (.j v19))<|pc (rr (.os 2 (Int.toNat (a1.domains.length:Int))))<|pc (rr (.j v19))<|pd (an (Int.toNat (a1.domains.length:Int)) (Zz h51))<|pc (rr (.op 2 (Int.toNat (a1.domains.length:Int)) v19.toNat 0))<|pd (rn (Int.toNat (a1.domains.length:Int)))<|pc (rr (.op 2 (Int.toNat (a1.domains.length:Int)) v19.toNat 1))<|pd (an (Int.toNat (a1.domains.length:Int)) (Vo h53))<|pc (rr (.j x52.led))<|pc (rh [.box 31 (c31 a1) false, .n 221, .arr 221 l44 (Int.toNat (a1.domains.length:Int)) false, .arr 4 l16 (Int.toNat (a1.domains.length:Int)) false, .arr 4 l17 (Int.toNat (a1.domains.length:Int)) false, .w 3 [(1:Int),(2:Int),(4:Int),(8:Int),(16:Int),(32:Int),(64:Int),(128:Int),(256:Int),(512:Int)]])<|pc (Z3Q h55)<|pc (im3 [(1:Int),(2:Int),(4:Int),(8:Int),(16:Int),(32:Int),(64:Int),(128:Int),(256:Int),(512:Int)])<|pc (rr (.j v8))<|pc (an (List.length [(1:Int),(2:Int),(4:Int),(8:Int),(16:Int),(32:Int),(64:Int),(128:Int),(256:Int),(512:Int)]) (Zz h56))<|pc (an (List.length [(1:Int),(2:Int),(4:Int),(8:Int),(16:Int),(32:Int),(64:Int),(128:Int),(256:Int),(512:Int)]) (YV h58))<|pc (an (Int.toNat (a1.domains.length:Int)) (Zz h51))<|pc (rn (Int.toNat (a1.domains.length:Int)))<|pc (XR (e:=221) (n:=(Int.toNat (a1.domains.length:Int))) (l:=l44) (i:=v19.toNat) (⟨x59.plain,Z4 (x52.led+x57)⟩:Y1) [.j x59.plain, .j (Z4 (x52.led+x57))] (Vo h60) rfl)<|pn)
      ·cases h
     ·cases h
    ·obtain rfl:=oi h;exact rl [1,2,4,5,6,7,8,9,10] [0,1,2,3,4] [.t, .skp, .cut [1,2,4,5,6,7,8,9,10] [0,1,2,3,4] .nor [(1, .sl 3 a2),(2, .o 0),(4, .os 1 0),(5, .y false),(6, .os 2 (Int.toNat (a1.domains.length:Int))),(7, .j v8),(8, .os 3 (Int.toNat (a1.domains.length:Int))),(9, .os 4 (Int.toNat (a1.domains.length:Int))),(10, .j v19)] [.box 31 (c31 a1) false, .n 221, .arr 221 l44 (Int.toNat (a1.domains.length:Int)) false, .arr 4 l16 (Int.toNat (a1.domains.length:Int)) false, .arr 4 l17 (Int.toNat (a1.domains.length:Int)) false], .row (c4 x48), .f] (pc (rn (Int.toNat (a1.domains.length:Int)))<|pc h20<|pc (Zb3 h45)<|pc (an (Int.toNat (a1.domains.length:Int)) (Zz h47))<|pc (an (Int.toNat (a1.domains.length:Int)) (Xs h49))<|pc h50<|pn)
   ·cases h
  ·obtain rfl:=oi h;exact rl [1,2,4,5,6,7] [0,1,2] [.f] (pc (rn (Int.toNat (a1.domains.length:Int)))<|pc h20<|pn)
 ·exact Ex.noConfusion

theorem ZfM {a1:Z2} {a2:List Int} :Zx Tryz.prog UU 0 78 (Zs (Zt Tryz.f157) [1,1,1,0,1,0,0]) (fun s:(List Y1)×Int=>match s with|(l7,v8)=>T7 a1 a2 l7 v8)
  (fun s:(List Y1)×Int=>(match s with|(l7,v8)=> [(1, .sl 3 a2),(2, .o 0),(4, .os 1 0),(5, .y false),(6, .os 2 (Int.toNat (a1.domains.length:Int))),(7, .j v8)]:Fr DD)) (fun s:(List Y1)×Int=>(match s with|(l7,v8)=> [.box 31 (c31 a1) false, .n 221, .arr 221 l7 (Int.toNat (a1.domains.length:Int)) false]:Z3 DD)) (fun r=>match r with|l73=> .exit 0) (fun r=>match r with|l73=> [(4, .os 0 0),(5, .y false),(6, .os 1 (Int.toNat (a1.domains.length:Int)))]) (fun r=>match r with|l73=> [.n 221, .arr 221 l73 (Int.toNat (a1.domains.length:Int)) false]):=by
 refine Zy (fun s q h=> ?_) (fun r=> ?_)
 ·obtain⟨l7,v8⟩:=s;replace h:T7 a1 a2 l7 v8=some q:=h
  unfold T7 at h
  obtain⟨h9,h⟩|⟨h9,h⟩:=Z1 h
  ·obtain⟨l12,h11,h⟩:=bo h
   obtain⟨h13,h⟩|⟨h13,h⟩:=Z1 h
   ·obtain rfl:=oi h;exact rl [1,2,4,5,6,7] [0,1,2] [.t, .callo (.os 0 l12.length) [.w 3 l12], .t] (pc h9<|pc (ZaR h11)<|pc (im3 l12)<|pc (rn l12.length)<|pc h13<|pn)
   ·obtain⟨r14,h15,h⟩:=bo h
    obtain⟨l16,l17⟩:=r14
    obtain⟨l67,h68,h⟩:=bo h
    obtain rfl:=oi h;exact rl [1,2,4,5,6,7] [0,1,2] [.t, .callo (.os 0 l12.length) [.w 3 l12], .f, .callo (.tup [.os 0 (Int.toNat (a1.domains.length:Int)), .os 1 (Int.toNat (a1.domains.length:Int))]) [.arr 4 l16 (Int.toNat (a1.domains.length:Int)) false, .arr 4 l17 (Int.toNat (a1.domains.length:Int)) false], .sum [1,2,4,5,6,7,8,9,10] [0,1,2,4,5] (.exit 2) [(1, .sl 3 a2),(2, .o 0),(4, .os 1 0),(5, .y false),(6, .os 2 (Int.toNat (a1.domains.length:Int))),(7, .j v8)] [.box 31 (c31 a1) false, .n 221, .arr 221 l67 (Int.toNat (a1.domains.length:Int)) false]] (pc h9<|pc (ZaR h11)<|pc (im3 l12)<|pc (rn l12.length)<|pc h13<|pc (ZfK h15)<|pc (im4 l16)<|pc (im4 l17)<|pc (ZfL _ _ h68)<|pn)
  ·obtain rfl:=oi h;exact rl [4,5,6] [1,2] [.f] (pc h9<|pn)
 ·exact Ex.noConfusion

theorem Z7X {a1:Z2} {a2:List Int} {r:((List Y1)×Nat×Bool)} (h:T8 a1 a2=some r):
  Z7 Tryz.prog UU 157 [.agg (c31 a1), .sl 3 a2] [] ((fun r=>match r with|(l76,n77,v78)=> .tup [.os 0 n77, .y v78]) r) ((fun r=>match r with|(l76,n77,v78)=> [.arr 221 l76 n77 false]) r):=by
 unfold T8 at h
 obtain⟨r3,h4,h⟩:=bo h
 obtain⟨h5,h⟩|⟨h5,h⟩:=Z1 h
 ·obtain rfl:=oi h;exact rf Tryz.func157 (some [2]) [.b r3, .t] (pc (Vq h4)<|pc h5<|pn)
 ·obtain⟨h6,h⟩|⟨h6,h⟩:=Z1 h
  ·obtain⟨l73,h74,h⟩:=bo h
   obtain rfl:=oi h;exact rf Tryz.func157 (some [1]) [.b r3, .f, .obj [] (.arr 221 (List.replicate (Int.toNat (a1.domains.length:Int)) (⟨0,0⟩:Y1)) (Int.toNat (a1.domains.length:Int)) false), .sum [1,2,4,5,6,7] [0,1,2] (.exit 0) [(4, .os 0 0),(5, .y false),(6, .os 1 (Int.toNat (a1.domains.length:Int)))] [.n 221, .arr 221 l73 (Int.toNat (a1.domains.length:Int)) false]] (pc (Vq h4)<|pc h5<|pc (Tk 221 (⟨0,0⟩:Y1) h6)<|pc (rn (Int.toNat (a1.domains.length:Int)))<|pc (ZfM _ _ h74)<|pn)
  ·cases h

end Go.Eng
