/- Part of the proof of MatrixTells: printed mirrors of the functions, or their contracts. No conditions. -/
import Derived.Test.YtcclngfmkodgjaaGreatMAK1
set_option linter.unusedVariables false
set_option maxRecDepth 100000
namespace Go.Eng
open Go Go.Proofs
theorem Zae {a1:List ZF} {a2:Int} {a3:Int} :Zx Tryz.prog UU 0 19 (Zs (Zt Tryz.f144) [1,0,1,0,0]) (ρ:=Int⊕Unit) (Z0R a1 a2 a3)
  (fun v4:Int=>([(0, .sl 90 a1),(1, .fn (.func 118) [] [.rp (c3 a2) 0, .rp (c3 a3) 0]),(4, .z),(7, .j (a1.length:Int)),(8, .j v4)]:Fr DD)) (fun v4:Int=>([]:Z3 DD)) (fun r=>match r with|Sum.inl v12=> .ret|Sum.inr _=> .exit 0) (fun r=>match r with|Sum.inl v12=> [(4, .j v12)]|Sum.inr _=> [(4, .z)]) (fun r=>match r with|Sum.inl v12=> []|Sum.inr _=> []):=by
 refine Zy (fun s q h=> ?_) (fun r=> ?_)
 ·replace h:Z0R a1 a2 a3 s=some q:=h;revert h;revert s;intro v4 h
  unfold Z0R at h
  obtain⟨h5,h⟩|⟨h5,h⟩:=Z1 h
  ·obtain⟨x6,h7,h⟩:=bo h
   obtain⟨r8,h9,h⟩:=bo h
   obtain⟨h10,h⟩|⟨h10,h⟩:=Z1 h
   ·obtain rfl:=oi h;exact rl [4] [] [.t, .row (c90 x6), .b r8, .t] (pc h5<|pc (ZI h7)<|pc (Zad h9)<|pc h10<|pn)
   ·obtain rfl:=oi h;exact rl [0,1,4,7,8] [] [.t, .row (c90 x6), .b r8, .f] (pc h5<|pc (ZI h7)<|pc (Zad h9)<|pc h10<|pn)
  ·obtain rfl:=oi h;exact rl [4] [] [.f] (pc h5<|pn)
 ·rcases r with _|_ <;> exact Ex.noConfusion

theorem Zev {a1:List ZF} {a2:Int} {a3:Int} {r:Int} (h:Z56 a1 a2 a3=some r):
  Z7 Tryz.prog UU 144 [.sl 90 a1, .fn (.func 118) [] [.rp (c3 a2) 0, .rp (c3 a3) 0]] [] (.j r) []:=by
 unfold Z56 at h
 obtain⟨r14,h13,h⟩:=bo h
 rcases r14 with v12|_
 ·obtain rfl:=oi h;exact rf Tryz.func144 none [.sum [0,1,4,7,8] [] .ret [(4, .j v12)] []] (pc (Zae _ _ h13)<|pn)
 ·obtain rfl:=oi h;exact rf Tryz.func144 none [.sum [0,1,4,7,8] [] (.exit 0) [(4, .z)] []] (pc (Zae _ _ h13)<|pn)

theorem Zew {a1:Z2} {a2:List ZF} {a3:Int} {a4:Int} {r:Int} (h:Z57 a1 a2 a3 a4=some r):
  Z7 Tryz.prog UU 117 [.agg (c31 a1), .sl 90 a2, .fn (.func 118) [] [.rp (c3 a3) 0, .rp (c3 a4) 0]] [] (.j r) []:=by
 unfold Z57 at h
 obtain⟨r5,h6,h⟩:=bo h
 obtain⟨h7,h⟩|⟨h7,h⟩:=Z1 h
 ·obtain rfl:=oi h;exact rf Tryz.func117 none [.b r5, .t] (pc (Xi h6)<|pc h7<|pn)
 ·obtain⟨r8,h9,h⟩:=bo h
  obtain rfl:=oi h;exact rf Tryz.func117 none [.b r5, .f, .callv (.j r8)] (pc (Xi h6)<|pc h7<|pc (Zev h9)<|pn)

theorem Zex {a1:Z2} {a2:Int} {a3:Int} {r:Int} (h:Z2L a1 a2 a3=some r):
  Z7 Tryz.prog UU 49 [.agg (c31 a1), .j a2, .j a3] [] (.j r) []:=by
 unfold Z2L at h
 obtain⟨r4,h5,h⟩:=bo h
 obtain rfl:=oi h;exact rf Tryz.func49 none [.callv (.j r4)] (pc (Zew h5)<|pn)

theorem Zaf {a1:Z2} {a2:Int} {a3:Int} {r:Int×Bool} (h:Z0S a1 a2 a3=some r):
  Z7 Tryz.prog UU 213 [.agg (c31 a1), .j a2, .j a3] [] (.tup [.j r.1, .y r.2]) []:=by
 unfold Z0S at h
 obtain⟨r4,h5,h⟩:=bo h
 obtain⟨h6,h⟩|⟨h6,h⟩:=Z1 h
 ·obtain rfl:=oi h;exact rf Tryz.func213 none [.callv (.tup [.j r4.1, .j r4.2.1, .y r4.2.2]), .t] (pc (Zac h5)<|pc h6<|pn)
 ·obtain⟨x7,h8,h⟩:=bo h
  obtain⟨r9,h10,h⟩:=bo h
  obtain rfl:=oi h;exact rf Tryz.func213 none [.callv (.tup [.j r4.1, .j r4.2.1, .y r4.2.2]), .f, .row (Za x7), .callv (.j r9)] (pc (Zac h5)<|pc h6<|pc (ZA h8)<|pc (Zex h10)<|pn)

theorem Zey {a1:Z2} {a2:Int} {l8:List Int} :Zx Tryz.prog UU 0 62 (Zs (Zt Tryz.f176) [1,1,1,0,1,0,0]) (fun s:(List Y7)×Int=>match s with|(l9,v10)=>Q5 a1 a2 l8 l9 v10)
  (fun s:(List Y7)×Int=>(match s with|(l9,v10)=> [(1, .j a2),(2, .o 0),(4, .os 1 0),(5, .os 2 l9.length),(18, .os 3 l8.length),(19, .j (l8.length:Int)),(20, .j v10)]:Fr DD)) (fun s:(List Y7)×Int=>(match s with|(l9,v10)=> [.box 31 (c31 a1) false, .n 161, .w 161 l9, .w 3 l8]:Z3 DD)) (fun r=>match r with|l25=> .exit 0) (fun r=>match r with|l25=> [(1, .j a2),(2, .o 0),(4, .os 1 0),(5, .os 2 l25.length)]) (fun r=>match r with|l25=> [.box 31 (c31 a1) false, .n 161, .w 161 l25]):=by
 refine Zy (fun s q h=> ?_) (fun r=> ?_)
 ·obtain⟨l9,v10⟩:=s;replace h:Q5 a1 a2 l8 l9 v10=some q:=h
  unfold Q5 at h
  obtain⟨h11,h⟩|⟨h11,h⟩:=Z1 h
  ·obtain⟨h12,h⟩|⟨h12,h⟩:=Z1 h
   ·obtain⟨x13,h14,h⟩:=bo h
    obtain⟨x15,h16,h⟩:=bo h
    obtain⟨r17,h18,h⟩:=bo h
    obtain⟨h19,h⟩|⟨h19,h⟩:=Z1 h
    ·obtain⟨h20,h⟩|⟨h20,h⟩:=Z1 h
     ·obtain rfl:=oi h;exact rl [1,2,4,5,18,19,20] [0,1,2,3] [.t, .row (c3 x13), .row (c90 x15), .callv (.tup [.j r17.1, .y r17.2]), .t, .obj [] (.w 161 [(⟨1,x13,r17.1,0⟩:Y7)]), .obj [] (.w 161 (l9++ [(⟨1,x13,r17.1,0⟩:Y7)]))] (pc h11<|pc (an l8.length (Zz h12))<|pc (an l8.length (YV h14))<|pc (ZI h16)<|pc (Zaf h18)<|pc h19<|pc (Yk 161 [(⟨1,x13,r17.1,0⟩:Y7)])<|pc (YR 161 (n:=l9.length) (l:=l9) (xs:= [(⟨1,x13,r17.1,0⟩:Y7)]) h20)<|pc (rn (List.length [(⟨1,x13,r17.1,0⟩:Y7)]))<|pn)
     ·cases h
    ·obtain rfl:=oi h;exact rl [1,2,4,5,18,19,20] [0,1,2,3] [.t, .row (c3 x13), .row (c90 x15), .callv (.tup [.j r17.1, .y r17.2]), .f] (pc h11<|pc (an l8.length (Zz h12))<|pc (an l8.length (YV h14))<|pc (ZI h16)<|pc (Zaf h18)<|pc h19<|pn)
   ·cases h
  ·obtain rfl:=oi h;exact rl [1,2,4,5] [0,1,2] [.f] (pc h11<|pn)
 ·exact Ex.noConfusion

theorem Zez {x28:ZF} :Zx Tryz.prog UU 0 62 (Zs (Zt Tryz.f176) [1,1,1,1,0,1,0,0]) (fun s:(List Y7)×Int=>match s with|(l30,v31)=>Q6 x28 l30 v31)
  (fun s:(List Y7)×Int=>(match s with|(l30,v31)=> [(4, .os 0 0),(5, .os 1 l30.length),(49, .sl 3 x28.peers),(50, .j (x28.peers.length:Int)),(51, .j v31)]:Fr DD)) (fun s:(List Y7)×Int=>(match s with|(l30,v31)=> [.n 161, .w 161 l30]:Z3 DD)) (fun r=>match r with|l38=> .exit 2) (fun r=>match r with|l38=> [(4, .os 0 0),(5, .os 1 l38.length)]) (fun r=>match r with|l38=> [.n 161, .w 161 l38]):=by
 refine Zy (fun s q h=> ?_) (fun r=> ?_)
 ·obtain⟨l30,v31⟩:=s;replace h:Q6 x28 l30 v31=some q:=h
  unfold Q6 at h
  obtain⟨h32,h⟩|⟨h32,h⟩:=Z1 h
  ·obtain⟨x33,h34,h⟩:=bo h
   obtain⟨h35,h⟩|⟨h35,h⟩:=Z1 h
   ·obtain rfl:=oi h;exact rl [4,5,49,50,51] [0,1] [.t, .row (c3 x33), .obj [] (.w 161 [(⟨2,0,x33,0⟩:Y7)]), .obj [] (.w 161 (l30++ [(⟨2,0,x33,0⟩:Y7)]))] (pc h32<|pc (ob3 h34)<|pc (Yk 161 [(⟨2,0,x33,0⟩:Y7)])<|pc (YR 161 (n:=l30.length) (l:=l30) (xs:= [(⟨2,0,x33,0⟩:Y7)]) h35)<|pc (rn (List.length [(⟨2,0,x33,0⟩:Y7)]))<|pn)
   ·cases h
  ·obtain rfl:=oi h;exact rl [4,5] [0,1] [.f] (pc h32<|pn)
 ·exact Ex.noConfusion

theorem ZeA {a1:Z2} {a2:Int} {r:((List Y7))} (h:Z2M a1 a2=some r):
  Z7 Tryz.prog UU 176 [.agg (c31 a1), .j a2] [] ((fun r=>match r with|l41=> .os 0 l41.length) r) ((fun r=>match r with|l41=> [.w 161 l41]) r):=by
 unfold Z2M at h
 obtain⟨r3,h4,h⟩:=bo h
 obtain⟨h5,h⟩|⟨h5,h⟩:=Z1 h
 ·obtain rfl:=oi h;exact rf Tryz.func176 (some [2]) [.b r3, .t] (pc (Zab h4)<|pc h5<|pn)
 ·obtain⟨l8,h7,h⟩:=bo h
  obtain⟨l25,h26,h⟩:=bo h
  obtain⟨x28,h29,h⟩:=bo h
  obtain⟨l38,h39,h⟩:=bo h
  obtain rfl:=oi h;exact rf Tryz.func176 (some [1]) [.b r3, .f, .callo (.os 0 l8.length) [.w 3 l8], .sum [1,2,4,5,18,19,20] [0,1,2,3] (.exit 0) [(1, .j a2),(2, .o 0),(4, .os 1 0),(5, .os 2 l25.length)] [.box 31 (c31 a1) false, .n 161, .w 161 l25], .row (c90 x28), .sum [4,5,49,50,51] [1,2] (.exit 2) [(4, .os 0 0),(5, .os 1 l38.length)] [.n 161, .w 161 l38]] (pc (Zab h4)<|pc h5<|pc (Z7G h7)<|pc (im3 l8)<|pc (rn l8.length)<|pc (Zey _ _ h26)<|pc (ZI h29)<|pc (Zez _ _ h39)<|pn)

theorem ZeB {l5:List Y7} :Zx Tryz.prog UU 0 23 (Zs (Zt Tryz.f207) [1,1,0,1,0,0]) (fun s:(List Int)×Int=>match s with|(l6,v7)=>Q7 l5 l6 v7)
  (fun s:(List Int)×Int=>(match s with|(l6,v7)=> [(4, .os 0 0),(5, .os 1 l6.length),(10, .os 2 l5.length),(11, .j (l5.length:Int)),(12, .j v7)]:Fr DD)) (fun s:(List Int)×Int=>(match s with|(l6,v7)=> [.n 3, .w 3 l6, .w 161 l5]:Z3 DD)) (fun r=>match r with|l15=> .exit 0) (fun r=>match r with|l15=> [(4, .os 0 0),(5, .os 1 l15.length)]) (fun r=>match r with|l15=> [.n 3, .w 3 l15]):=by
 refine Zy (fun s q h=> ?_) (fun r=> ?_)
 ·obtain⟨l6,v7⟩:=s;replace h:Q7 l5 l6 v7=some q:=h
  unfold Q7 at h
  obtain⟨h8,h⟩|⟨h8,h⟩:=Z1 h
  ·obtain⟨h9,h⟩|⟨h9,h⟩:=Z1 h
   ·obtain⟨x10,h11,h⟩:=bo h
    obtain⟨h12,h⟩|⟨h12,h⟩:=Z1 h
    ·obtain rfl:=oi h;exact rl [4,5,10,11,12] [0,1,2] [.t, .row (Z5v x10), .obj [] (.w 3 [x10.domain]), .obj [] (.w 3 (l6++ [x10.domain]))] (pc h8<|pc (an l5.length (Zz h9))<|pc (an l5.length (Zeh h11))<|pc (Yk 3 [x10.domain])<|pc (YR 3 (n:=l6.length) (l:=l6) (xs:= [x10.domain]) h12)<|pc (rn (List.length [x10.domain]))<|pn)
    ·cases h
   ·cases h
  ·obtain rfl:=oi h;exact rl [4,5] [0,1] [.f] (pc h8<|pn)
 ·exact Ex.noConfusion

theorem ZeC {a1:Z2} {a2:Int} {r:((List Int))} (h:Z2N a1 a2=some r):
  Z7 Tryz.prog UU 207 [.agg (c31 a1), .j a2] [] ((fun r=>match r with|l18=> .os 0 l18.length) r) ((fun r=>match r with|l18=> [.w 3 l18]) r):=by
 unfold Z2N at h
 obtain⟨l5,h4,h⟩:=bo h
 obtain⟨l15,h16,h⟩:=bo h
 obtain rfl:=oi h;exact rf Tryz.func207 (some [1]) [.callo (.os 0 l5.length) [.w 161 l5], .sum [4,5,10,11,12] [1,2,3] (.exit 0) [(4, .os 0 0),(5, .os 1 l15.length)] [.n 3, .w 3 l15]] (pc (ZeA h4)<|pc (Zed l5)<|pc (rn l5.length)<|pc (ZeB _ _ h16)<|pn)

theorem Z1t {a1:Yc} {r:Bool} (h:Q8 a1=some r):
  Z7 Tryz.prog UU 187 [.agg (WL a1)] [] (.y r) []:=by
 unfold Q8 at h
 obtain⟨h2,h⟩|⟨h2,h⟩:=Z1 h
 ·obtain rfl:=oi h;exact rf Tryz.func187 none [.t] (pc h2<|pn)
 ·obtain rfl:=oi h;exact rf Tryz.func187 none [.f] (pc h2<|pn)

theorem Z7H {a1:Yc} {r:Int} (h:Q9 a1=some r):
  Z7 Tryz.prog UU 188 [.agg (WL a1)] [] (.v (.int .u32 r)) []:=by
 unfold Q9 at h
 obtain⟨h2,h⟩|⟨h2,h⟩:=Z1 h
 ·obtain rfl:=oi h;exact rf Tryz.func188 none [] (pc (of_decide_eq_true h2)<|pn)
 ·cases h

theorem Zag {a1:Yc} {r:Int} (h:Z2O a1=some r):
  Z7 Tryz.prog UU 239 [.agg (WL a1)] [] (.v (.int .u32 r)) []:=by
 unfold Z2O at h
 obtain⟨r2,h3,h⟩:=bo h
 obtain⟨h4,h⟩|⟨h4,h⟩:=Z1 h
 ·obtain rfl:=oi h;exact rf Tryz.func239 none [.b r2, .t] (pc (Z1t h3)<|pc h4<|pn)
 ·obtain⟨r5,h6,h⟩:=bo h
  obtain rfl:=oi h;exact rf Tryz.func239 none [.b r2, .f, .callv (.v (.int .u32 r5))] (pc (Z1t h3)<|pc h4<|pc (Z7H h6)<|pn)

theorem Z7I {a1:Yc} {r:Int} (h:Z0T a1=some r):
  Z7 Tryz.prog UU 240 [.agg (WL a1)] [] (.v (.int .u32 r)) []:=by
 unfold Z0T at h
 obtain⟨r2,h3,h⟩:=bo h
 obtain⟨h4,h⟩|⟨h4,h⟩:=Z1 h
 ·obtain rfl:=oi h;exact rf Tryz.func240 none [.b r2, .t] (pc (Z1t h3)<|pc h4<|pn)
 ·obtain⟨r5,h6,h⟩:=bo h
  obtain rfl:=oi h;exact rf Tryz.func240 none [.b r2, .f, .callv (.v (.int .u32 r5))] (pc (Z1t h3)<|pc h4<|pc (Z7H h6)<|pn)

theorem VQ {a1:Z2} {a2:Int} {r:Int} (h:UL a1 a2=some r):
  Z7 Tryz.prog UU 272 [.agg (c31 a1), .j a2] [] (.j r) []:=by
 unfold UL at h
 obtain⟨x3,h4,h⟩:=bo h
 obtain⟨x5,h6,h⟩:=bo h
 obtain rfl:=oi h;exact rf Tryz.func272 none [.row (ZK x3), .row (c90 x5)] (pc (ZP h4)<|pc (ZI h6)<|pn)

theorem Z7J {a1:Yc} {a2:Int} {r:Bool} (h:Z2P a1 a2=some r):
  Z7 Tryz.prog UU 120 [.agg (WL a1), .v (.int .u32 a2)] [] (.y r) []:=by
 unfold Z2P at h
 obtain⟨r3,h4,h⟩:=bo h
 obtain⟨h5,h⟩|⟨h5,h⟩:=Z1 h
 ·obtain⟨r6,h7,h⟩:=bo h
  obtain rfl:=oi h;exact rf Tryz.func120 none [.b r3, .t, .callv (.v (.int .u32 r6))] (pc (Z1t h4)<|pc h5<|pc (Z7H h7)<|pn)
 ·obtain rfl:=oi h;exact rf Tryz.func120 none [.b r3, .f] (pc (Z1t h4)<|pc h5<|pn)

theorem Zah {a1:Int} {a2:Yh} {r:Bool} (h:Z58 a1 a2=some r):
  Z7 Tryz.prog UU 101 [.j a1, .rp (c88 a2) 0] [] (.y r) []:=by
 unfold Z58 at h
 obtain⟨r3,h4,h⟩:=bo h
 obtain rfl:=oi h;exact rf Tryz.func101 none [.b r3] (pc (Vp h4)<|pn)

theorem Zai {a1:List Int} {a2:Yh} :Zx Tryz.prog UU 0 19 (Zs (Zt Tryz.f178) [1,0,1,0,0]) (ρ:=Int⊕Unit) (Z0U a1 a2)
  (fun v3:Int=>([(0, .sl 3 a1),(1, .fn (.func 101) [] [.rp (c88 a2) 0]),(4, .z),(7, .j (a1.length:Int)),(8, .j v3)]:Fr DD)) (fun v3:Int=>([]:Z3 DD)) (fun r=>match r with|Sum.inl v11=> .ret|Sum.inr _=> .exit 0) (fun r=>match r with|Sum.inl v11=> [(4, .j v11)]|Sum.inr _=> [(4, .z)]) (fun r=>match r with|Sum.inl v11=> []|Sum.inr _=> []):=by
 refine Zy (fun s q h=> ?_) (fun r=> ?_)
 ·replace h:Z0U a1 a2 s=some q:=h;revert h;revert s;intro v3 h
  unfold Z0U at h
  obtain⟨h4,h⟩|⟨h4,h⟩:=Z1 h
  ·obtain⟨x5,h6,h⟩:=bo h
   obtain⟨r7,h8,h⟩:=bo h
   obtain⟨h9,h⟩|⟨h9,h⟩:=Z1 h
   ·obtain rfl:=oi h;exact rl [4] [] [.t, .row (c3 x5), .b r7, .t] (pc h4<|pc (ob3 h6)<|pc (Zah h8)<|pc h9<|pn)
   ·obtain rfl:=oi h;exact rl [0,1,4,7,8] [] [.t, .row (c3 x5), .b r7, .f] (pc h4<|pc (ob3 h6)<|pc (Zah h8)<|pc h9<|pn)
  ·obtain rfl:=oi h;exact rl [4] [] [.f] (pc h4<|pn)
 ·rcases r with _|_ <;> exact Ex.noConfusion

theorem ZeD {a1:List Int} {a2:Yh} {r:Int} (h:Z59 a1 a2=some r):
  Z7 Tryz.prog UU 178 [.sl 3 a1, .fn (.func 101) [] [.rp (c88 a2) 0]] [] (.j r) []:=by
 unfold Z59 at h
 obtain⟨r13,h12,h⟩:=bo h
 rcases r13 with v11|_
 ·obtain rfl:=oi h;exact rf Tryz.func178 none [.sum [0,1,4,7,8] [] .ret [(4, .j v11)] []] (pc (Zai _ _ h12)<|pn)
 ·obtain rfl:=oi h;exact rf Tryz.func178 none [.sum [0,1,4,7,8] [] (.exit 0) [(4, .z)] []] (pc (Zai _ _ h12)<|pn)

theorem ZeE {a1:List Int} {a2:Yh} {r:Bool} (h:Z2Q a1 a2=some r):
  Z7 Tryz.prog UU 102 [.sl 3 a1, .fn (.func 101) [] [.rp (c88 a2) 0]] [] (.y r) []:=by
 unfold Z2Q at h
 obtain⟨r3,h4,h⟩:=bo h
 obtain rfl:=oi h;exact rf Tryz.func102 none [.callv (.j r3)] (pc (ZeD h4)<|pn)

theorem ZeF {a1:Z2} {a2:Int} {a3:Int} {r:Bool} (h:Z2R a1 a2 a3=some r):
  Z7 Tryz.prog UU 40 [.agg (c31 a1), .j a2, .j a3] [] (.y r) []:=by
 unfold Z2R at h
 obtain⟨h4,h⟩|⟨h4,h⟩:=Z1 h
 ·obtain rfl:=oi h;exact rf Tryz.func40 none [.t] (pc h4<|pn)
 ·obtain⟨h5,h⟩|⟨h5,h⟩:=Z1 h
  ·obtain rfl:=oi h;exact rf Tryz.func40 none [.f, .t] (pc h4<|pc h5<|pn)
  ·obtain⟨h6,h⟩|⟨h6,h⟩:=Z1 h
   ·obtain rfl:=oi h;exact rf Tryz.func40 none [.f, .f, .t] (pc h4<|pc h5<|pc h6<|pn)
   ·obtain⟨h7,h⟩|⟨h7,h⟩:=Z1 h
    ·obtain rfl:=oi h;exact rf Tryz.func40 none [.f, .f, .f, .t] (pc h4<|pc h5<|pc h6<|pc h7<|pn)
    ·obtain⟨r8,h9,h⟩:=bo h
     obtain⟨h10,h⟩|⟨h10,h⟩:=Z1 h
     ·obtain rfl:=oi h;exact rf Tryz.func40 none [.f, .f, .f, .f, .b r8, .t] (pc h4<|pc h5<|pc h6<|pc h7<|pc (Xi h9)<|pc h10<|pn)
     ·obtain⟨x11,h12,h⟩:=bo h
      obtain⟨x13,h14,h⟩:=bo h
      obtain⟨h15,h⟩|⟨h15,h⟩:=Z1 h
      ·obtain rfl:=oi h;exact rf Tryz.func40 none [.f, .f, .f, .f, .b r8, .f, .row (c88 x11), .row (c88 x13), .t] (pc h4<|pc h5<|pc h6<|pc h7<|pc (Xi h9)<|pc h10<|pc (Yv h12)<|pc (Yv h14)<|pc h15<|pn)
      ·obtain⟨h16,h⟩|⟨h16,h⟩:=Z1 h
       ·obtain⟨r17,h18,h⟩:=bo h
        obtain rfl:=oi h;exact rf Tryz.func40 none [.f, .f, .f, .f, .b r8, .f, .row (c88 x11), .row (c88 x13), .f, .t, .b r17] (pc h4<|pc h5<|pc h6<|pc h7<|pc (Xi h9)<|pc h10<|pc (Yv h12)<|pc (Yv h14)<|pc h15<|pc h16<|pc (ZeE h18)<|pn)
       ·obtain rfl:=oi h;exact rf Tryz.func40 none [.f, .f, .f, .f, .b r8, .f, .row (c88 x11), .row (c88 x13), .f, .f] (pc h4<|pc h5<|pc h6<|pc h7<|pc (Xi h9)<|pc h10<|pc (Yv h12)<|pc (Yv h14)<|pc h15<|pc h16<|pn)

theorem Zaj {a1:Z2} {a2:Int} {a3:Int} {r:Bool} (h:Z2S a1 a2 a3=some r):
  Z7 Tryz.prog UU 273 [.agg (c31 a1), .j a2, .j a3] [] (.y r) []:=by
 unfold Z2S at h
 obtain⟨r4,h5,h⟩:=bo h
 obtain⟨r6,h7,h⟩:=bo h
 obtain⟨h8,h⟩|⟨h8,h⟩:=Z1 h
 ·obtain⟨x9,h10,h⟩:=bo h
  obtain⟨x11,h12,h⟩:=bo h
  obtain⟨r13,h14,h⟩:=bo h
  obtain rfl:=oi h;exact rf Tryz.func273 none [.callv (.j r4), .callv (.j r6), .t, .row (ZK x9), .row (ZK x11), .b r13] (pc (VQ h5)<|pc (VQ h7)<|pc h8<|pc (ZP h10)<|pc (ZP h12)<|pc (ZeF h14)<|pn)
 ·obtain rfl:=oi h;exact rf Tryz.func273 none [.callv (.j r4), .callv (.j r6), .f] (pc (VQ h5)<|pc (VQ h7)<|pc h8<|pn)

theorem Zak {a1:Int} {a2:Z2} {a3:Int} {r:Int} (h:Z2T a1 a2 a3=some r):
  Z7 Tryz.prog UU 274 [.j a1, .rp (c31 a2) 0, .rp (c3 a3) 0] [] (.j r) []:=by
 unfold Z2T at h
 obtain⟨x4,h5,h⟩:=bo h
 obtain⟨x6,h7,h⟩:=bo h
 obtain⟨h8,h⟩|⟨h8,h⟩:=Z1 h
 ·obtain rfl:=oi h;exact rf Tryz.func274 none [.row (ZK x4), .row (ZK x6), .t] (pc (ZP h5)<|pc (ZP h7)<|pc h8<|pn)
 ·obtain rfl:=oi h;exact rf Tryz.func274 none [.row (ZK x4), .row (ZK x6), .f] (pc (ZP h5)<|pc (ZP h7)<|pc h8<|pn)

theorem Zal {a1:Int} {a2:Int} {a3:Z2} {a4:Z2} {a5:Int} {r:Int} (h:Z2U a1 a2 a3 a4 a5=some r):
  Z7 Tryz.prog UU 276 [.j a1, .j a2, .rp (c31 a3) 0, .rp [.fn (.func 274) [] [.rp (c31 a4) 0, .rp (c3 a5) 0]] 0] [] (.j r) []:=by
 unfold Z2U at h
 obtain⟨x6,h7,h⟩:=bo h
 obtain⟨x8,h9,h⟩:=bo h
 obtain⟨h10,h⟩|⟨h10,h⟩:=Z1 h
 ·obtain rfl:=oi h;exact rf Tryz.func276 none [.row (ZK x6), .row (ZK x8), .t] (pc (ZP h7)<|pc (ZP h9)<|pc h10<|pn)
 ·obtain⟨r11,h12,h⟩:=bo h
  obtain⟨r13,h14,h⟩:=bo h
  obtain rfl:=oi h;exact rf Tryz.func276 none [.row (ZK x6), .row (ZK x8), .f, .callv (.j r11), .callv (.j r13)] (pc (ZP h7)<|pc (ZP h9)<|pc h10<|pc (Zak h12)<|pc (Zak h14)<|pn)

theorem ZeG {a1:List Int} {a2:Z2} {a3:Z2} {a4:Int} :Zx Tryz.prog UU 0 33 (Zs (Zt Tryz.f275) [1,1,1,0,1,0,0]) (fun s:Int×Int=>match s with|(v8,v9)=>Qa a1 a2 a3 a4 v8 v9)
  (fun s:Int×Int=>(match s with|(v8,v9)=> [(0, .sl 3 a1),(1, .fn (.func 276) [] [.rp (c31 a2) 0, .rp [.fn (.func 274) [] [.rp (c31 a3) 0, .rp (c3 a4) 0]] 0]),(4, .z),(5, .j v8),(6, .j v9)]:Fr DD)) (fun s:Int×Int=>(match s with|(v8,v9)=> []:Z3 DD)) (fun r=>match r with|v19=> .exit 0) (fun r=>match r with|v19=> [(4, .z),(5, .j v19)]) (fun r=>match r with|v19=> []):=by
 refine Zy (fun s q h=> ?_) (fun r=> ?_)
 ·obtain⟨v8,v9⟩:=s;replace h:Qa a1 a2 a3 a4 v8 v9=some q:=h
  unfold Qa at h
  obtain⟨h10,h⟩|⟨h10,h⟩:=Z1 h
  ·obtain⟨x11,h12,h⟩:=bo h
   obtain⟨r13,h14,h⟩:=bo h
   obtain⟨h15,h⟩|⟨h15,h⟩:=Z1 h
   ·obtain⟨x16,h17,h⟩:=bo h
    obtain rfl:=oi h;exact rl [0,1,4,5,6] [] [.t, .row (c3 x11), .callv (.j r13), .t, .row (c3 x16)] (pc h10<|pc (ob3 h12)<|pc (Zal h14)<|pc h15<|pc (ob3 h17)<|pn)
   ·obtain rfl:=oi h;exact rl [0,1,4,5,6] [] [.t, .row (c3 x11), .callv (.j r13), .f] (pc h10<|pc (ob3 h12)<|pc (Zal h14)<|pc h15<|pn)
  ·obtain rfl:=oi h;exact rl [4,5] [] [.f] (pc h10<|pn)
 ·exact Ex.noConfusion

theorem ZeH {a1:List Int} {a2:Z2} {a3:Z2} {a4:Int} {r:Int} (h:Z2V a1 a2 a3 a4=some r):
  Z7 Tryz.prog UU 275 [.sl 3 a1, .fn (.func 276) [] [.rp (c31 a2) 0, .rp [.fn (.func 274) [] [.rp (c31 a3) 0, .rp (c3 a4) 0]] 0]] [] (.j r) []:=by
 unfold Z2V at h
 obtain⟨h5,h⟩|⟨h5,h⟩:=Z1 h
 ·cases h
 ·obtain⟨x6,h7,h⟩:=bo h
  obtain⟨v19,h20,h⟩:=bo h
  obtain rfl:=oi h;exact rf Tryz.func275 none [.f, .row (c3 x6), .sum [0,1,4,5,6] [] (.exit 0) [(4, .z),(5, .j v19)] []] (pc h5<|pc (ob3 h7)<|pc (ZeG _ _ h20)<|pn)

theorem Z5F {a1:Z2} {a2:Int} {a3:Int} {l4:List Int} {v5:Int} {x7:Y3} {r:Unit⊕Unit} (h:Z5a a1 a2 a3 l4 v5 x7=some r):
  YE Tryz.prog UU 0 56 (Zs (Zt Tryz.f262) [1,1,0,1,0,0,1,1,0,0,1,0]) [(2, .v (.int .u32 a3)),(3, .o 0),(4, .o 1),(6, .z),(7, .y false),(8, .os 2 l4.length),(9, .j v5),(10, .o 3),(13, .sl 105 a1.irbs),(14, .j (a1.irbs.length:Int)),(15, .j v5)] [.box 31 (c31 a1) false, .box 3 [.j a2] false, .w 3 l4, .box 105 (ZK x7) false] ((fun r=>match r with|Sum.inl _=> .ret|Sum.inr _=> .nor) r) ((fun r=>match r with|Sum.inl _=> [(6, .z),(7, .y false)]|Sum.inr _=> [(2, .v (.int .u32 a3)),(3, .o 0),(4, .o 1),(6, .z),(7, .y false),(8, .os 2 l4.length),(9, .j v5),(10, .o 3),(13, .sl 105 a1.irbs),(14, .j (a1.irbs.length:Int)),(15, .j v5)]) r) ((fun r=>match r with|Sum.inl _=> []|Sum.inr _=> [.box 31 (c31 a1) false, .box 3 [.j a2] false, .w 3 l4, .box 105 (ZK x7) false]) r):=by
 unfold Z5a at h
 obtain⟨r9,h10,h⟩:=bo h
 obtain⟨r11,h12,h⟩:=bo h
 obtain⟨h13,h⟩|⟨h13,h⟩:=Z1 h
 ·obtain⟨h14,h⟩|⟨h14,h⟩:=Z1 h
  ·obtain rfl:=oi h;exact rl [6,7] [] [.callv (.j r9), .callv (.j r11), .t, .t] (pc (VQ h10)<|pc (VQ h12)<|pc h13<|pc h14<|pn)
  ·obtain rfl:=oi h;exact rl [2,3,4,6,7,8,9,10,13,14,15] [0,1,2,3] [.callv (.j r9), .callv (.j r11), .t, .f] (pc (VQ h10)<|pc (VQ h12)<|pc h13<|pc h14<|pn)
 ·obtain rfl:=oi h;exact rl [2,3,4,6,7,8,9,10,13,14,15] [0,1,2,3] [.callv (.j r9), .callv (.j r11), .f] (pc (VQ h10)<|pc (VQ h12)<|pc h13<|pn)

theorem Z7K {a1:Z2} {a2:Int} {a3:Int} :Zx Tryz.prog UU 0 56 (Zs (Zt Tryz.f262) [1,1,0,1,0,0]) (fun s:(List Int)×Int=>match s with|(l4,v5)=>Z0V a1 a2 a3 l4 v5)
  (fun s:(List Int)×Int=>(match s with|(l4,v5)=> [(2, .v (.int .u32 a3)),(3, .o 0),(4, .o 1),(6, .z),(7, .y false),(8, .os 2 l4.length),(13, .sl 105 a1.irbs),(14, .j (a1.irbs.length:Int)),(15, .j v5)]:Fr DD)) (fun s:(List Int)×Int=>(match s with|(l4,v5)=> [.box 31 (c31 a1) false, .box 3 [.j a2] false, .w 3 l4]:Z3 DD)) (fun r=>match r with|Sum.inl _=> .ret|Sum.inr l29=> .exit 0) (fun r=>match r with|Sum.inl _=> [(6, .z),(7, .y false)]|Sum.inr l29=> [(3, .o 0),(4, .o 1),(6, .z),(7, .y false),(8, .os 2 l29.length)]) (fun r=>match r with|Sum.inl _=> []|Sum.inr l29=> [.box 31 (c31 a1) false, .box 3 [.j a2] false, .w 3 l29]):=by
 refine Zy (fun s q h=> ?_) (fun r=> ?_)
 ·obtain⟨l4,v5⟩:=s;replace h:Z0V a1 a2 a3 l4 v5=some q:=h
  unfold Z0V at h
  obtain⟨h6,h⟩|⟨h6,h⟩:=Z1 h
  ·obtain⟨x7,h8,h⟩:=bo h
   obtain⟨r16,h15,h⟩:=bo h
   rcases r16 with _|_
   ·obtain rfl:=oi h;exact rl [6,7] [] [.t, .row (ZK x7), .cut [2,3,4,6,7,8,9,10,13,14,15] [0,1,2,3] .ret [(6, .z),(7, .y false)] []] (pc h6<|pc (ZP h8)<|pc (Z5F h15)<|pn)
   ·obtain⟨r17,h18,h⟩:=bo h
    obtain⟨h19,h⟩|⟨h19,h⟩:=Z1 h
    ·obtain⟨r20,h21,h⟩:=bo h
     obtain⟨h22,h⟩|⟨h22,h⟩:=Z1 h
     ·obtain⟨h23,h⟩|⟨h23,h⟩:=Z1 h
      ·obtain rfl:=oi h;exact rl [2,3,4,6,7,8,13,14,15] [0,1,2] [.t, .row (ZK x7), .cut [2,3,4,6,7,8,9,10,13,14,15] [0,1,2,3] .nor [(2, .v (.int .u32 a3)),(3, .o 0),(4, .o 1),(6, .z),(7, .y false),(8, .os 2 l4.length),(9, .j v5),(10, .o 3),(13, .sl 105 a1.irbs),(14, .j (a1.irbs.length:Int)),(15, .j v5)] [.box 31 (c31 a1) false, .box 3 [.j a2] false, .w 3 l4, .box 105 (ZK x7) false], .b r17, .t, .b r20, .t, .obj [] (.w 3 [v5]), .obj [] (.w 3 (l4++ [v5]))] (pc h6<|pc (ZP h8)<|pc (Z5F h15)<|pc (Z7J h18)<|pc h19<|pc (Zaj h21)<|pc h22<|pc (Yk 3 [v5])<|pc (YR 3 (n:=l4.length) (l:=l4) (xs:= [v5]) h23)<|pc (rn (List.length [v5]))<|pn)
      ·cases h
     ·obtain rfl:=oi h;exact rl [2,3,4,6,7,8,13,14,15] [0,1,2] [.t, .row (ZK x7), .cut [2,3,4,6,7,8,9,10,13,14,15] [0,1,2,3] .nor [(2, .v (.int .u32 a3)),(3, .o 0),(4, .o 1),(6, .z),(7, .y false),(8, .os 2 l4.length),(9, .j v5),(10, .o 3),(13, .sl 105 a1.irbs),(14, .j (a1.irbs.length:Int)),(15, .j v5)] [.box 31 (c31 a1) false, .box 3 [.j a2] false, .w 3 l4, .box 105 (ZK x7) false], .b r17, .t, .b r20, .f] (pc h6<|pc (ZP h8)<|pc (Z5F h15)<|pc (Z7J h18)<|pc h19<|pc (Zaj h21)<|pc h22<|pn)
    ·obtain rfl:=oi h;exact rl [2,3,4,6,7,8,13,14,15] [0,1,2] [.t, .row (ZK x7), .cut [2,3,4,6,7,8,9,10,13,14,15] [0,1,2,3] .nor [(2, .v (.int .u32 a3)),(3, .o 0),(4, .o 1),(6, .z),(7, .y false),(8, .os 2 l4.length),(9, .j v5),(10, .o 3),(13, .sl 105 a1.irbs),(14, .j (a1.irbs.length:Int)),(15, .j v5)] [.box 31 (c31 a1) false, .box 3 [.j a2] false, .w 3 l4, .box 105 (ZK x7) false], .b r17, .f] (pc h6<|pc (ZP h8)<|pc (Z5F h15)<|pc (Z7J h18)<|pc h19<|pn)
  ·obtain rfl:=oi h;exact rl [3,4,6,7,8] [0,1,2] [.f] (pc h6<|pn)
 ·rcases r with _|_ <;> exact Ex.noConfusion

theorem ZeI {a1:Z2} {a2:Int} {a3:Int} {r:Int×Bool} (h:Z2W a1 a2 a3=some r):
  Z7 Tryz.prog UU 262 [.agg (c31 a1), .j a2, .v (.int .u32 a3)] [] (.tup [.j r.1, .y r.2]) []:=by
 unfold Z2W at h
 obtain⟨r31,h30,h⟩:=bo h
 rcases r31 with _|l29
 ·obtain rfl:=oi h;exact rf Tryz.func262 none [.sum [2,3,4,6,7,8,13,14,15] [0,1,2] .ret [(6, .z),(7, .y false)] []] (pc (Z7K _ _ h30)<|pn)
 ·obtain⟨h32,h⟩|⟨h32,h⟩:=Z1 h
  ·obtain rfl:=oi h;exact rf Tryz.func262 none [.sum [2,3,4,6,7,8,13,14,15] [0,1,2] (.exit 0) [(3, .o 0),(4, .o 1),(6, .z),(7, .y false),(8, .os 2 l29.length)] [.box 31 (c31 a1) false, .box 3 [.j a2] false, .w 3 l29], .t] (pc (Z7K _ _ h30)<|pc (rn l29.length)<|pc h32<|pn)
  ·obtain⟨r33,h34,h⟩:=bo h
   obtain rfl:=oi h;exact rf Tryz.func262 none [.sum [2,3,4,6,7,8,13,14,15] [0,1,2] (.exit 0) [(3, .o 0),(4, .o 1),(6, .z),(7, .y false),(8, .os 2 l29.length)] [.box 31 (c31 a1) false, .box 3 [.j a2] false, .w 3 l29], .f, .callv (.j r33)] (pc (Z7K _ _ h30)<|pc (rn l29.length)<|pc h32<|pc (ZeH h34)<|pc (rn l29.length)<|pn)

theorem Um {a1:Z2} {a2:Int} {a3:Int} {r:Int×Bool} (h:UM a1 a2 a3=some r):
  Z7 Tryz.prog UU 241 [.agg (c31 a1), .j a2, .v (.int .u32 a3)] [] (.tup [.j r.1, .y r.2]) []:=by
 unfold UM at h
 obtain⟨h4,h⟩|⟨h4,h⟩:=Z1 h
 ·obtain rfl:=oi h;exact rf Tryz.func241 none [.t] (pc h4<|pn)
 ·obtain⟨h5,h⟩|⟨h5,h⟩:=Z1 h
  ·obtain rfl:=oi h;exact rf Tryz.func241 none [.f, .t] (pc h4<|pc h5<|pn)
  ·obtain⟨r6,h7,h⟩:=bo h
   obtain⟨h8,h⟩|⟨h8,h⟩:=Z1 h
   ·obtain rfl:=oi h;exact rf Tryz.func241 none [.f, .f, .b r6, .t] (pc h4<|pc h5<|pc (Xi h7)<|pc h8<|pn)
   ·obtain⟨r9,h10,h⟩:=bo h
    obtain rfl:=oi h;exact rf Tryz.func241 none [.f, .f, .b r6, .f, .callv (.tup [.j r9.1, .y r9.2])] (pc h4<|pc h5<|pc (Xi h7)<|pc h8<|pc (ZeI h10)<|pn)

theorem Zam {a1:Y3} {a2:Int} {r:Bool} (h:Z5b a1 a2=some r):
  Z7 Tryz.prog UU 242 [.agg (ZK a1), .rp (c33 a2) 0] [] (.y r) []:=by
 unfold Z5b at h
 obtain rfl:=oi h;exact rf Tryz.func242 none [] (pn)

theorem Zan {a1:List Y3} {a2:Int} :Zx Tryz.prog UU 0 19 (Zs (Zt Tryz.f119) [1,0,1,0,0]) (ρ:=Int⊕Unit) (Z0W a1 a2)
  (fun v3:Int=>([(0, .sl 105 a1),(1, .fn (.func 242) [] [.rp (c33 a2) 0]),(4, .z),(7, .j (a1.length:Int)),(8, .j v3)]:Fr DD)) (fun v3:Int=>([]:Z3 DD)) (fun r=>match r with|Sum.inl v11=> .ret|Sum.inr _=> .exit 0) (fun r=>match r with|Sum.inl v11=> [(4, .j v11)]|Sum.inr _=> [(4, .z)]) (fun r=>match r with|Sum.inl v11=> []|Sum.inr _=> []):=by
 refine Zy (fun s q h=> ?_) (fun r=> ?_)
 ·replace h:Z0W a1 a2 s=some q:=h;revert h;revert s;intro v3 h
  unfold Z0W at h
  obtain⟨h4,h⟩|⟨h4,h⟩:=Z1 h
  ·obtain⟨x5,h6,h⟩:=bo h
   obtain⟨r7,h8,h⟩:=bo h
   obtain⟨h9,h⟩|⟨h9,h⟩:=Z1 h
   ·obtain rfl:=oi h;exact rl [4] [] [.t, .row (ZK x5), .b r7, .t] (pc h4<|pc (ZP h6)<|pc (Zam h8)<|pc h9<|pn)
   ·obtain rfl:=oi h;exact rl [0,1,4,7,8] [] [.t, .row (ZK x5), .b r7, .f] (pc h4<|pc (ZP h6)<|pc (Zam h8)<|pc h9<|pn)
  ·obtain rfl:=oi h;exact rl [4] [] [.f] (pc h4<|pn)
 ·rcases r with _|_ <;> exact Ex.noConfusion

theorem ZeJ {a1:List Y3} {a2:Int} {r:Int} (h:Z5c a1 a2=some r):
  Z7 Tryz.prog UU 119 [.sl 105 a1, .fn (.func 242) [] [.rp (c33 a2) 0]] [] (.j r) []:=by
 unfold Z5c at h
 obtain⟨r13,h12,h⟩:=bo h
 rcases r13 with v11|_
 ·obtain rfl:=oi h;exact rf Tryz.func119 none [.sum [0,1,4,7,8] [] .ret [(4, .j v11)] []] (pc (Zan _ _ h12)<|pn)
 ·obtain rfl:=oi h;exact rf Tryz.func119 none [.sum [0,1,4,7,8] [] (.exit 0) [(4, .z)] []] (pc (Zan _ _ h12)<|pn)

theorem Un {a1:List Y3} {a2:Int} {r:Bool} (h:Z2X a1 a2=some r):
  Z7 Tryz.prog UU 50 [.sl 105 a1, .fn (.func 242) [] [.rp (c33 a2) 0]] [] (.y r) []:=by
 unfold Z2X at h
 obtain⟨r3,h4,h⟩:=bo h
 obtain rfl:=oi h;exact rf Tryz.func50 none [.callv (.j r3)] (pc (ZeJ h4)<|pn)

theorem Zao {a1:Y3} {a2:Int} {r:Bool} (h:Z5d a1 a2=some r):
  Z7 Tryz.prog UU 263 [.agg (ZK a1), .rp (c33 a2) 0] [] (.y r) []:=by
 unfold Z5d at h
 obtain rfl:=oi h;exact rf Tryz.func263 none [] (pn)

theorem Zap {a1:List Y3} {a2:Int} :Zx Tryz.prog UU 0 19 (Zs (Zt Tryz.f119) [1,0,1,0,0]) (ρ:=Int⊕Unit) (Z0X a1 a2)
  (fun v3:Int=>([(0, .sl 105 a1),(1, .fn (.func 263) [] [.rp (c33 a2) 0]),(4, .z),(7, .j (a1.length:Int)),(8, .j v3)]:Fr DD)) (fun v3:Int=>([]:Z3 DD)) (fun r=>match r with|Sum.inl v11=> .ret|Sum.inr _=> .exit 0) (fun r=>match r with|Sum.inl v11=> [(4, .j v11)]|Sum.inr _=> [(4, .z)]) (fun r=>match r with|Sum.inl v11=> []|Sum.inr _=> []):=by
 refine Zy (fun s q h=> ?_) (fun r=> ?_)
 ·replace h:Z0X a1 a2 s=some q:=h;revert h;revert s;intro v3 h
  unfold Z0X at h
  obtain⟨h4,h⟩|⟨h4,h⟩:=Z1 h
  ·obtain⟨x5,h6,h⟩:=bo h
   obtain⟨r7,h8,h⟩:=bo h
   obtain⟨h9,h⟩|⟨h9,h⟩:=Z1 h
   ·obtain rfl:=oi h;exact rl [4] [] [.t, .row (ZK x5), .b r7, .t] (pc h4<|pc (ZP h6)<|pc (Zao h8)<|pc h9<|pn)
   ·obtain rfl:=oi h;exact rl [0,1,4,7,8] [] [.t, .row (ZK x5), .b r7, .f] (pc h4<|pc (ZP h6)<|pc (Zao h8)<|pc h9<|pn)
  ·obtain rfl:=oi h;exact rl [4] [] [.f] (pc h4<|pn)
 ·rcases r with _|_ <;> exact Ex.noConfusion

theorem ZeK {a1:List Y3} {a2:Int} {r:Int} (h:Z5e a1 a2=some r):
  Z7 Tryz.prog UU 119 [.sl 105 a1, .fn (.func 263) [] [.rp (c33 a2) 0]] [] (.j r) []:=by
 unfold Z5e at h
 obtain⟨r13,h12,h⟩:=bo h
 rcases r13 with v11|_
 ·obtain rfl:=oi h;exact rf Tryz.func119 none [.sum [0,1,4,7,8] [] .ret [(4, .j v11)] []] (pc (Zap _ _ h12)<|pn)
 ·obtain rfl:=oi h;exact rf Tryz.func119 none [.sum [0,1,4,7,8] [] (.exit 0) [(4, .z)] []] (pc (Zap _ _ h12)<|pn)

theorem Zaq {a1:List Y3} {a2:Int} {r:Bool} (h:Z2Y a1 a2=some r):
  Z7 Tryz.prog UU 50 [.sl 105 a1, .fn (.func 263) [] [.rp (c33 a2) 0]] [] (.y r) []:=by
 unfold Z2Y at h
 obtain⟨r3,h4,h⟩:=bo h
 obtain rfl:=oi h;exact rf Tryz.func50 none [.callv (.j r3)] (pc (ZeK h4)<|pn)

theorem Z1u {a1:Z2} {a2:Int} {a3:Int} {r:Int} (h:VH a1 a2 a3=some r):
  Z7 Tryz.prog UU 243 [.agg (c31 a1), .v (.int .u32 a2), .j a3] [] (.j r) []:=by
 unfold VH at h
 obtain⟨r4,h5,h⟩:=bo h
 obtain⟨h6,h⟩|⟨h6,h⟩:=Z1 h
 ·obtain rfl:=oi h;exact rf Tryz.func243 none [.b r4, .t] (pc (Zaq h5)<|pc h6<|pn)
 ·obtain⟨x7,h8,h⟩:=bo h
  obtain⟨r9,h10,h⟩:=bo h
  obtain rfl:=oi h;exact rf Tryz.func243 none [.b r4, .f, .row (ZK x7), .callv (.v (.int .u32 r9))] (pc (Zaq h5)<|pc h6<|pc (ZP h8)<|pc (Z7I h10)<|pn)

theorem Zar {a1:Z2} {a2:Int} {a3:Int} {r15:Int} :Zx Tryz.prog UU 0 91 (Zs (Zt Tryz.f214) [1,0,1,1,1,1,0,0,0]) (ρ:=Int⊕Unit) (Qb a1 a2 a3 r15)
  (fun v17:Int=>([(1, .j a2),(2, .j a3),(3, .o 0),(6, .v (.int .u32 0)),(7, .y false),(9, .j v17),(10, .j (Z4 r15))]:Fr DD)) (fun v17:Int=>([.box 31 (c31 a1) false]:Z3 DD)) (fun r=>match r with|Sum.inl v44=> .ret|Sum.inr _=> .exit 0) (fun r=>match r with|Sum.inl v44=> [(6, .v (.int .u32 v44)),(7, .y true)]|Sum.inr _=> [(6, .v (.int .u32 0)),(7, .y false)]) (fun r=>match r with|Sum.inl v44=> []|Sum.inr _=> []):=by
 refine Zy (fun s q h=> ?_) (fun r=> ?_)
 ·replace h:Qb a1 a2 a3 r15 s=some q:=h;revert h;revert s;intro v17 h
  unfold Qb at h
  obtain⟨h18,h⟩|⟨h18,h⟩:=Z1 h
  ·obtain⟨r19,h20,h⟩:=bo h
   obtain⟨r21,h22,h⟩:=bo h
   obtain⟨h23,h⟩|⟨h23,h⟩:=Z1 h
   ·obtain⟨h24,h⟩|⟨h24,h⟩:=Z1 h
    ·obtain⟨h25,h⟩|⟨h25,h⟩:=Z1 h
     ·obtain rfl:=oi h;exact rl [6,7] [] [.t, .callv (.tup [.j r19.1, .y r19.2]), .b r21, .t, .t, .t] (pc h18<|pc (Um h20)<|pc (Un h22)<|pc h23<|pc h24<|pc h25<|pn)
     ·obtain⟨h26,h⟩|⟨h26,h⟩:=Z1 h
      ·obtain⟨r27,h28,h⟩:=bo h
       obtain rfl:=oi h;exact rl [1,2,3,6,7,9,10] [0] [.t, .callv (.tup [.j r19.1, .y r19.2]), .b r21, .t, .t, .f, .t, .f, .callv (.j r27)] (pc h18<|pc (Um h20)<|pc (Un h22)<|pc h23<|pc h24<|pc h25<|pc h26<|pc h25<|pc (Z1u h28)<|pn)
      ·obtain⟨r29,h30,h⟩:=bo h
       obtain rfl:=oi h;exact rl [1,2,3,6,7,9,10] [0] [.t, .callv (.tup [.j r19.1, .y r19.2]), .b r21, .t, .t, .f, .f, .callv (.j r29)] (pc h18<|pc (Um h20)<|pc (Un h22)<|pc h23<|pc h24<|pc h25<|pc h26<|pc (Z1u h30)<|pn)
    ·obtain⟨h31,h⟩|⟨h31,h⟩:=Z1 h
     ·obtain⟨h32,h⟩|⟨h32,h⟩:=Z1 h
      ·obtain rfl:=oi h;exact rl [6,7] [] [.t, .callv (.tup [.j r19.1, .y r19.2]), .b r21, .t, .f, .t, .t] (pc h18<|pc (Um h20)<|pc (Un h22)<|pc h23<|pc h24<|pc h31<|pc h32<|pn)
      ·obtain⟨r33,h34,h⟩:=bo h
       obtain rfl:=oi h;exact rl [1,2,3,6,7,9,10] [0] [.t, .callv (.tup [.j r19.1, .y r19.2]), .b r21, .t, .f, .t, .f, .callv (.j r33)] (pc h18<|pc (Um h20)<|pc (Un h22)<|pc h23<|pc h24<|pc h31<|pc h32<|pc (Z1u h34)<|pn)
     ·obtain⟨r35,h36,h⟩:=bo h
      obtain rfl:=oi h;exact rl [1,2,3,6,7,9,10] [0] [.t, .callv (.tup [.j r19.1, .y r19.2]), .b r21, .t, .f, .f, .callv (.j r35)] (pc h18<|pc (Um h20)<|pc (Un h22)<|pc h23<|pc h24<|pc h31<|pc (Z1u h36)<|pn)
   ·obtain⟨h37,h⟩|⟨h37,h⟩:=Z1 h
    ·obtain⟨h38,h⟩|⟨h38,h⟩:=Z1 h
     ·obtain rfl:=oi h;exact rl [6,7] [] [.t, .callv (.tup [.j r19.1, .y r19.2]), .b r21, .f, .t, .t] (pc h18<|pc (Um h20)<|pc (Un h22)<|pc h23<|pc h37<|pc h38<|pn)
     ·obtain⟨r39,h40,h⟩:=bo h
      obtain rfl:=oi h;exact rl [1,2,3,6,7,9,10] [0] [.t, .callv (.tup [.j r19.1, .y r19.2]), .b r21, .f, .t, .f, .callv (.j r39)] (pc h18<|pc (Um h20)<|pc (Un h22)<|pc h23<|pc h37<|pc h38<|pc (Z1u h40)<|pn)
    ·obtain⟨r41,h42,h⟩:=bo h
     obtain rfl:=oi h;exact rl [1,2,3,6,7,9,10] [0] [.t, .callv (.tup [.j r19.1, .y r19.2]), .b r21, .f, .f, .callv (.j r41)] (pc h18<|pc (Um h20)<|pc (Un h22)<|pc h23<|pc h37<|pc (Z1u h42)<|pn)
  ·obtain rfl:=oi h;exact rl [6,7] [] [.f] (pc h18<|pn)
 ·rcases r with _|_ <;> exact Ex.noConfusion

theorem Zas {a1:Z2} {a2:Int} {a3:Int} {r:Int×Bool} (h:Vi a1 a2 a3=some r):
  Z7 Tryz.prog UU 214 [.agg (c31 a1), .j a2, .j a3] [] (.tup [.v (.int .u32 r.1), .y r.2]) []:=by
 unfold Vi at h
 obtain⟨h4,h⟩|⟨h4,h⟩:=Z1 h
 ·obtain rfl:=oi h;exact rf Tryz.func214 none [.t] (pc h4<|pn)
 ·obtain⟨h5,h⟩|⟨h5,h⟩:=Z1 h
  ·obtain rfl:=oi h;exact rf Tryz.func214 none [.f, .t] (pc h4<|pc h5<|pn)
  ·obtain⟨h6,h⟩|⟨h6,h⟩:=Z1 h
   ·obtain rfl:=oi h;exact rf Tryz.func214 none [.f, .f, .t] (pc h4<|pc h5<|pc h6<|pn)
   ·obtain⟨h7,h⟩|⟨h7,h⟩:=Z1 h
    ·obtain rfl:=oi h;exact rf Tryz.func214 none [.f, .f, .f, .t] (pc h4<|pc h5<|pc h6<|pc h7<|pn)
    ·obtain⟨r8,h9,h⟩:=bo h
     obtain⟨h10,h⟩|⟨h10,h⟩:=Z1 h
     ·obtain rfl:=oi h;exact rf Tryz.func214 none [.f, .f, .f, .f, .b r8, .t] (pc h4<|pc h5<|pc h6<|pc h7<|pc (Xi h9)<|pc h10<|pn)
     ·obtain⟨x11,h12,h⟩:=bo h
      obtain⟨r13,h14,h⟩:=bo h
      obtain⟨r15,h16,h⟩:=bo h
      obtain⟨r46,h45,h⟩:=bo h
      rcases r46 with v44|_
      ·obtain rfl:=oi h;exact rf Tryz.func214 none [.f, .f, .f, .f, .b r8, .f, .row (ZK x11), .callv (.v (.int .u32 r13)), .callv (.v (.int .u32 r15)), .sum [1,2,3,6,7,9,10] [0] .ret [(6, .v (.int .u32 v44)),(7, .y true)] []] (pc h4<|pc h5<|pc h6<|pc h7<|pc (Xi h9)<|pc h10<|pc (ZP h12)<|pc (Zag h14)<|pc (Z7I h16)<|pc (Zar _ _ h45)<|pn)
      ·obtain rfl:=oi h;exact rf Tryz.func214 none [.f, .f, .f, .f, .b r8, .f, .row (ZK x11), .callv (.v (.int .u32 r13)), .callv (.v (.int .u32 r15)), .sum [1,2,3,6,7,9,10] [0] (.exit 0) [(6, .v (.int .u32 0)),(7, .y false)] []] (pc h4<|pc h5<|pc h6<|pc h7<|pc (Xi h9)<|pc h10<|pc (ZP h12)<|pc (Zag h14)<|pc (Z7I h16)<|pc (Zar _ _ h45)<|pn)

theorem ZeL {a1:Z2} {a2:Int} :Zx Tryz.prog UU 0 64 (Zs (Zt Tryz.f177) [1,1,1,0,1,0,0]) (fun s:(List YH)×Int=>match s with|(l11,v12)=>Qc a1 a2 l11 v12)
  (fun s:(List YH)×Int=>(match s with|(l11,v12)=> [(1, .j a2),(2, .o 0),(4, .os 1 0),(5, .os 2 l11.length),(34, .sl 105 a1.irbs),(35, .j (a1.irbs.length:Int)),(36, .j v12)]:Fr DD)) (fun s:(List YH)×Int=>(match s with|(l11,v12)=> [.box 31 (c31 a1) false, .n 242, .w 242 l11]:Z3 DD)) (fun r=>match r with|l24=> .exit 0) (fun r=>match r with|l24=> [(4, .os 0 0),(5, .os 1 l24.length)]) (fun r=>match r with|l24=> [.n 242, .w 242 l24]):=by
 refine Zy (fun s q h=> ?_) (fun r=> ?_)
 ·obtain⟨l11,v12⟩:=s;replace h:Qc a1 a2 l11 v12=some q:=h
  unfold Qc at h
  obtain⟨h13,h⟩|⟨h13,h⟩:=Z1 h
  ·obtain⟨x14,h15,h⟩:=bo h
   obtain⟨x16,h17,h⟩:=bo h
   obtain⟨r18,h19,h⟩:=bo h
   obtain⟨h20,h⟩|⟨h20,h⟩:=Z1 h
   ·obtain⟨h21,h⟩|⟨h21,h⟩:=Z1 h
    ·obtain rfl:=oi h;exact rl [1,2,4,5,34,35,36] [0,1,2] [.t, .row (ZK x14), .row (c90 x16), .callv (.tup [.v (.int .u32 r18.1), .y r18.2]), .t, .obj [] (.w 242 [(⟨v12,x14.domain,r18.1⟩:YH)]), .obj [] (.w 242 (l11++ [(⟨v12,x14.domain,r18.1⟩:YH)]))] (pc h13<|pc (ZP h15)<|pc (ZI h17)<|pc (Zas h19)<|pc h20<|pc (Yk 242 [(⟨v12,x14.domain,r18.1⟩:YH)])<|pc (YR 242 (n:=l11.length) (l:=l11) (xs:= [(⟨v12,x14.domain,r18.1⟩:YH)]) h21)<|pc (rn (List.length [(⟨v12,x14.domain,r18.1⟩:YH)]))<|pn)
    ·cases h
   ·obtain rfl:=oi h;exact rl [1,2,4,5,34,35,36] [0,1,2] [.t, .row (ZK x14), .row (c90 x16), .callv (.tup [.v (.int .u32 r18.1), .y r18.2]), .f] (pc h13<|pc (ZP h15)<|pc (ZI h17)<|pc (Zas h19)<|pc h20<|pn)
  ·obtain rfl:=oi h;exact rl [4,5] [1,2] [.f] (pc h13<|pn)
 ·exact Ex.noConfusion

theorem ZeM {a1:Z2} {a2:Int} {r:((List YH))} (h:VI a1 a2=some r):
  Z7 Tryz.prog UU 177 [.agg (c31 a1), .j a2] [] ((fun r=>match r with|l27=> .os 0 l27.length) r) ((fun r=>match r with|l27=> [.w 242 l27]) r):=by
 unfold VI at h
 obtain⟨h3,h⟩|⟨h3,h⟩:=Z1 h
 ·obtain rfl:=oi h;exact rf Tryz.func177 (some [2]) [.t] (pc h3<|pn)
 ·obtain⟨h4,h⟩|⟨h4,h⟩:=Z1 h
  ·obtain rfl:=oi h;exact rf Tryz.func177 (some [2]) [.f, .t] (pc h3<|pc h4<|pn)
  ·obtain⟨x5,h6,h⟩:=bo h
   obtain⟨h7,h⟩|⟨h7,h⟩:=Z1 h
   ·obtain rfl:=oi h;exact rf Tryz.func177 (some [2]) [.f, .f, .row (c90 x5), .t] (pc h3<|pc h4<|pc (ZI h6)<|pc h7<|pn)
   ·obtain⟨r8,h9,h⟩:=bo h
    obtain⟨h10,h⟩|⟨h10,h⟩:=Z1 h
    ·obtain rfl:=oi h;exact rf Tryz.func177 (some [2]) [.f, .f, .row (c90 x5), .f, .b r8, .t] (pc h3<|pc h4<|pc (ZI h6)<|pc h7<|pc (Xi h9)<|pc h10<|pn)
    ·obtain⟨l24,h25,h⟩:=bo h
     obtain rfl:=oi h;exact rf Tryz.func177 (some [1]) [.f, .f, .row (c90 x5), .f, .b r8, .f, .sum [1,2,4,5,34,35,36] [0,1,2] (.exit 0) [(4, .os 0 0),(5, .os 1 l24.length)] [.n 242, .w 242 l24]] (pc h3<|pc h4<|pc (ZI h6)<|pc h7<|pc (Xi h9)<|pc h10<|pc (ZeL _ _ h25)<|pn)

theorem ZeN {l5:List YH} :Zx Tryz.prog UU 0 23 (Zs (Zt Tryz.f208) [1,1,0,1,0,0]) (fun s:(List Int)×Int=>match s with|(l6,v7)=>U9 l5 l6 v7)
  (fun s:(List Int)×Int=>(match s with|(l6,v7)=> [(4, .os 0 0),(5, .os 1 l6.length),(10, .os 2 l5.length),(11, .j (l5.length:Int)),(12, .j v7)]:Fr DD)) (fun s:(List Int)×Int=>(match s with|(l6,v7)=> [.n 3, .w 3 l6, .w 242 l5]:Z3 DD)) (fun r=>match r with|l15=> .exit 0) (fun r=>match r with|l15=> [(4, .os 0 0),(5, .os 1 l15.length)]) (fun r=>match r with|l15=> [.n 3, .w 3 l15]):=by
 refine Zy (fun s q h=> ?_) (fun r=> ?_)
 ·obtain⟨l6,v7⟩:=s;replace h:U9 l5 l6 v7=some q:=h
  unfold U9 at h
  obtain⟨h8,h⟩|⟨h8,h⟩:=Z1 h
  ·obtain⟨h9,h⟩|⟨h9,h⟩:=Z1 h
   ·obtain⟨x10,h11,h⟩:=bo h
    obtain⟨h12,h⟩|⟨h12,h⟩:=Z1 h
    ·obtain rfl:=oi h;exact rl [4,5,10,11,12] [0,1,2] [.t, .row (Z5w x10), .obj [] (.w 3 [x10.domain]), .obj [] (.w 3 (l6++ [x10.domain]))] (pc h8<|pc (an l5.length (Zz h9))<|pc (an l5.length (Zei h11))<|pc (Yk 3 [x10.domain])<|pc (YR 3 (n:=l6.length) (l:=l6) (xs:= [x10.domain]) h12)<|pc (rn (List.length [x10.domain]))<|pn)
    ·cases h
   ·cases h
  ·obtain rfl:=oi h;exact rl [4,5] [0,1] [.f] (pc h8<|pn)
 ·exact Ex.noConfusion

theorem ZeO {a1:Z2} {a2:Int} {r:((List Int))} (h:Z2Z a1 a2=some r):
  Z7 Tryz.prog UU 208 [.agg (c31 a1), .j a2] [] ((fun r=>match r with|l18=> .os 0 l18.length) r) ((fun r=>match r with|l18=> [.w 3 l18]) r):=by
 unfold Z2Z at h
 obtain⟨l5,h4,h⟩:=bo h
 obtain⟨l15,h16,h⟩:=bo h
 obtain rfl:=oi h;exact rf Tryz.func208 (some [1]) [.callo (.os 0 l5.length) [.w 242 l5], .sum [4,5,10,11,12] [1,2,3] (.exit 0) [(4, .os 0 0),(5, .os 1 l15.length)] [.n 3, .w 3 l15]] (pc (ZeM h4)<|pc (Zee l5)<|pc (rn l5.length)<|pc (ZeN _ _ h16)<|pn)

theorem ZeP {a1:Z2} :Zx Tryz.prog UU 0 44 (Zs (Zt Tryz.f161) [1,1,0,1,0,0]) (fun s:(List (List Int))×(List (List Int))×Int=>match s with|(l3,l4,v5)=>UN a1 l3 l4 v5)
  (fun s:(List (List Int))×(List (List Int))×Int=>(match s with|(l3,l4,v5)=> [(1, .o 0),(2, .v (.pointer none)),(3, .o 1),(14, .j (a1.domains.length:Int)),(15, .j v5)]:Fr DD)) (fun s:(List (List Int))×(List (List Int))×Int=>(match s with|(l3,l4,v5)=> [.box 31 (c31 a1) false, .box 229 [.sl 56 a1.devices, .sl 110 a1.ports, .sl 174 a1.links, .sl 90 a1.domains, .sl 178 a1.statics, .sl 113 a1.floods, .sl 88 a1.vrfs, .sl 105 a1.irbs, .os 2 (Int.toNat (a1.domains.length:Int)), .os 3 0, .os 4 l3.length, .os 5 l4.length] false, .arr 214 (List.replicate (Int.toNat (a1.domains.length:Int)) (⟨0,0⟩:Z9)) (Int.toNat (a1.domains.length:Int)) false, .n 272, .w 34 l3, .w 34 l4]:Z3 DD)) (fun r=>match r with|(l19,l20)=> .exit 0) (fun r=>match r with|(l19,l20)=> [(2, .v (.pointer none)),(3, .o 0)]) (fun r=>match r with|(l19,l20)=> [.box 229 [.sl 56 a1.devices, .sl 110 a1.ports, .sl 174 a1.links, .sl 90 a1.domains, .sl 178 a1.statics, .sl 113 a1.floods, .sl 88 a1.vrfs, .sl 105 a1.irbs, .os 1 (Int.toNat (a1.domains.length:Int)), .os 2 0, .os 3 l19.length, .os 4 l20.length] false, .arr 214 (List.replicate (Int.toNat (a1.domains.length:Int)) (⟨0,0⟩:Z9)) (Int.toNat (a1.domains.length:Int)) false, .n 272, .w 34 l19, .w 34 l20]):=by
 refine Zy (fun s q h=> ?_) (fun r=> ?_)
 ·obtain⟨l3,l4,v5⟩:=s;replace h:UN a1 l3 l4 v5=some q:=h
  unfold UN at h
  obtain⟨h6,h⟩|⟨h6,h⟩:=Z1 h
  ·obtain⟨l9,h8,h⟩:=bo h
   obtain⟨h10,h⟩|⟨h10,h⟩:=Z1 h
   ·obtain⟨l13,h12,h⟩:=bo h
    obtain⟨h14,h⟩|⟨h14,h⟩:=Z1 h
    ·obtain rfl:=oi h;exact rl [1,2,3,14,15] [0,1,2,3,4,5] [.t, .sum [7] [] .nor [] [.box 31 (c31 a1) false, .box 229 [.sl 56 a1.devices, .sl 110 a1.ports, .sl 174 a1.links, .sl 90 a1.domains, .sl 178 a1.statics, .sl 113 a1.floods, .sl 88 a1.vrfs, .sl 105 a1.irbs, .os 2 (Int.toNat (a1.domains.length:Int)), .os 3 0, .os 4 l3.length, .os 5 l4.length] false, .arr 214 (List.replicate (Int.toNat (a1.domains.length:Int)) (⟨0,0⟩:Z9)) (Int.toNat (a1.domains.length:Int)) false, .n 272, .w 34 l3, .w 34 l4, .w 3 l9], .sum [8] [] .nor [] [.box 31 (c31 a1) false, .box 229 [.sl 56 a1.devices, .sl 110 a1.ports, .sl 174 a1.links, .sl 90 a1.domains, .sl 178 a1.statics, .sl 113 a1.floods, .sl 88 a1.vrfs, .sl 105 a1.irbs, .os 2 (Int.toNat (a1.domains.length:Int)), .os 3 0, .os 4 l3.length, .os 5 l4.length] false, .arr 214 (List.replicate (Int.toNat (a1.domains.length:Int)) (⟨0,0⟩:Z9)) (Int.toNat (a1.domains.length:Int)) false, .n 272, .w 34 l3, .w 34 l4, .wt 3 l9, .w 34 [l9]], .sum [9] [] .nor [] [.box 31 (c31 a1) false, .box 229 [.sl 56 a1.devices, .sl 110 a1.ports, .sl 174 a1.links, .sl 90 a1.domains, .sl 178 a1.statics, .sl 113 a1.floods, .sl 88 a1.vrfs, .sl 105 a1.irbs, .os 2 (Int.toNat (a1.domains.length:Int)), .os 3 0, .os 4 l3.length, .os 5 l4.length] false, .arr 214 (List.replicate (Int.toNat (a1.domains.length:Int)) (⟨0,0⟩:Z9)) (Int.toNat (a1.domains.length:Int)) false, .n 272, .w 34 (l3++ [l9]), .w 34 l4, .wt 3 l9, .w 34 [l9]], .callo (.os 0 l9.length) [.w 3 l9], .obj [6] (.w 34 [l9]), .obj [] (.w 34 (l3++ [l9])), .sum [7] [] .nor [] [.box 31 (c31 a1) false, .box 229 [.sl 56 a1.devices, .sl 110 a1.ports, .sl 174 a1.links, .sl 90 a1.domains, .sl 178 a1.statics, .sl 113 a1.floods, .sl 88 a1.vrfs, .sl 105 a1.irbs, .os 2 (Int.toNat (a1.domains.length:Int)), .os 3 0, .os 4 (List.length (l3++ [l9])), .os 5 l4.length] false, .arr 214 (List.replicate (Int.toNat (a1.domains.length:Int)) (⟨0,0⟩:Z9)) (Int.toNat (a1.domains.length:Int)) false, .n 272, .w 34 (l3++ [l9]), .w 34 l4, .wt 3 l9, .w 34 [l9], .w 3 l13], .sum [8] [] .nor [] [.box 31 (c31 a1) false, .box 229 [.sl 56 a1.devices, .sl 110 a1.ports, .sl 174 a1.links, .sl 90 a1.domains, .sl 178 a1.statics, .sl 113 a1.floods, .sl 88 a1.vrfs, .sl 105 a1.irbs, .os 2 (Int.toNat (a1.domains.length:Int)), .os 3 0, .os 4 (List.length (l3++ [l9])), .os 5 l4.length] false, .arr 214 (List.replicate (Int.toNat (a1.domains.length:Int)) (⟨0,0⟩:Z9)) (Int.toNat (a1.domains.length:Int)) false, .n 272, .w 34 (l3++ [l9]), .w 34 l4, .wt 3 l9, .w 34 [l9], .wt 3 l13, .w 34 [l13]], .sum [9] [] .nor [] [.box 31 (c31 a1) false, .box 229 [.sl 56 a1.devices, .sl 110 a1.ports, .sl 174 a1.links, .sl 90 a1.domains, .sl 178 a1.statics, .sl 113 a1.floods, .sl 88 a1.vrfs, .sl 105 a1.irbs, .os 2 (Int.toNat (a1.domains.length:Int)), .os 3 0, .os 4 (List.length (l3++ [l9])), .os 5 l4.length] false, .arr 214 (List.replicate (Int.toNat (a1.domains.length:Int)) (⟨0,0⟩:Z9)) (Int.toNat (a1.domains.length:Int)) false, .n 272, .w 34 (l3++ [l9]), .w 34 (l4++ [l13]), .wt 3 l9, .w 34 [l9], .wt 3 l13, .w 34 [l13]], .callo (.os 0 l13.length) [.w 3 l13], .obj [8] (.w 34 [l13]), .obj [] (.w 34 (l4++ [l13]))] (pc h6<|pd (rr (.o 1))<|pd (rr (.o 1))<|pd (rr (.o 1))<|pc (rr (.o 1))<|pd (rr (.op 1 1 0 10))<|pd (rr (.os 4 l3.length))<|pc (rh [.box 31 (c31 a1) false, .box 229 [.sl 56 a1.devices, .sl 110 a1.ports, .sl 174 a1.links, .sl 90 a1.domains, .sl 178 a1.statics, .sl 113 a1.floods, .sl 88 a1.vrfs, .sl 105 a1.irbs, .os 2 (Int.toNat (a1.domains.length:Int)), .os 3 0, .os 4 l3.length, .os 5 l4.length] false, .arr 214 (List.replicate (Int.toNat (a1.domains.length:Int)) (⟨0,0⟩:Z9)) (Int.toNat (a1.domains.length:Int)) false, .n 272, .w 34 l3, .w 34 l4, .w 3 l9])<|pc (ZeC h8)<|pc (im3 l9)<|pc (rh [.box 31 (c31 a1) false, .box 229 [.sl 56 a1.devices, .sl 110 a1.ports, .sl 174 a1.links, .sl 90 a1.domains, .sl 178 a1.statics, .sl 113 a1.floods, .sl 88 a1.vrfs, .sl 105 a1.irbs, .os 2 (Int.toNat (a1.domains.length:Int)), .os 3 0, .os 4 l3.length, .os 5 l4.length] false, .arr 214 (List.replicate (Int.toNat (a1.domains.length:Int)) (⟨0,0⟩:Z9)) (Int.toNat (a1.domains.length:Int)) false, .n 272, .w 34 l3, .w 34 l4, .wt 3 l9, .w 34 [l9]])<|pc (Yk 34 [l9])<|pc (rn l9.length)<|pc (rh [.box 31 (c31 a1) false, .box 229 [.sl 56 a1.devices, .sl 110 a1.ports, .sl 174 a1.links, .sl 90 a1.domains, .sl 178 a1.statics, .sl 113 a1.floods, .sl 88 a1.vrfs, .sl 105 a1.irbs, .os 2 (Int.toNat (a1.domains.length:Int)), .os 3 0, .os 4 l3.length, .os 5 l4.length] false, .arr 214 (List.replicate (Int.toNat (a1.domains.length:Int)) (⟨0,0⟩:Z9)) (Int.toNat (a1.domains.length:Int)) false, .n 272, .w 34 (l3++ [l9]), .w 34 l4, .wt 3 l9, .w 34 [l9]])<|pc (YR 34 (n:=l3.length) (l:=l3) (xs:= [l9]) h10)<|pc (rn (List.length [l9]))<|pd (rr (.o 1))<|pd (rr (.o 1))<|pd (rr (.o 1))<|pc (rr (.o 1))<|pd (rr (.op 1 1 0 11))<|pd (rr (.os 5 l4.length))<|pc (rh [.box 31 (c31 a1) false, .box 229 [.sl 56 a1.devices, .sl 110 a1.ports, .sl 174 a1.links, .sl 90 a1.domains, .sl 178 a1.statics, .sl 113 a1.floods, .sl 88 a1.vrfs, .sl 105 a1.irbs, .os 2 (Int.toNat (a1.domains.length:Int)), .os 3 0, .os 4 (List.length (l3++ [l9])), .os 5 l4.length] false, .arr 214 (List.replicate (Int.toNat (a1.domains.length:Int)) (⟨0,0⟩:Z9)) (Int.toNat (a1.domains.length:Int)) false, .n 272, .w 34 (l3++ [l9]), .w 34 l4, .wt 3 l9, .w 34 [l9], .w 3 l13])<|pc (ZeO h12)<|pc (im3 l13)<|pc (rh [.box 31 (c31 a1) false, .box 229 [.sl 56 a1.devices, .sl 110 a1.ports, .sl 174 a1.links, .sl 90 a1.domains, .sl 178 a1.statics, .sl 113 a1.floods, .sl 88 a1.vrfs, .sl 105 a1.irbs, .os 2 (Int.toNat (a1.domains.length:Int)), .os 3 0, .os 4 (List.length (l3++ [l9])), .os 5 l4.length] false, .arr 214 (List.replicate (Int.toNat (a1.domains.length:Int)) (⟨0,0⟩:Z9)) (Int.toNat (a1.domains.length:Int)) false, .n 272, .w 34 (l3++ [l9]), .w 34 l4, .wt 3 l9, .w 34 [l9], .wt 3 l13, .w 34 [l13]])<|pc (Yk 34 [l13])<|pc (rn l13.length)<|pc (rh [.box 31 (c31 a1) false, .box 229 [.sl 56 a1.devices, .sl 110 a1.ports, .sl 174 a1.links, .sl 90 a1.domains, .sl 178 a1.statics, .sl 113 a1.floods, .sl 88 a1.vrfs, .sl 105 a1.irbs, .os 2 (Int.toNat (a1.domains.length:Int)), .os 3 0, .os 4 (List.length (l3++ [l9])), .os 5 l4.length] false, .arr 214 (List.replicate (Int.toNat (a1.domains.length:Int)) (⟨0,0⟩:Z9)) (Int.toNat (a1.domains.length:Int)) false, .n 272, .w 34 (l3++ [l9]), .w 34 (l4++ [l13]), .wt 3 l9, .w 34 [l9], .wt 3 l13, .w 34 [l13]])<|pc (YR 34 (n:=l4.length) (l:=l4) (xs:= [l13]) h14)<|pc (rn (List.length [l13]))<|pn)
    ·cases h
   ·cases h
  ·obtain rfl:=oi h;exact rl [2,3] [1,2,3,4,5] [.f] (pc h6<|pn)
 ·exact Ex.noConfusion

def Zat (a1:Z2):List (Zf DD):= [.box 31 (c31 a1) false, .arr 214 (List.replicate (Int.toNat (a1.domains.length:Int)) (⟨0,0⟩:Z9)) (Int.toNat (a1.domains.length:Int)) false]
theorem ZeQ {a1:Z2} {r:((List (List Int))×(List (List Int)))} (h:Z30 a1=some r):
  Z7 Tryz.prog UU 161 [.agg (c31 a1)] [] ((fun r=>match r with|(l23,l24)=> .o 0) r) ((fun r=>match r with|(l23,l24)=> [.box 229 [.sl 56 a1.devices, .sl 110 a1.ports, .sl 174 a1.links, .sl 90 a1.domains, .sl 178 a1.statics, .sl 113 a1.floods, .sl 88 a1.vrfs, .sl 105 a1.irbs, .os 1 (Int.toNat (a1.domains.length:Int)), .os 2 0, .os 3 l23.length, .os 4 l24.length] false, .arr 214 (List.replicate (Int.toNat (a1.domains.length:Int)) (⟨0,0⟩:Z9)) (Int.toNat (a1.domains.length:Int)) false, .n 272, .w 34 l23, .w 34 l24]) r):=by
 unfold Z30 at h
 obtain⟨h2,h⟩|⟨h2,h⟩:=Z1 h
 ·obtain⟨r22,h21,h⟩:=bo h
  obtain⟨l19,l20⟩:=r22
  obtain rfl:=oi h;exact rf Tryz.func161 (some [0,1,2,3,4]) [.sum [4] [] .nor [] (Zat a1), .obj [] (.arr 214 (List.replicate (Int.toNat (a1.domains.length:Int)) (⟨0,0⟩:Z9)) (Int.toNat (a1.domains.length:Int)) false), .sum [1,2,3,14,15] [0,5,1,2,3,4] (.exit 0) [(2, .v (.pointer none)),(3, .o 0)] [.box 229 [.sl 56 a1.devices, .sl 110 a1.ports, .sl 174 a1.links, .sl 90 a1.domains, .sl 178 a1.statics, .sl 113 a1.floods, .sl 88 a1.vrfs, .sl 105 a1.irbs, .os 1 (Int.toNat (a1.domains.length:Int)), .os 2 0, .os 3 l19.length, .os 4 l20.length] false, .arr 214 (List.replicate (Int.toNat (a1.domains.length:Int)) (⟨0,0⟩:Z9)) (Int.toNat (a1.domains.length:Int)) false, .n 272, .w 34 l19, .w 34 l20]] (pc (rr (.agg [.sl 56 a1.devices, .sl 110 a1.ports, .sl 174 a1.links, .sl 90 a1.domains, .sl 178 a1.statics, .sl 113 a1.floods, .sl 88 a1.vrfs, .sl 105 a1.irbs]))<|pc (rh (Zat a1))<|pc (Tk 214 (⟨0,0⟩:Z9) h2)<|pc (rn (Int.toNat (a1.domains.length:Int)))<|pc (ZeP _ _ h21)<|pn)
 ·cases h

theorem ZeR {a1:List Yy} {a2:List ZO} {a3:List Yt} {a4:List ZF} {a5:List Yz} {a6:List YA} {a7:List Yh} {a8:List Y3} {a9:List Z9} {n10:Nat} {a11:List Zw} {a12:List (List Int)} {a13:List (List Int)} {a14:Int} {a15:Z9} {r:((List Z9)×(List Zw))} (h:Z31 a1 a2 a3 a4 a5 a6 a7 a8 a9 n10 a11 a12 a13 a14 a15=some r):
  Z7 Tryz.prog UU 162 [.o 0, .j a14, .agg (XD a15)] [.box 229 [.sl 56 a1, .sl 110 a2, .sl 174 a3, .sl 90 a4, .sl 178 a5, .sl 113 a6, .sl 88 a7, .sl 105 a8, .os 1 n10, .os 2 a11.length, .os 3 a12.length, .os 4 a13.length] false, .arr 214 a9 n10 false, .w 272 a11, .w 34 a12, .w 34 a13] ((fun r=>match r with|(l23,l24)=> .tup []) r) ((fun r=>match r with|(l23,l24)=> [.box 229 [.sl 56 a1, .sl 110 a2, .sl 174 a3, .sl 90 a4, .sl 178 a5, .sl 113 a6, .sl 88 a7, .sl 105 a8, .os 1 n10, .os 2 l24.length, .os 3 a12.length, .os 4 a13.length] false, .arr 214 l23 n10 false, .w 272 l24, .w 34 a12, .w 34 a13]) r):=by
 unfold Z31 at h
 obtain⟨h16,h⟩|⟨h16,h⟩:=Z1 h
 ·obtain⟨x17,h18,h⟩:=bo h
  obtain⟨h19,h⟩|⟨h19,h⟩:=Z1 h
  ·obtain⟨x20,h21,h⟩:=bo h
   obtain⟨h22,h⟩|⟨h22,h⟩:=Z1 h
   ·obtain rfl:=oi h;exact rf Tryz.func162 (some [0,1,2,3,4]) [.row (XD x17), .t, .row (XD x20), .obj [] (.arr 214 (List.set a9 a14.toNat (⟨Y2 .i64 x17.plain a15.plain,Y2 .i64 x17.led a15.led⟩:Z9)) n10 false), .obj [] (.w 272 [(⟨(⟨a14⟩:YX),false⟩:Zw)]), .obj [] (.w 272 (a11++ [(⟨(⟨a14⟩:YX),false⟩:Zw)]))] (pc (an n10 (Zz h16))<|pc (an n10 (V3 h18))<|pc h19<|pc (an n10 (Zz h16))<|pc (XR (e:=214) (n:=n10) (l:=a9) (i:=a14.toNat) (⟨Y2 .i64 x17.plain a15.plain,Y2 .i64 x17.led a15.led⟩:Z9) [.j (Y2 .i64 x17.plain a15.plain), .j (Y2 .i64 x17.led a15.led)] (V3 h21) rfl)<|pc (Yk 272 [(⟨(⟨a14⟩:YX),false⟩:Zw)])<|pc (YR 272 (n:=a11.length) (l:=a11) (xs:= [(⟨(⟨a14⟩:YX),false⟩:Zw)]) h22)<|pc (rn (List.length [(⟨(⟨a14⟩:YX),false⟩:Zw)]))<|pn)
   ·cases h
  ·obtain rfl:=oi h;exact rf Tryz.func162 (some [0,1,2,3,4]) [.row (XD x17), .f] (pc (an n10 (Zz h16))<|pc (an n10 (V3 h18))<|pc h19<|pn)
 ·cases h

theorem Zau {a1:List Yy} {a2:List ZO} {a3:List Yt} {a4:List ZF} {a5:List Yz} {a6:List YA} {a7:List Yh} {a8:List Y3} {a9:List Z9} {n10:Nat} {a11:List Zw} {n12:Nat} {a13:List (List Int)} {a14:List (List Int)} {a15:Int} {a16:Z9} {r:((List Z9)×(List Zw)×Nat)} (h:Z0Y a1 a2 a3 a4 a5 a6 a7 a8 a9 n10 a11 n12 a13 a14 a15 a16=some r):
  Z7 Tryz.prog UU 162 [.o 0, .j a15, .agg (XD a16)] [.box 229 [.sl 56 a1, .sl 110 a2, .sl 174 a3, .sl 90 a4, .sl 178 a5, .sl 113 a6, .sl 88 a7, .sl 105 a8, .os 1 n10, .os 2 n12, .os 3 a13.length, .os 4 a14.length] false, .arr 214 a9 n10 false, .arr 272 a11 n12 false, .w 34 a13, .w 34 a14] ((fun r=>match r with|(l24,l25,n26)=> .tup []) r) ((fun r=>match r with|(l24,l25,n26)=> [.box 229 [.sl 56 a1, .sl 110 a2, .sl 174 a3, .sl 90 a4, .sl 178 a5, .sl 113 a6, .sl 88 a7, .sl 105 a8, .os 1 n10, .os 2 n26, .os 3 a13.length, .os 4 a14.length] false, .arr 214 l24 n10 false, .arr 272 l25 n26 false, .w 34 a13, .w 34 a14]) r):=by
 unfold Z0Y at h
 obtain⟨h17,h⟩|⟨h17,h⟩:=Z1 h
 ·obtain⟨x18,h19,h⟩:=bo h
  obtain⟨h20,h⟩|⟨h20,h⟩:=Z1 h
  ·obtain⟨x21,h22,h⟩:=bo h
   obtain⟨h23,h⟩|⟨h23,h⟩:=Z1 h
   ·obtain rfl:=oi h;exact rf Tryz.func162 (some [0,1,2,3,4]) [.row (XD x18), .t, .row (XD x21), .obj [] (.arr 214 (List.set a9 a15.toNat (⟨Y2 .i64 x18.plain a16.plain,Y2 .i64 x18.led a16.led⟩:Z9)) n10 false), .obj [] (.w 272 [(⟨(⟨a15⟩:YX),false⟩:Zw)]), .obj [] (.w 272 (a11++ [(⟨(⟨a15⟩:YX),false⟩:Zw)]))] (pc (an n10 (Zz h17))<|pc (an n10 (V3 h19))<|pc h20<|pc (an n10 (Zz h17))<|pc (XR (e:=214) (n:=n10) (l:=a9) (i:=a15.toNat) (⟨Y2 .i64 x18.plain a16.plain,Y2 .i64 x18.led a16.led⟩:Z9) [.j (Y2 .i64 x18.plain a16.plain), .j (Y2 .i64 x18.led a16.led)] (V3 h22) rfl)<|pc (Yk 272 [(⟨(⟨a15⟩:YX),false⟩:Zw)])<|pc (YR 272 (n:=n12) (l:=a11) (xs:= [(⟨(⟨a15⟩:YX),false⟩:Zw)]) h23)<|pc (rn (List.length [(⟨(⟨a15⟩:YX),false⟩:Zw)]))<|pn)
   ·cases h
  ·obtain rfl:=oi h;exact rf Tryz.func162 (some [0,1,2,3,4]) [.row (XD x18), .f] (pc (an n10 (Zz h17))<|pc (an n10 (V3 h19))<|pc h20<|pn)
 ·cases h

theorem ZeS {a1:List Yy} {a2:List ZO} {a3:List Yt} {a4:List ZF} {a5:List Yz} {a6:List YA} {a7:List Yh} {a8:List Y3} {n10:Nat} {a12:List (List Int)} {a13:List (List Int)} {v17:Int} {x26:Zw} {x29:Z9} {x32:List Int} :Zx Tryz.prog UU 5 85 (Zs (Zt Tryz.f163) [1,0,0,1,0,0,1,1,1,1,0,1,0,0]) (fun s:(List Z9)×(List Zw)×Nat×Int=>match s with|(l34,l35,n36,v37)=>Qd a1 a2 a3 a4 a5 a6 a7 a8 n10 a12 a13 v17 x26 x29 x32 l34 l35 n36 v37)
  (fun s:(List Z9)×(List Zw)×Nat×Int=>(match s with|(l34,l35,n36,v37)=> [(0, .o 0),(2, .j v17),(3, .j x26.task.domain),(4, .o 5),(55, .sl 3 x32),(56, .j (x32.length:Int)),(57, .j v37)]:Fr DD)) (fun s:(List Z9)×(List Zw)×Nat×Int=>(match s with|(l34,l35,n36,v37)=> [.box 229 [.sl 56 a1, .sl 110 a2, .sl 174 a3, .sl 90 a4, .sl 178 a5, .sl 113 a6, .sl 88 a7, .sl 105 a8, .os 1 n10, .os 2 n36, .os 3 a12.length, .os 4 a13.length] false, .arr 214 l34 n10 false, .arr 272 l35 n36 false, .w 34 a12, .w 34 a13, .box 214 (XD x29) false]:Z3 DD)) (fun r=>match r with|(l58,l59,n60)=> .exit 2) (fun r=>match r with|(l58,l59,n60)=> [(0, .o 0),(2, .j v17),(3, .j x26.task.domain),(4, .o 5)]) (fun r=>match r with|(l58,l59,n60)=> [.box 229 [.sl 56 a1, .sl 110 a2, .sl 174 a3, .sl 90 a4, .sl 178 a5, .sl 113 a6, .sl 88 a7, .sl 105 a8, .os 1 n10, .os 2 n60, .os 3 a12.length, .os 4 a13.length] false, .arr 214 l58 n10 false, .arr 272 l59 n60 false, .w 34 a12, .w 34 a13, .box 214 (XD x29) false]):=by
 refine Zy (fun s q h=> ?_) (fun r=> ?_)
 ·obtain⟨l34,l35,n36,v37⟩:=s;replace h:Qd a1 a2 a3 a4 a5 a6 a7 a8 n10 a12 a13 v17 x26 x29 x32 l34 l35 n36 v37=some q:=h
  unfold Qd at h
  obtain⟨h38,h⟩|⟨h38,h⟩:=Z1 h
  ·obtain⟨x39,h40,h⟩:=bo h
   obtain⟨r41,h42,h⟩:=bo h
   obtain⟨l43,l44,n45⟩:=r41
   obtain rfl:=oi h;exact rl [0,2,3,4,55,56,57] [0,1,2,3,4,5] [.t, .row (c3 x39), .callm [0,1,2,3,4] (.tup []) [.box 229 [.sl 56 a1, .sl 110 a2, .sl 174 a3, .sl 90 a4, .sl 178 a5, .sl 113 a6, .sl 88 a7, .sl 105 a8, .os 1 n10, .os 2 n45, .os 3 a12.length, .os 4 a13.length] false, .arr 214 l43 n10 false, .arr 272 l44 n45 false, .w 34 a12, .w 34 a13]] (pc h38<|pc (ob3 h40)<|pc (Zau h42)<|pn)
  ·obtain rfl:=oi h;exact rl [0,2,3,4] [0,1,2,3,4,5] [.f] (pc h38<|pn)
 ·exact Ex.noConfusion

theorem ZeT {a1:List Yy} {a2:List ZO} {a3:List Yt} {a4:List ZF} {a5:List Yz} {a6:List YA} {a7:List Yh} {a8:List Y3} {n10:Nat} {a12:List (List Int)} {a13:List (List Int)} {v17:Int} {x29:Z9} {x64:List Int} :Zx Tryz.prog UU 5 85 (Zs (Zt Tryz.f163) [1,0,0,1,0,0,1,1,1,1,1,1,0,0]) (fun s:(List Z9)×(List Zw)×Nat×Int=>match s with|(l66,l67,n68,v69)=>Qe a1 a2 a3 a4 a5 a6 a7 a8 n10 a12 a13 v17 x29 x64 l66 l67 n68 v69)
  (fun s:(List Z9)×(List Zw)×Nat×Int=>(match s with|(l66,l67,n68,v69)=> [(0, .o 0),(2, .j v17),(4, .o 5),(72, .sl 3 x64),(73, .j (x64.length:Int)),(74, .j v69)]:Fr DD)) (fun s:(List Z9)×(List Zw)×Nat×Int=>(match s with|(l66,l67,n68,v69)=> [.box 229 [.sl 56 a1, .sl 110 a2, .sl 174 a3, .sl 90 a4, .sl 178 a5, .sl 113 a6, .sl 88 a7, .sl 105 a8, .os 1 n10, .os 2 n68, .os 3 a12.length, .os 4 a13.length] false, .arr 214 l66 n10 false, .arr 272 l67 n68 false, .w 34 a12, .w 34 a13, .box 214 (XD x29) false]:Z3 DD)) (fun r=>match r with|(l84,l85,n86)=> .exit 4) (fun r=>match r with|(l84,l85,n86)=> [(0, .o 0),(2, .j v17)]) (fun r=>match r with|(l84,l85,n86)=> [.box 229 [.sl 56 a1, .sl 110 a2, .sl 174 a3, .sl 90 a4, .sl 178 a5, .sl 113 a6, .sl 88 a7, .sl 105 a8, .os 1 n10, .os 2 n86, .os 3 a12.length, .os 4 a13.length] false, .arr 214 l84 n10 false, .arr 272 l85 n86 false, .w 34 a12, .w 34 a13]):=by
 refine Zy (fun s q h=> ?_) (fun r=> ?_)
 ·obtain⟨l66,l67,n68,v69⟩:=s;replace h:Qe a1 a2 a3 a4 a5 a6 a7 a8 n10 a12 a13 v17 x29 x64 l66 l67 n68 v69=some q:=h
  unfold Qe at h
  obtain⟨h70,h⟩|⟨h70,h⟩:=Z1 h
  ·obtain⟨x71,h72,h⟩:=bo h
   obtain⟨r73,h74,h⟩:=bo h
   obtain⟨l75,l76,n77⟩:=r73
   obtain rfl:=oi h;exact rl [0,2,4,72,73,74] [0,1,2,3,4,5] [.t, .row (c3 x71), .callm [0,1,2,3,4] (.tup []) [.box 229 [.sl 56 a1, .sl 110 a2, .sl 174 a3, .sl 90 a4, .sl 178 a5, .sl 113 a6, .sl 88 a7, .sl 105 a8, .os 1 n10, .os 2 n77, .os 3 a12.length, .os 4 a13.length] false, .arr 214 l75 n10 false, .arr 272 l76 n77 false, .w 34 a12, .w 34 a13]] (pc h70<|pc (ob3 h72)<|pc (Zau h74)<|pn)
  ·obtain rfl:=oi h;exact rl [0,2] [0,1,2,3,4] [.f] (pc h70<|pn)
 ·exact Ex.noConfusion

theorem ZeU {a1:List Yy} {a2:List ZO} {a3:List Yt} {a4:List ZF} {a5:List Yz} {a6:List YA} {a7:List Yh} {a8:List Y3} {n10:Nat} {a12:List (List Int)} {a13:List (List Int)} :Zx Tryz.prog UU 5 85 (Zs (Zt Tryz.f163) [1,0,0]) (fun s:(List Z9)×(List Zw)×Nat×Int=>match s with|(l14,l15,n16,v17)=>Qf a1 a2 a3 a4 a5 a6 a7 a8 n10 a12 a13 l14 l15 n16 v17)
  (fun s:(List Z9)×(List Zw)×Nat×Int=>(match s with|(l14,l15,n16,v17)=> [(0, .o 0),(2, .j v17)]:Fr DD)) (fun s:(List Z9)×(List Zw)×Nat×Int=>(match s with|(l14,l15,n16,v17)=> [.box 229 [.sl 56 a1, .sl 110 a2, .sl 174 a3, .sl 90 a4, .sl 178 a5, .sl 113 a6, .sl 88 a7, .sl 105 a8, .os 1 n10, .os 2 n16, .os 3 a12.length, .os 4 a13.length] false, .arr 214 l14 n10 false, .arr 272 l15 n16 false, .w 34 a12, .w 34 a13]:Z3 DD)) (fun r=>match r with|(l89,l90,n91)=> .exit 0) (fun r=>match r with|(l89,l90,n91)=> []) (fun r=>match r with|(l89,l90,n91)=> [.box 229 [.sl 56 a1, .sl 110 a2, .sl 174 a3, .sl 90 a4, .sl 178 a5, .sl 113 a6, .sl 88 a7, .sl 105 a8, .os 1 n10, .os 2 n91, .os 3 a12.length, .os 4 a13.length] false, .arr 214 l89 n10 false, .arr 272 l90 n91 false, .w 34 a12, .w 34 a13]):=by
 refine Zy (fun s q h=> ?_) (fun r=> ?_)
 ·obtain⟨l14,l15,n16,v17⟩:=s;replace h:Qf a1 a2 a3 a4 a5 a6 a7 a8 n10 a12 a13 l14 l15 n16 v17=some q:=h
  unfold Qf at h
  obtain⟨h18,h⟩|⟨h18,h⟩:=Z1 h
  ·obtain⟨h19,h⟩|⟨h19,h⟩:=Z1 h
   ·obtain⟨x20,h21,h⟩:=bo h
    obtain⟨h22,h⟩|⟨h22,h⟩:=Z1 h
    ·obtain rfl:=oi h;exact rl [0,2] [0,1,2,3,4] [.t, .row (QP x20), .t] (pc (rn n16)<|pc h18<|pc (an n16 (Zz h19))<|pc (rn n16)<|pc (an n16 (Z5A h21))<|pc h22<|pn)
    ·obtain⟨x23,h24,h⟩:=bo h
     obtain⟨h25,h⟩|⟨h25,h⟩:=Z1 h
     ·obtain⟨x26,h27,h⟩:=bo h
      obtain⟨h28,h⟩|⟨h28,h⟩:=Z1 h
      ·obtain⟨x29,h30,h⟩:=bo h
       obtain⟨h31,h⟩|⟨h31,h⟩:=Z1 h
       ·obtain⟨x32,h33,h⟩:=bo h
        obtain⟨r62,h61,h⟩:=bo h
        obtain⟨l58,l59,n60⟩:=r62
        obtain⟨h63,h⟩|⟨h63,h⟩:=Z1 h
        ·obtain⟨x64,h65,h⟩:=bo h
         obtain⟨r88,h87,h⟩:=bo h
         obtain⟨l84,l85,n86⟩:=r88
         obtain rfl:=oi h;exact rl [0,2] [0,1,2,3,4] [.t, .row (QP x20), .f, .row (QP x23), .obj [] (.arr 272 (List.set l15 v17.toNat (⟨x23.task,true⟩:Zw)) n16 false), .row (QP x26), .row (XD x29), .row (c34 x32), .sum [0,2,3,4,55,56,57] [0,1,2,3,4,5] (.exit 2) [(0, .o 0),(2, .j v17),(3, .j x26.task.domain),(4, .o 5)] [.box 229 [.sl 56 a1, .sl 110 a2, .sl 174 a3, .sl 90 a4, .sl 178 a5, .sl 113 a6, .sl 88 a7, .sl 105 a8, .os 1 n10, .os 2 n60, .os 3 a12.length, .os 4 a13.length] false, .arr 214 l58 n10 false, .arr 272 l59 n60 false, .w 34 a12, .w 34 a13, .box 214 (XD x29) false], .row (c34 x64), .sum [0,2,4,72,73,74] [0,1,2,3,4,5] (.exit 4) [(0, .o 0),(2, .j v17)] [.box 229 [.sl 56 a1, .sl 110 a2, .sl 174 a3, .sl 90 a4, .sl 178 a5, .sl 113 a6, .sl 88 a7, .sl 105 a8, .os 1 n10, .os 2 n86, .os 3 a12.length, .os 4 a13.length] false, .arr 214 l84 n10 false, .arr 272 l85 n86 false, .w 34 a12, .w 34 a13]] (pc (rn n16)<|pc h18<|pc (an n16 (Zz h19))<|pc (rn n16)<|pc (an n16 (Z5A h21))<|pc h22<|pc (an n16 (Zz h19))<|pc (rn n16)<|pc (XR (e:=272) (n:=n16) (l:=l15) (i:=v17.toNat) (⟨x23.task,true⟩:Zw) [.j x23.task.domain, .y true] (Z5A h24) rfl)<|pc (an n16 (Zz h25))<|pd (rn n16)<|pc (an n16 (Z5A h27))<|pc (an n10 (Zz h28))<|pc (an n10 (V3 h30))<|pc (an a12.length (Zz h31))<|pc (an a12.length (Z9F h33))<|pc (ZeS _ _ h61)<|pc (an a13.length (Zz h63))<|pc (an a13.length (Z9F h65))<|pc (ZeT _ _ h87)<|pn)
        ·cases h
       ·cases h
      ·cases h
     ·cases h
   ·cases h
  ·obtain rfl:=oi h;exact rl [] [0,1,2,3,4] [.f] (pc (rn n16)<|pc h18<|pn)
 ·exact Ex.noConfusion

theorem ZeV {a1:List Yy} {a2:List ZO} {a3:List Yt} {a4:List ZF} {a5:List Yz} {a6:List YA} {a7:List Yh} {a8:List Y3} {a9:List Z9} {n10:Nat} {a11:List Zw} {a12:List (List Int)} {a13:List (List Int)} {r:((List Z9)×(List Zw)×Nat)} (h:Z32 a1 a2 a3 a4 a5 a6 a7 a8 a9 n10 a11 a12 a13=some r):
  Z7 Tryz.prog UU 163 [.o 0] [.box 229 [.sl 56 a1, .sl 110 a2, .sl 174 a3, .sl 90 a4, .sl 178 a5, .sl 113 a6, .sl 88 a7, .sl 105 a8, .os 1 n10, .os 2 a11.length, .os 3 a12.length, .os 4 a13.length] false, .arr 214 a9 n10 false, .w 272 a11, .w 34 a12, .w 34 a13] ((fun r=>match r with|(l94,l95,n96)=> .tup []) r) ((fun r=>match r with|(l94,l95,n96)=> [.box 229 [.sl 56 a1, .sl 110 a2, .sl 174 a3, .sl 90 a4, .sl 178 a5, .sl 113 a6, .sl 88 a7, .sl 105 a8, .os 1 n10, .os 2 n96, .os 3 a12.length, .os 4 a13.length] false, .arr 214 l94 n10 false, .arr 272 l95 n96 false, .w 34 a12, .w 34 a13]) r):=by
 unfold Z32 at h
 obtain⟨r93,h92,h⟩:=bo h
 obtain⟨l89,l90,n91⟩:=r93
 obtain rfl:=oi h;exact rf Tryz.func163 (some [0,1,2,3,4]) [.sum [0,2] [0,1,2,3,4] (.exit 0) [] [.box 229 [.sl 56 a1, .sl 110 a2, .sl 174 a3, .sl 90 a4, .sl 178 a5, .sl 113 a6, .sl 88 a7, .sl 105 a8, .os 1 n10, .os 2 n91, .os 3 a12.length, .os 4 a13.length] false, .arr 214 l89 n10 false, .arr 272 l90 n91 false, .w 34 a12, .w 34 a13]] (pc (ZeU _ _ h92)<|pn)

theorem ZeW {a1:Z2} {a2:List Int} {l8:List (List Int)} {l9:List (List Int)} {v12:Int} {l16:List Int} :Zx Tryz.prog UU 0 52 (Zs (Zt Tryz.f80) [1,1,1,0,1,0,0,1,1,0,0,1,1,0,0]) (fun s:(List Z9)×(List Zw)×Int=>match s with|(l17,l18,v19)=>Ua a1 a2 l8 l9 v12 l16 l17 l18 v19)
  (fun s:(List Z9)×(List Zw)×Int=>(match s with|(l17,l18,v19)=> [(1, .sl 3 a2),(2, .o 0),(4, .os 1 0),(5, .y false),(6, .o 2),(7, .j v12),(18, .j (a1.domains.length:Int)),(19, .j v12),(24, .os 7 l16.length),(25, .j (l16.length:Int)),(26, .j v19)]:Fr DD)) (fun s:(List Z9)×(List Zw)×Int=>(match s with|(l17,l18,v19)=> [.box 31 (c31 a1) false, .n 214, .box 229 [.sl 56 a1.devices, .sl 110 a1.ports, .sl 174 a1.links, .sl 90 a1.domains, .sl 178 a1.statics, .sl 113 a1.floods, .sl 88 a1.vrfs, .sl 105 a1.irbs, .os 3 (Int.toNat (a1.domains.length:Int)), .os 4 l18.length, .os 5 l8.length, .os 6 l9.length] false, .arr 214 l17 (Int.toNat (a1.domains.length:Int)) false, .w 272 l18, .w 34 l8, .w 34 l9, .w 3 l16]:Z3 DD)) (fun r=>match r with|(l48,l49)=> .exit 2) (fun r=>match r with|(l48,l49)=> [(1, .sl 3 a2),(2, .o 0),(4, .os 1 0),(5, .y false),(6, .o 2),(18, .j (a1.domains.length:Int)),(19, .j v12)]) (fun r=>match r with|(l48,l49)=> [.box 31 (c31 a1) false, .n 214, .box 229 [.sl 56 a1.devices, .sl 110 a1.ports, .sl 174 a1.links, .sl 90 a1.domains, .sl 178 a1.statics, .sl 113 a1.floods, .sl 88 a1.vrfs, .sl 105 a1.irbs, .os 3 (Int.toNat (a1.domains.length:Int)), .os 4 l49.length, .os 5 l8.length, .os 6 l9.length] false, .arr 214 l48 (Int.toNat (a1.domains.length:Int)) false, .w 272 l49, .w 34 l8, .w 34 l9]):=by
 refine Zy (fun s q h=> ?_) (fun r=> ?_)
 ·obtain⟨l17,l18,v19⟩:=s;replace h:Ua a1 a2 l8 l9 v12 l16 l17 l18 v19=some q:=h
  unfold Ua at h
  obtain⟨h20,h⟩|⟨h20,h⟩:=Z1 h
  ·obtain⟨h21,h⟩|⟨h21,h⟩:=Z1 h
   ·obtain⟨x22,h23,h⟩:=bo h
    obtain⟨x24,h25,h⟩:=bo h
    obtain⟨h26,h⟩|⟨h26,h⟩:=Z1 h
    ·obtain⟨x27,h28,h⟩:=bo h
     obtain⟨h29,h⟩|⟨h29,h⟩:=Z1 h
     ·obtain⟨r30,h31,h⟩:=bo h
      obtain⟨l32,l33⟩:=r30
      obtain rfl:=oi h;exact rl [1,2,4,5,6,7,18,19,24,25,26] [0,1,2,3,4,5,6,7] [.t, .row (c3 x22), .row (c3 x24), .t, .row (c3 x27), .callm [2,3,4,5,6] (.tup []) [.box 229 [.sl 56 a1.devices, .sl 110 a1.ports, .sl 174 a1.links, .sl 90 a1.domains, .sl 178 a1.statics, .sl 113 a1.floods, .sl 88 a1.vrfs, .sl 105 a1.irbs, .os 1 (Int.toNat (a1.domains.length:Int)), .os 2 l33.length, .os 3 l8.length, .os 4 l9.length] false, .arr 214 l32 (Int.toNat (a1.domains.length:Int)) false, .w 272 l33, .w 34 l8, .w 34 l9]] (pc h20<|pc (an l16.length (Zz h21))<|pc (an l16.length (YV h23))<|pc (ob3 h25)<|pc h26<|pc (ob3 h28)<|pc (of_decide_eq_true h29)<|pc (ZeR h31)<|pn)
     ·cases h
    ·obtain rfl:=oi h;exact rl [1,2,4,5,6,7,18,19,24,25,26] [0,1,2,3,4,5,6,7] [.t, .row (c3 x22), .row (c3 x24), .f] (pc h20<|pc (an l16.length (Zz h21))<|pc (an l16.length (YV h23))<|pc (ob3 h25)<|pc h26<|pn)
   ·cases h
  ·obtain rfl:=oi h;exact rl [1,2,4,5,6,18,19] [0,1,2,3,4,5,6] [.f] (pc h20<|pn)
 ·exact Ex.noConfusion

theorem ZeX {a1:Z2} {a2:List Int} {l8:List (List Int)} {l9:List (List Int)} :Zx Tryz.prog UU 0 52 (Zs (Zt Tryz.f80) [1,1,1,0,1,0,0]) (fun s:(List Z9)×(List Zw)×Int=>match s with|(l10,l11,v12)=>Qg a1 a2 l8 l9 l10 l11 v12)
  (fun s:(List Z9)×(List Zw)×Int=>(match s with|(l10,l11,v12)=> [(1, .sl 3 a2),(2, .o 0),(4, .os 1 0),(5, .y false),(6, .o 2),(18, .j (a1.domains.length:Int)),(19, .j v12)]:Fr DD)) (fun s:(List Z9)×(List Zw)×Int=>(match s with|(l10,l11,v12)=> [.box 31 (c31 a1) false, .n 214, .box 229 [.sl 56 a1.devices, .sl 110 a1.ports, .sl 174 a1.links, .sl 90 a1.domains, .sl 178 a1.statics, .sl 113 a1.floods, .sl 88 a1.vrfs, .sl 105 a1.irbs, .os 3 (Int.toNat (a1.domains.length:Int)), .os 4 l11.length, .os 5 l8.length, .os 6 l9.length] false, .arr 214 l10 (Int.toNat (a1.domains.length:Int)) false, .w 272 l11, .w 34 l8, .w 34 l9]:Z3 DD)) (fun r=>match r with|(l58,l59)=> .exit 0) (fun r=>match r with|(l58,l59)=> [(4, .os 0 0),(5, .y false),(6, .o 1)]) (fun r=>match r with|(l58,l59)=> [.n 214, .box 229 [.sl 56 a1.devices, .sl 110 a1.ports, .sl 174 a1.links, .sl 90 a1.domains, .sl 178 a1.statics, .sl 113 a1.floods, .sl 88 a1.vrfs, .sl 105 a1.irbs, .os 2 (Int.toNat (a1.domains.length:Int)), .os 3 l59.length, .os 4 l8.length, .os 5 l9.length] false, .arr 214 l58 (Int.toNat (a1.domains.length:Int)) false, .w 272 l59, .w 34 l8, .w 34 l9]):=by
 refine Zy (fun s q h=> ?_) (fun r=> ?_)
 ·obtain⟨l10,l11,v12⟩:=s;replace h:Qg a1 a2 l8 l9 l10 l11 v12=some q:=h
  unfold Qg at h
  obtain⟨h13,h⟩|⟨h13,h⟩:=Z1 h
  ·obtain⟨l16,h15,h⟩:=bo h
   obtain⟨r51,h50,h⟩:=bo h
   obtain⟨l48,l49⟩:=r51
   obtain rfl:=oi h;exact rl [1,2,4,5,6,18,19] [0,1,2,3,4,5,6] [.t, .callo (.os 0 l16.length) [.w 3 l16], .sum [1,2,4,5,6,7,18,19,24,25,26] [0,1,2,3,4,5,6,7] (.exit 2) [(1, .sl 3 a2),(2, .o 0),(4, .os 1 0),(5, .y false),(6, .o 2),(18, .j (a1.domains.length:Int)),(19, .j v12)] [.box 31 (c31 a1) false, .n 214, .box 229 [.sl 56 a1.devices, .sl 110 a1.ports, .sl 174 a1.links, .sl 90 a1.domains, .sl 178 a1.statics, .sl 113 a1.floods, .sl 88 a1.vrfs, .sl 105 a1.irbs, .os 3 (Int.toNat (a1.domains.length:Int)), .os 4 l49.length, .os 5 l8.length, .os 6 l9.length] false, .arr 214 l48 (Int.toNat (a1.domains.length:Int)) false, .w 272 l49, .w 34 l8, .w 34 l9]] (pc h13<|pc (Z7G h15)<|pc (im3 l16)<|pc (rn l16.length)<|pc (ZeW _ _ h50)<|pn)
  ·obtain rfl:=oi h;exact rl [4,5,6] [1,2,3,4,5,6] [.f] (pc h13<|pn)
 ·exact Ex.noConfusion

theorem To {a1:Z2} {a2:List Int} {r:((List Z9)×Nat×Bool)} (h:Ub a1 a2=some r):
  Z7 Tryz.prog UU 80 [.agg (c31 a1), .sl 3 a2] [] ((fun r=>match r with|(l67,n68,v69)=> .tup [.os 0 n68, .y v69]) r) ((fun r=>match r with|(l67,n68,v69)=> [.arr 214 l67 n68 false]) r):=by
 unfold Ub at h
 obtain⟨r3,h4,h⟩:=bo h
 obtain⟨h5,h⟩|⟨h5,h⟩:=Z1 h
 ·obtain rfl:=oi h;exact rf Tryz.func80 (some [2]) [.b r3, .t] (pc (Z5E h4)<|pc h5<|pn)
 ·obtain⟨r6,h7,h⟩:=bo h
  obtain⟨l8,l9⟩:=r6
  obtain⟨r61,h60,h⟩:=bo h
  obtain⟨l58,l59⟩:=r61
  obtain⟨r62,h63,h⟩:=bo h
  obtain⟨l64,l65,n66⟩:=r62
  obtain rfl:=oi h;exact rf Tryz.func80 (some [2]) [.b r3, .f, .callm [] (.o 0) [.box 229 [.sl 56 a1.devices, .sl 110 a1.ports, .sl 174 a1.links, .sl 90 a1.domains, .sl 178 a1.statics, .sl 113 a1.floods, .sl 88 a1.vrfs, .sl 105 a1.irbs, .os 1 (Int.toNat (a1.domains.length:Int)), .os 2 0, .os 3 l8.length, .os 4 l9.length] false, .arr 214 (List.replicate (Int.toNat (a1.domains.length:Int)) (⟨0,0⟩:Z9)) (Int.toNat (a1.domains.length:Int)) false, .n 272, .w 34 l8, .w 34 l9], .sum [1,2,4,5,6,18,19] [0,1,2,3,4,5,6] (.exit 0) [(4, .os 0 0),(5, .y false),(6, .o 1)] [.n 214, .box 229 [.sl 56 a1.devices, .sl 110 a1.ports, .sl 174 a1.links, .sl 90 a1.domains, .sl 178 a1.statics, .sl 113 a1.floods, .sl 88 a1.vrfs, .sl 105 a1.irbs, .os 2 (Int.toNat (a1.domains.length:Int)), .os 3 l59.length, .os 4 l8.length, .os 5 l9.length] false, .arr 214 l58 (Int.toNat (a1.domains.length:Int)) false, .w 272 l59, .w 34 l8, .w 34 l9], .callm [1,2,3,4,5] (.tup []) [.box 229 [.sl 56 a1.devices, .sl 110 a1.ports, .sl 174 a1.links, .sl 90 a1.domains, .sl 178 a1.statics, .sl 113 a1.floods, .sl 88 a1.vrfs, .sl 105 a1.irbs, .os 1 (Int.toNat (a1.domains.length:Int)), .os 2 n66, .os 3 l8.length, .os 4 l9.length] false, .arr 214 l64 (Int.toNat (a1.domains.length:Int)) false, .arr 272 l65 n66 false, .w 34 l8, .w 34 l9]] (pc (Z5E h4)<|pc h5<|pc (ZeQ h7)<|pc (ZeX _ _ h60)<|pc (ZeV h63)<|pn)

end Go.Eng
