/- Part of the proof of MatrixTells: printed mirrors of the functions, or their contracts. No conditions. -/
import Derived.Test.YtcclngfmkodgjaaGreatMAK
set_option linter.unusedVariables false
set_option maxRecDepth 100000
namespace Go.Eng
open Go Go.Proofs
theorem Z3G {a1:Z2} :Zx Tryz.prog UU 0 123 (Zs (Zt Tryz.f15) [1,1,0,1,0,0]) (ρ:=Unit⊕Unit) (Z0z a1)
  (fun v10:Int=>([(1, .o 0),(2, .y false),(3, .j v10)]:Fr DD)) (fun v10:Int=>([.box 31 (c31 a1) false]:Z3 DD)) (fun r=>match r with|Sum.inl _=> .ret|Sum.inr _=> .exit 0) (fun r=>match r with|Sum.inl _=> [(2, .y true)]|Sum.inr _=> [(1, .o 0),(2, .y false)]) (fun r=>match r with|Sum.inl _=> []|Sum.inr _=> [.box 31 (c31 a1) false]):=by
 refine Zy (fun s q h=> ?_) (fun r=> ?_)
 ·replace h:Z0z a1 s=some q:=h;revert h;revert s;intro v10 h
  unfold Z0z at h
  obtain⟨h11,h⟩|⟨h11,h⟩:=Z1 h
  ·obtain⟨x12,h13,h⟩:=bo h
   obtain⟨h14,h⟩|⟨h14,h⟩:=Z1 h
   ·obtain rfl:=oi h;exact rl [2] [] [.t, .row (Za x12), .t] (pc h11<|pc (ZA h13)<|pc h14<|pn)
   ·obtain rfl:=oi h;exact rl [1,2,3] [0] [.t, .row (Za x12), .f] (pc h11<|pc (ZA h13)<|pc h14<|pn)
  ·obtain rfl:=oi h;exact rl [1,2] [0] [.f] (pc h11<|pn)
 ·rcases r with _|_ <;> exact Ex.noConfusion

theorem Z5C {a1:Z2} :Zx Tryz.prog UU 0 123 (Zs (Zt Tryz.f15) [1,1,1,0,1,0,0]) (ρ:=Unit⊕Unit) (Z0A a1)
  (fun v17:Int=>([(1, .o 0),(2, .y false),(4, .j v17)]:Fr DD)) (fun v17:Int=>([.box 31 (c31 a1) false]:Z3 DD)) (fun r=>match r with|Sum.inl _=> .ret|Sum.inr _=> .exit 2) (fun r=>match r with|Sum.inl _=> [(2, .y true)]|Sum.inr _=> [(1, .o 0),(2, .y false)]) (fun r=>match r with|Sum.inl _=> []|Sum.inr _=> [.box 31 (c31 a1) false]):=by
 refine Zy (fun s q h=> ?_) (fun r=> ?_)
 ·replace h:Z0A a1 s=some q:=h;revert h;revert s;intro v17 h
  unfold Z0A at h
  obtain⟨h18,h⟩|⟨h18,h⟩:=Z1 h
  ·obtain⟨x19,h20,h⟩:=bo h
   obtain⟨h21,h⟩|⟨h21,h⟩:=Z1 h
   ·obtain rfl:=oi h;exact rl [2] [] [.t, .row (c90 x19), .t] (pc h18<|pc (ZI h20)<|pc h21<|pn)
   ·obtain rfl:=oi h;exact rl [1,2,4] [0] [.t, .row (c90 x19), .f] (pc h18<|pc (ZI h20)<|pc h21<|pn)
  ·obtain rfl:=oi h;exact rl [1,2] [0] [.f] (pc h18<|pn)
 ·rcases r with _|_ <;> exact Ex.noConfusion

theorem Z7A {a1:Z2} :Zx Tryz.prog UU 0 123 (Zs (Zt Tryz.f15) [1,1,1,1,0,1,0,0]) (ρ:=Unit⊕Unit) (Z0B a1)
  (fun v24:Int=>([(1, .o 0),(2, .y false),(5, .j v24)]:Fr DD)) (fun v24:Int=>([.box 31 (c31 a1) false]:Z3 DD)) (fun r=>match r with|Sum.inl _=> .ret|Sum.inr _=> .exit 4) (fun r=>match r with|Sum.inl _=> [(2, .y true)]|Sum.inr _=> [(1, .o 0),(2, .y false)]) (fun r=>match r with|Sum.inl _=> []|Sum.inr _=> [.box 31 (c31 a1) false]):=by
 refine Zy (fun s q h=> ?_) (fun r=> ?_)
 ·replace h:Z0B a1 s=some q:=h;revert h;revert s;intro v24 h
  unfold Z0B at h
  obtain⟨h25,h⟩|⟨h25,h⟩:=Z1 h
  ·obtain⟨x26,h27,h⟩:=bo h
   obtain⟨h28,h⟩|⟨h28,h⟩:=Z1 h
   ·obtain rfl:=oi h;exact rl [2] [] [.t, .row (WM x26), .t] (pc h25<|pc (Uj h27)<|pc h28<|pn)
   ·obtain rfl:=oi h;exact rl [1,2,5] [0] [.t, .row (WM x26), .f] (pc h25<|pc (Uj h27)<|pc h28<|pn)
  ·obtain rfl:=oi h;exact rl [1,2] [0] [.f] (pc h25<|pn)
 ·rcases r with _|_ <;> exact Ex.noConfusion

theorem Z9J {a1:Z2} :Zx Tryz.prog UU 0 123 (Zs (Zt Tryz.f15) [1,1,1,1,1,0,1,0,0]) (ρ:=Unit⊕Unit) (Z0C a1)
  (fun v31:Int=>([(1, .o 0),(2, .y false),(6, .j v31)]:Fr DD)) (fun v31:Int=>([.box 31 (c31 a1) false]:Z3 DD)) (fun r=>match r with|Sum.inl _=> .ret|Sum.inr _=> .exit 6) (fun r=>match r with|Sum.inl _=> [(2, .y true)]|Sum.inr _=> [(2, .y false)]) (fun r=>match r with|Sum.inl _=> []|Sum.inr _=> []):=by
 refine Zy (fun s q h=> ?_) (fun r=> ?_)
 ·replace h:Z0C a1 s=some q:=h;revert h;revert s;intro v31 h
  unfold Z0C at h
  obtain⟨h32,h⟩|⟨h32,h⟩:=Z1 h
  ·obtain⟨x33,h34,h⟩:=bo h
   obtain⟨h35,h⟩|⟨h35,h⟩:=Z1 h
   ·obtain rfl:=oi h;exact rl [2] [] [.t, .row (c88 x33), .t] (pc h32<|pc (Yv h34)<|pc h35<|pn)
   ·obtain⟨x36,h37,h⟩:=bo h
    obtain⟨h38,h⟩|⟨h38,h⟩:=Z1 h
    ·obtain rfl:=oi h;exact rl [2] [] [.t, .row (c88 x33), .f, .row (c88 x36), .t] (pc h32<|pc (Yv h34)<|pc h35<|pc (Yv h37)<|pc h38<|pn)
    ·obtain rfl:=oi h;exact rl [1,2,6] [0] [.t, .row (c88 x33), .f, .row (c88 x36), .f] (pc h32<|pc (Yv h34)<|pc h35<|pc (Yv h37)<|pc h38<|pn)
  ·obtain rfl:=oi h;exact rl [2] [] [.f] (pc h32<|pn)
 ·rcases r with _|_ <;> exact Ex.noConfusion

theorem Uk {a1:Z2} {r:Bool} (h:Z2i a1=some r):
  Z7 Tryz.prog UU 15 [.agg (c31 a1)] [] (.y r) []:=by
 unfold Z2i at h
 obtain⟨h2,h⟩|⟨h2,h⟩:=Z1 h
 ·obtain rfl:=oi h;exact rf Tryz.func15 none [.t] (pc h2<|pn)
 ·obtain⟨h3,h⟩|⟨h3,h⟩:=Z1 h
  ·obtain rfl:=oi h;exact rf Tryz.func15 none [.f, .t] (pc h2<|pc h3<|pn)
  ·obtain⟨h4,h⟩|⟨h4,h⟩:=Z1 h
   ·obtain rfl:=oi h;exact rf Tryz.func15 none [.f, .f, .t] (pc h2<|pc h3<|pc h4<|pn)
   ·obtain⟨h5,h⟩|⟨h5,h⟩:=Z1 h
    ·obtain rfl:=oi h;exact rf Tryz.func15 none [.f, .f, .f, .t] (pc h2<|pc h3<|pc h4<|pc h5<|pn)
    ·obtain⟨h6,h⟩|⟨h6,h⟩:=Z1 h
     ·obtain rfl:=oi h;exact rf Tryz.func15 none [.f, .f, .f, .f, .t] (pc h2<|pc h3<|pc h4<|pc h5<|pc h6<|pn)
     ·obtain⟨h7,h⟩|⟨h7,h⟩:=Z1 h
      ·obtain rfl:=oi h;exact rf Tryz.func15 none [.f, .f, .f, .f, .f, .t] (pc h2<|pc h3<|pc h4<|pc h5<|pc h6<|pc h7<|pn)
      ·obtain⟨h8,h⟩|⟨h8,h⟩:=Z1 h
       ·obtain rfl:=oi h;exact rf Tryz.func15 none [.f, .f, .f, .f, .f, .f, .t] (pc h2<|pc h3<|pc h4<|pc h5<|pc h6<|pc h7<|pc h8<|pn)
       ·obtain⟨h9,h⟩|⟨h9,h⟩:=Z1 h
        ·obtain rfl:=oi h;exact rf Tryz.func15 none [.f, .f, .f, .f, .f, .f, .f, .t] (pc h2<|pc h3<|pc h4<|pc h5<|pc h6<|pc h7<|pc h8<|pc h9<|pn)
        ·obtain⟨r16,h15,h⟩:=bo h
         rcases r16 with _|_
         ·obtain rfl:=oi h;exact rf Tryz.func15 none [.f, .f, .f, .f, .f, .f, .f, .f, .sum [1,2,3] [0] .ret [(2, .y true)] []] (pc h2<|pc h3<|pc h4<|pc h5<|pc h6<|pc h7<|pc h8<|pc h9<|pc (Z3G _ _ h15)<|pn)
         ·obtain⟨r23,h22,h⟩:=bo h
          rcases r23 with _|_
          ·obtain rfl:=oi h;exact rf Tryz.func15 none [.f, .f, .f, .f, .f, .f, .f, .f, .sum [1,2,3] [0] (.exit 0) [(1, .o 0),(2, .y false)] [.box 31 (c31 a1) false], .sum [1,2,4] [0] .ret [(2, .y true)] []] (pc h2<|pc h3<|pc h4<|pc h5<|pc h6<|pc h7<|pc h8<|pc h9<|pc (Z3G _ _ h15)<|pc (Z5C _ _ h22)<|pn)
          ·obtain⟨r30,h29,h⟩:=bo h
           rcases r30 with _|_
           ·obtain rfl:=oi h;exact rf Tryz.func15 none [.f, .f, .f, .f, .f, .f, .f, .f, .sum [1,2,3] [0] (.exit 0) [(1, .o 0),(2, .y false)] [.box 31 (c31 a1) false], .sum [1,2,4] [0] (.exit 2) [(1, .o 0),(2, .y false)] [.box 31 (c31 a1) false], .sum [1,2,5] [0] .ret [(2, .y true)] []] (pc h2<|pc h3<|pc h4<|pc h5<|pc h6<|pc h7<|pc h8<|pc h9<|pc (Z3G _ _ h15)<|pc (Z5C _ _ h22)<|pc (Z7A _ _ h29)<|pn)
           ·obtain⟨r40,h39,h⟩:=bo h
            rcases r40 with _|_
            ·obtain rfl:=oi h;exact rf Tryz.func15 none [.f, .f, .f, .f, .f, .f, .f, .f, .sum [1,2,3] [0] (.exit 0) [(1, .o 0),(2, .y false)] [.box 31 (c31 a1) false], .sum [1,2,4] [0] (.exit 2) [(1, .o 0),(2, .y false)] [.box 31 (c31 a1) false], .sum [1,2,5] [0] (.exit 4) [(1, .o 0),(2, .y false)] [.box 31 (c31 a1) false], .sum [1,2,6] [0] .ret [(2, .y true)] []] (pc h2<|pc h3<|pc h4<|pc h5<|pc h6<|pc h7<|pc h8<|pc h9<|pc (Z3G _ _ h15)<|pc (Z5C _ _ h22)<|pc (Z7A _ _ h29)<|pc (Z9J _ _ h39)<|pn)
            ·obtain rfl:=oi h;exact rf Tryz.func15 none [.f, .f, .f, .f, .f, .f, .f, .f, .sum [1,2,3] [0] (.exit 0) [(1, .o 0),(2, .y false)] [.box 31 (c31 a1) false], .sum [1,2,4] [0] (.exit 2) [(1, .o 0),(2, .y false)] [.box 31 (c31 a1) false], .sum [1,2,5] [0] (.exit 4) [(1, .o 0),(2, .y false)] [.box 31 (c31 a1) false], .sum [1,2,6] [0] (.exit 6) [(2, .y false)] []] (pc h2<|pc h3<|pc h4<|pc h5<|pc h6<|pc h7<|pc h8<|pc h9<|pc (Z3G _ _ h15)<|pc (Z5C _ _ h22)<|pc (Z7A _ _ h29)<|pc (Z9J _ _ h39)<|pn)

theorem Ul {a1:ZQ} {r:Bool} (h:Z2j a1=some r):
  Z7 Tryz.prog UU 124 [.agg (Yf a1)] [] (.y r) []:=by
 unfold Z2j at h
 obtain⟨h2,h⟩|⟨h2,h⟩:=Z1 h
 ·obtain⟨h3,h⟩|⟨h3,h⟩:=Z1 h
  ·obtain⟨h4,h⟩|⟨h4,h⟩:=Z1 h
   ·obtain⟨h5,h⟩|⟨h5,h⟩:=Z1 h
    ·obtain⟨h6,h⟩|⟨h6,h⟩:=Z1 h
     ·obtain⟨h7,h⟩|⟨h7,h⟩:=Z1 h
      ·obtain⟨h8,h⟩|⟨h8,h⟩:=Z1 h
       ·obtain rfl:=oi h;exact rf Tryz.func124 none [.t, .t, .t, .t, .t, .t, .t] (pc h2<|pc h3<|pc h4<|pc h5<|pc h6<|pc h7<|pc h8<|pn)
       ·obtain rfl:=oi h;exact rf Tryz.func124 none [.t, .t, .t, .t, .t, .t, .f] (pc h2<|pc h3<|pc h4<|pc h5<|pc h6<|pc h7<|pc h8<|pn)
      ·obtain rfl:=oi h;exact rf Tryz.func124 none [.t, .t, .t, .t, .t, .f] (pc h2<|pc h3<|pc h4<|pc h5<|pc h6<|pc h7<|pn)
     ·obtain rfl:=oi h;exact rf Tryz.func124 none [.t, .t, .t, .t, .f] (pc h2<|pc h3<|pc h4<|pc h5<|pc h6<|pn)
    ·obtain rfl:=oi h;exact rf Tryz.func124 none [.t, .t, .t, .f] (pc h2<|pc h3<|pc h4<|pc h5<|pn)
   ·obtain rfl:=oi h;exact rf Tryz.func124 none [.t, .t, .f] (pc h2<|pc h3<|pc h4<|pn)
  ·obtain rfl:=oi h;exact rf Tryz.func124 none [.t, .f] (pc h2<|pc h3<|pn)
 ·obtain rfl:=oi h;exact rf Tryz.func124 none [.f] (pc h2<|pn)

theorem YZ {a1:List Yy} {a2:Int} {r:Bool} (h:U6 a1 a2=some r):
  Z7 Tryz.prog UU 136 [.sl 56 a1, .j a2] [] (.y r) []:=by
 unfold U6 at h
 obtain⟨h3,h⟩|⟨h3,h⟩:=Z1 h
 ·obtain rfl:=oi h;exact rf Tryz.func136 none [.t] (pc h3<|pn)
 ·obtain rfl:=oi h;exact rf Tryz.func136 none [.f] (pc h3<|pn)

theorem Z9K {a1:ZF} {a2:Int} {a3:Int} {r:Bool} (h:Z4Y a1 a2 a3=some r):
  Z7 Tryz.prog UU 233 [.agg (c90 a1), .rp (c3 a2) 0, .rp (c3 a3) 0] [] (.y r) []:=by
 unfold Z4Y at h
 obtain⟨h4,h⟩|⟨h4,h⟩:=Z1 h
 ·obtain rfl:=oi h;exact rf Tryz.func233 none [.t] (pc h4<|pn)
 ·obtain rfl:=oi h;exact rf Tryz.func233 none [.f] (pc h4<|pn)

theorem Z9L {a1:List ZF} {a2:Int} {a3:Int} :Zx Tryz.prog UU 0 19 (Zs (Zt Tryz.f144) [1,0,1,0,0]) (ρ:=Int⊕Unit) (Z0D a1 a2 a3)
  (fun v4:Int=>([(0, .sl 90 a1),(1, .fn (.func 233) [] [.rp (c3 a2) 0, .rp (c3 a3) 0]),(4, .z),(7, .j (a1.length:Int)),(8, .j v4)]:Fr DD)) (fun v4:Int=>([]:Z3 DD)) (fun r=>match r with|Sum.inl v12=> .ret|Sum.inr _=> .exit 0) (fun r=>match r with|Sum.inl v12=> [(4, .j v12)]|Sum.inr _=> [(4, .z)]) (fun r=>match r with|Sum.inl v12=> []|Sum.inr _=> []):=by
 refine Zy (fun s q h=> ?_) (fun r=> ?_)
 ·replace h:Z0D a1 a2 a3 s=some q:=h;revert h;revert s;intro v4 h
  unfold Z0D at h
  obtain⟨h5,h⟩|⟨h5,h⟩:=Z1 h
  ·obtain⟨x6,h7,h⟩:=bo h
   obtain⟨r8,h9,h⟩:=bo h
   obtain⟨h10,h⟩|⟨h10,h⟩:=Z1 h
   ·obtain rfl:=oi h;exact rl [4] [] [.t, .row (c90 x6), .b r8, .t] (pc h5<|pc (ZI h7)<|pc (Z9K h9)<|pc h10<|pn)
   ·obtain rfl:=oi h;exact rl [0,1,4,7,8] [] [.t, .row (c90 x6), .b r8, .f] (pc h5<|pc (ZI h7)<|pc (Z9K h9)<|pc h10<|pn)
  ·obtain rfl:=oi h;exact rl [4] [] [.f] (pc h5<|pn)
 ·rcases r with _|_ <;> exact Ex.noConfusion

theorem Zeo {a1:List ZF} {a2:Int} {a3:Int} {r:Int} (h:Z2k a1 a2 a3=some r):
  Z7 Tryz.prog UU 144 [.sl 90 a1, .fn (.func 233) [] [.rp (c3 a2) 0, .rp (c3 a3) 0]] [] (.j r) []:=by
 unfold Z2k at h
 obtain⟨r14,h13,h⟩:=bo h
 rcases r14 with v12|_
 ·obtain rfl:=oi h;exact rf Tryz.func144 none [.sum [0,1,4,7,8] [] .ret [(4, .j v12)] []] (pc (Z9L _ _ h13)<|pn)
 ·obtain rfl:=oi h;exact rf Tryz.func144 none [.sum [0,1,4,7,8] [] (.exit 0) [(4, .z)] []] (pc (Z9L _ _ h13)<|pn)

theorem Z1q {a1:ZQ} {a2:Int} {a3:Int} {r:Int} (h:UJ a1 a2 a3=some r):
  Z7 Tryz.prog UU 194 [.agg (Yf a1), .j a2, .j a3] [] (.j r) []:=by
 unfold UJ at h
 obtain⟨r4,h5,h⟩:=bo h
 obtain rfl:=oi h;exact rf Tryz.func194 none [.callv (.j r4)] (pc (Zeo h5)<|pn)

theorem Z7B {a1:List Y3} {a2:Int} {r:Bool} (h:Z2l a1 a2=some r):
  Z7 Tryz.prog UU 193 [.sl 105 a1, .j a2] [] (.y r) []:=by
 unfold Z2l at h
 obtain⟨h3,h⟩|⟨h3,h⟩:=Z1 h
 ·obtain rfl:=oi h;exact rf Tryz.func193 none [.t] (pc h3<|pn)
 ·obtain rfl:=oi h;exact rf Tryz.func193 none [.f] (pc h3<|pn)

theorem Z9M {a1:ZQ} {a2:Int} {a3:ZF} {r:Bool} (h:Z2m a1 a2 a3=some r):
  Z7 Tryz.prog UU 126 [.agg (Yf a1), .j a2, .agg (c90 a3)] [] (.y r) []:=by
 unfold Z2m at h
 obtain⟨r4,h5,h⟩:=bo h
 obtain⟨h6,h⟩|⟨h6,h⟩:=Z1 h
 ·obtain⟨h7,h⟩|⟨h7,h⟩:=Z1 h
  ·obtain⟨h8,h⟩|⟨h8,h⟩:=Z1 h
   ·obtain⟨h9,h⟩|⟨h9,h⟩:=Z1 h
    ·obtain⟨h10,h⟩|⟨h10,h⟩:=Z1 h
     ·obtain⟨h11,h⟩|⟨h11,h⟩:=Z1 h
      ·obtain⟨r12,h13,h⟩:=bo h
       obtain rfl:=oi h;exact rf Tryz.func126 none [.b r4, .t, .t, .t, .t, .t, .t, .callv (.j r12)] (pc (YZ h5)<|pc h6<|pc h7<|pc h8<|pc h9<|pc h10<|pc h11<|pc (Z1q h13)<|pn)
      ·obtain⟨r14,h15,h⟩:=bo h
       obtain⟨h16,h⟩|⟨h16,h⟩:=Z1 h
       ·obtain⟨x17,h18,h⟩:=bo h
        obtain⟨h19,h⟩|⟨h19,h⟩:=Z1 h
        ·obtain⟨r20,h21,h⟩:=bo h
         obtain rfl:=oi h;exact rf Tryz.func126 none [.b r4, .t, .t, .t, .t, .t, .f, .b r14, .t, .row (ZK x17), .t, .callv (.j r20)] (pc (YZ h5)<|pc h6<|pc h7<|pc h8<|pc h9<|pc h10<|pc h11<|pc (Z7B h15)<|pc h16<|pc (ZP h18)<|pc h19<|pc (Z1q h21)<|pn)
        ·obtain rfl:=oi h;exact rf Tryz.func126 none [.b r4, .t, .t, .t, .t, .t, .f, .b r14, .t, .row (ZK x17), .f] (pc (YZ h5)<|pc h6<|pc h7<|pc h8<|pc h9<|pc h10<|pc h11<|pc (Z7B h15)<|pc h16<|pc (ZP h18)<|pc h19<|pn)
       ·obtain rfl:=oi h;exact rf Tryz.func126 none [.b r4, .t, .t, .t, .t, .t, .f, .b r14, .f] (pc (YZ h5)<|pc h6<|pc h7<|pc h8<|pc h9<|pc h10<|pc h11<|pc (Z7B h15)<|pc h16<|pn)
     ·obtain rfl:=oi h;exact rf Tryz.func126 none [.b r4, .t, .t, .t, .t, .f] (pc (YZ h5)<|pc h6<|pc h7<|pc h8<|pc h9<|pc h10<|pn)
    ·obtain rfl:=oi h;exact rf Tryz.func126 none [.b r4, .t, .t, .t, .f] (pc (YZ h5)<|pc h6<|pc h7<|pc h8<|pc h9<|pn)
   ·obtain rfl:=oi h;exact rf Tryz.func126 none [.b r4, .t, .t, .f] (pc (YZ h5)<|pc h6<|pc h7<|pc h8<|pn)
  ·obtain rfl:=oi h;exact rf Tryz.func126 none [.b r4, .t, .f] (pc (YZ h5)<|pc h6<|pc h7<|pn)
 ·obtain rfl:=oi h;exact rf Tryz.func126 none [.b r4, .f] (pc (YZ h5)<|pc h6<|pn)

theorem Z9N {a1:List ZF} {a2:ZQ} :Zx Tryz.prog UU 0 20 (Zs (Zt Tryz.f125) [1,0,1,0,0]) (ρ:=Unit⊕Unit) (Z0E a1 a2)
  (fun v3:Int=>([(1, .fn (.func 126) [.agg (Yf a2)] []),(4, .y false),(7, .sl 90 a1),(8, .j (a1.length:Int)),(9, .j v3)]:Fr DD)) (fun v3:Int=>([]:Z3 DD)) (fun r=>match r with|Sum.inl _=> .ret|Sum.inr _=> .exit 0) (fun r=>match r with|Sum.inl _=> [(4, .y false)]|Sum.inr _=> [(4, .y false)]) (fun r=>match r with|Sum.inl _=> []|Sum.inr _=> []):=by
 refine Zy (fun s q h=> ?_) (fun r=> ?_)
 ·replace h:Z0E a1 a2 s=some q:=h;revert h;revert s;intro v3 h
  unfold Z0E at h
  obtain⟨h4,h⟩|⟨h4,h⟩:=Z1 h
  ·obtain⟨x5,h6,h⟩:=bo h
   obtain⟨r7,h8,h⟩:=bo h
   obtain⟨h9,h⟩|⟨h9,h⟩:=Z1 h
   ·obtain rfl:=oi h;exact rl [4] [] [.t, .row (c90 x5), .b r7, .t] (pc h4<|pc (ZI h6)<|pc (Z9M h8)<|pc h9<|pn)
   ·obtain rfl:=oi h;exact rl [1,4,7,8,9] [] [.t, .row (c90 x5), .b r7, .f] (pc h4<|pc (ZI h6)<|pc (Z9M h8)<|pc h9<|pn)
  ·obtain rfl:=oi h;exact rl [4] [] [.f] (pc h4<|pn)
 ·rcases r with _|_ <;> exact Ex.noConfusion

theorem Tl {a1:List ZF} {a2:ZQ} {r:Bool} (h:Z2n a1 a2=some r):
  Z7 Tryz.prog UU 125 [.sl 90 a1, .fn (.func 126) [.agg (Yf a2)] []] [] (.y r) []:=by
 unfold Z2n at h
 obtain⟨r11,h10,h⟩:=bo h
 rcases r11 with _|_
 ·obtain rfl:=oi h;exact rf Tryz.func125 none [.sum [1,4,7,8,9] [] .ret [(4, .y false)] []] (pc (Z9N _ _ h10)<|pn)
 ·obtain rfl:=oi h;exact rf Tryz.func125 none [.sum [1,4,7,8,9] [] (.exit 0) [(4, .y false)] []] (pc (Z9N _ _ h10)<|pn)

theorem XS {a1:List ZF} {a2:Int} {r:Bool} (h:UK a1 a2=some r):
  Z7 Tryz.prog UU 173 [.sl 90 a1, .j a2] [] (.y r) []:=by
 unfold UK at h
 obtain⟨h3,h⟩|⟨h3,h⟩:=Z1 h
 ·obtain rfl:=oi h;exact rf Tryz.func173 none [.t] (pc h3<|pn)
 ·obtain rfl:=oi h;exact rf Tryz.func173 none [.f] (pc h3<|pn)

theorem Z3H {a1:ZQ} {a2:ZF} {r:Bool} (h:Z0F a1 a2=some r):
  Z7 Tryz.prog UU 234 [.agg (Yf a1), .agg (c90 a2)] [] (.y r) []:=by
 unfold Z0F at h
 obtain⟨x3,h4,h⟩:=bo h
 obtain rfl:=oi h;exact rf Tryz.func234 none [.row (c56 x3)] (pc (VO h4)<|pn)

theorem Z9O {a1:List Int} {a2:Int} :Zx Tryz.prog UU 0 19 (Zs (Zt Tryz.f76) [1,0,1,0,0]) (ρ:=Int⊕Unit) (Z0G a1 a2)
  (fun v3:Int=>([(0, .sl 3 a1),(1, .j a2),(4, .z),(7, .j (a1.length:Int)),(8, .j v3)]:Fr DD)) (fun v3:Int=>([]:Z3 DD)) (fun r=>match r with|Sum.inl v9=> .ret|Sum.inr _=> .exit 0) (fun r=>match r with|Sum.inl v9=> [(4, .j v9)]|Sum.inr _=> [(4, .z)]) (fun r=>match r with|Sum.inl v9=> []|Sum.inr _=> []):=by
 refine Zy (fun s q h=> ?_) (fun r=> ?_)
 ·replace h:Z0G a1 a2 s=some q:=h;revert h;revert s;intro v3 h
  unfold Z0G at h
  obtain⟨h4,h⟩|⟨h4,h⟩:=Z1 h
  ·obtain⟨x5,h6,h⟩:=bo h
   obtain⟨h7,h⟩|⟨h7,h⟩:=Z1 h
   ·obtain rfl:=oi h;exact rl [4] [] [.t, .row (c3 x5), .t] (pc h4<|pc (ob3 h6)<|pc h7<|pn)
   ·obtain rfl:=oi h;exact rl [0,1,4,7,8] [] [.t, .row (c3 x5), .f] (pc h4<|pc (ob3 h6)<|pc h7<|pn)
  ·obtain rfl:=oi h;exact rl [4] [] [.f] (pc h4<|pn)
 ·rcases r with _|_ <;> exact Ex.noConfusion

theorem Z7C {a1:List Int} {a2:Int} {r:Int} (h:TX a1 a2=some r):
  Z7 Tryz.prog UU 76 [.sl 3 a1, .j a2] [] (.j r) []:=by
 unfold TX at h
 obtain⟨r11,h10,h⟩:=bo h
 rcases r11 with v9|_
 ·obtain rfl:=oi h;exact rf Tryz.func76 none [.sum [0,1,4,7,8] [] .ret [(4, .j v9)] []] (pc (Z9O _ _ h10)<|pn)
 ·obtain rfl:=oi h;exact rf Tryz.func76 none [.sum [0,1,4,7,8] [] (.exit 0) [(4, .z)] []] (pc (Z9O _ _ h10)<|pn)

theorem Vp {a1:List Int} {a2:Int} {r:Bool} (h:U7 a1 a2=some r):
  Z7 Tryz.prog UU 97 [.sl 3 a1, .j a2] [] (.y r) []:=by
 unfold U7 at h
 obtain⟨r3,h4,h⟩:=bo h
 obtain rfl:=oi h;exact rf Tryz.func97 none [.callv (.j r3)] (pc (Z7C h4)<|pn)

theorem Z9P {a1:ZQ} {a2:Int} {a3:ZF} {a4:Int} {r:Bool} (h:Z2o a1 a2 a3 a4=some r):
  Z7 Tryz.prog UU 197 [.agg (Yf a1), .j a2, .agg (c90 a3), .j a4] [] (.y r) []:=by
 unfold Z2o at h
 obtain⟨r5,h6,h⟩:=bo h
 obtain⟨h7,h⟩|⟨h7,h⟩:=Z1 h
 ·obtain rfl:=oi h;exact rf Tryz.func197 none [.b r5, .t] (pc (XS h6)<|pc h7<|pn)
 ·obtain⟨h8,h⟩|⟨h8,h⟩:=Z1 h
  ·obtain rfl:=oi h;exact rf Tryz.func197 none [.b r5, .f, .t] (pc (XS h6)<|pc h7<|pc h8<|pn)
  ·obtain⟨x9,h10,h⟩:=bo h
   obtain⟨r11,h12,h⟩:=bo h
   obtain⟨h13,h⟩|⟨h13,h⟩:=Z1 h
   ·obtain⟨h14,h⟩|⟨h14,h⟩:=Z1 h
    ·obtain⟨h15,h⟩|⟨h15,h⟩:=Z1 h
     ·obtain⟨h16,h⟩|⟨h16,h⟩:=Z1 h
      ·obtain⟨r17,h18,h⟩:=bo h
       obtain⟨h19,h⟩|⟨h19,h⟩:=Z1 h
       ·obtain⟨r20,h21,h⟩:=bo h
        obtain⟨h22,h⟩|⟨h22,h⟩:=Z1 h
        ·obtain⟨r23,h24,h⟩:=bo h
         obtain rfl:=oi h;exact rf Tryz.func197 none [.b r5, .f, .f, .row (c90 x9), .b r11, .t, .t, .t, .t, .b r17, .t, .b r20, .t, .b r23] (pc (XS h6)<|pc h7<|pc h8<|pc (ZI h10)<|pc (YZ h12)<|pc h13<|pc h14<|pc h15<|pc h16<|pc (Z3H h18)<|pc h19<|pc (Z3H h21)<|pc h22<|pc (Vp h24)<|pn)
        ·obtain rfl:=oi h;exact rf Tryz.func197 none [.b r5, .f, .f, .row (c90 x9), .b r11, .t, .t, .t, .t, .b r17, .t, .b r20, .f] (pc (XS h6)<|pc h7<|pc h8<|pc (ZI h10)<|pc (YZ h12)<|pc h13<|pc h14<|pc h15<|pc h16<|pc (Z3H h18)<|pc h19<|pc (Z3H h21)<|pc h22<|pn)
       ·obtain rfl:=oi h;exact rf Tryz.func197 none [.b r5, .f, .f, .row (c90 x9), .b r11, .t, .t, .t, .t, .b r17, .f] (pc (XS h6)<|pc h7<|pc h8<|pc (ZI h10)<|pc (YZ h12)<|pc h13<|pc h14<|pc h15<|pc h16<|pc (Z3H h18)<|pc h19<|pn)
      ·obtain rfl:=oi h;exact rf Tryz.func197 none [.b r5, .f, .f, .row (c90 x9), .b r11, .t, .t, .t, .f] (pc (XS h6)<|pc h7<|pc h8<|pc (ZI h10)<|pc (YZ h12)<|pc h13<|pc h14<|pc h15<|pc h16<|pn)
     ·obtain rfl:=oi h;exact rf Tryz.func197 none [.b r5, .f, .f, .row (c90 x9), .b r11, .t, .t, .f] (pc (XS h6)<|pc h7<|pc h8<|pc (ZI h10)<|pc (YZ h12)<|pc h13<|pc h14<|pc h15<|pn)
    ·obtain rfl:=oi h;exact rf Tryz.func197 none [.b r5, .f, .f, .row (c90 x9), .b r11, .t, .f] (pc (XS h6)<|pc h7<|pc h8<|pc (ZI h10)<|pc (YZ h12)<|pc h13<|pc h14<|pn)
   ·obtain rfl:=oi h;exact rf Tryz.func197 none [.b r5, .f, .f, .row (c90 x9), .b r11, .f] (pc (XS h6)<|pc h7<|pc h8<|pc (ZI h10)<|pc (YZ h12)<|pc h13<|pn)

theorem Z9Q {a1:Int} {a2:Int} {a3:ZQ} {a4:Int} {a5:ZF} {r:Bool} (h:Z4Z a1 a2 a3 a4 a5=some r):
  Z7 Tryz.prog UU 196 [.j a1, .j a2, .rp (Yf a3) 0, .rp (c3 a4) 0, .rp (c90 a5) 0] [] (.y r) []:=by
 unfold Z4Z at h
 obtain⟨r6,h7,h⟩:=bo h
 obtain⟨h8,h⟩|⟨h8,h⟩:=Z1 h
 ·obtain⟨r9,h10,h⟩:=bo h
  obtain rfl:=oi h;exact rf Tryz.func196 none [.b r6, .t, .callv (.j r9)] (pc (Z9P h7)<|pc h8<|pc (Z7C h10)<|pn)
 ·obtain rfl:=oi h;exact rf Tryz.func196 none [.b r6, .f] (pc (Z9P h7)<|pc h8<|pn)

theorem Z9R {a1:List Int} {a2:ZQ} {a3:Int} {a4:ZF} :Zx Tryz.prog UU 0 20 (Zs (Zt Tryz.f195) [1,0,1,0,0]) (ρ:=Unit⊕Unit) (Z0H a1 a2 a3 a4)
  (fun v5:Int=>([(1, .fn (.func 196) [] [.rp (Yf a2) 0, .rp (c3 a3) 0, .rp (c90 a4) 0]),(4, .y false),(7, .sl 3 a1),(8, .j (a1.length:Int)),(9, .j v5)]:Fr DD)) (fun v5:Int=>([]:Z3 DD)) (fun r=>match r with|Sum.inl _=> .ret|Sum.inr _=> .exit 0) (fun r=>match r with|Sum.inl _=> [(4, .y false)]|Sum.inr _=> [(4, .y false)]) (fun r=>match r with|Sum.inl _=> []|Sum.inr _=> []):=by
 refine Zy (fun s q h=> ?_) (fun r=> ?_)
 ·replace h:Z0H a1 a2 a3 a4 s=some q:=h;revert h;revert s;intro v5 h
  unfold Z0H at h
  obtain⟨h6,h⟩|⟨h6,h⟩:=Z1 h
  ·obtain⟨x7,h8,h⟩:=bo h
   obtain⟨r9,h10,h⟩:=bo h
   obtain⟨h11,h⟩|⟨h11,h⟩:=Z1 h
   ·obtain rfl:=oi h;exact rl [4] [] [.t, .row (c3 x7), .b r9, .t] (pc h6<|pc (ob3 h8)<|pc (Z9Q h10)<|pc h11<|pn)
   ·obtain rfl:=oi h;exact rl [1,4,7,8,9] [] [.t, .row (c3 x7), .b r9, .f] (pc h6<|pc (ob3 h8)<|pc (Z9Q h10)<|pc h11<|pn)
  ·obtain rfl:=oi h;exact rl [4] [] [.f] (pc h6<|pn)
 ·rcases r with _|_ <;> exact Ex.noConfusion

theorem Zep {a1:List Int} {a2:ZQ} {a3:Int} {a4:ZF} {r:Bool} (h:Z50 a1 a2 a3 a4=some r):
  Z7 Tryz.prog UU 195 [.sl 3 a1, .fn (.func 196) [] [.rp (Yf a2) 0, .rp (c3 a3) 0, .rp (c90 a4) 0]] [] (.y r) []:=by
 unfold Z50 at h
 obtain⟨r13,h12,h⟩:=bo h
 rcases r13 with _|_
 ·obtain rfl:=oi h;exact rf Tryz.func195 none [.sum [1,4,7,8,9] [] .ret [(4, .y false)] []] (pc (Z9R _ _ h12)<|pn)
 ·obtain rfl:=oi h;exact rf Tryz.func195 none [.sum [1,4,7,8,9] [] (.exit 0) [(4, .y false)] []] (pc (Z9R _ _ h12)<|pn)

theorem Z9S {a1:ZQ} {a2:Int} {a3:ZF} {r:Bool} (h:Z2p a1 a2 a3=some r):
  Z7 Tryz.prog UU 127 [.agg (Yf a1), .j a2, .agg (c90 a3)] [] (.y r) []:=by
 unfold Z2p at h
 obtain⟨r4,h5,h⟩:=bo h
 obtain rfl:=oi h;exact rf Tryz.func127 none [.b r4] (pc (Zep h5)<|pn)

theorem Z9T {a1:List ZF} {a2:ZQ} :Zx Tryz.prog UU 0 20 (Zs (Zt Tryz.f125) [1,0,1,0,0]) (ρ:=Unit⊕Unit) (Z0I a1 a2)
  (fun v3:Int=>([(1, .fn (.func 127) [.agg (Yf a2)] []),(4, .y false),(7, .sl 90 a1),(8, .j (a1.length:Int)),(9, .j v3)]:Fr DD)) (fun v3:Int=>([]:Z3 DD)) (fun r=>match r with|Sum.inl _=> .ret|Sum.inr _=> .exit 0) (fun r=>match r with|Sum.inl _=> [(4, .y false)]|Sum.inr _=> [(4, .y false)]) (fun r=>match r with|Sum.inl _=> []|Sum.inr _=> []):=by
 refine Zy (fun s q h=> ?_) (fun r=> ?_)
 ·replace h:Z0I a1 a2 s=some q:=h;revert h;revert s;intro v3 h
  unfold Z0I at h
  obtain⟨h4,h⟩|⟨h4,h⟩:=Z1 h
  ·obtain⟨x5,h6,h⟩:=bo h
   obtain⟨r7,h8,h⟩:=bo h
   obtain⟨h9,h⟩|⟨h9,h⟩:=Z1 h
   ·obtain rfl:=oi h;exact rl [4] [] [.t, .row (c90 x5), .b r7, .t] (pc h4<|pc (ZI h6)<|pc (Z9S h8)<|pc h9<|pn)
   ·obtain rfl:=oi h;exact rl [1,4,7,8,9] [] [.t, .row (c90 x5), .b r7, .f] (pc h4<|pc (ZI h6)<|pc (Z9S h8)<|pc h9<|pn)
  ·obtain rfl:=oi h;exact rl [4] [] [.f] (pc h4<|pn)
 ·rcases r with _|_ <;> exact Ex.noConfusion

theorem QT {a1:List ZF} {a2:ZQ} {r:Bool} (h:Z2q a1 a2=some r):
  Z7 Tryz.prog UU 125 [.sl 90 a1, .fn (.func 127) [.agg (Yf a2)] []] [] (.y r) []:=by
 unfold Z2q at h
 obtain⟨r11,h10,h⟩:=bo h
 rcases r11 with _|_
 ·obtain rfl:=oi h;exact rf Tryz.func125 none [.sum [1,4,7,8,9] [] .ret [(4, .y false)] []] (pc (Z9T _ _ h10)<|pn)
 ·obtain rfl:=oi h;exact rf Tryz.func125 none [.sum [1,4,7,8,9] [] (.exit 0) [(4, .y false)] []] (pc (Z9T _ _ h10)<|pn)

theorem Z7D {a1:List Int} {a2:Int} {a3:Int} :Zx Tryz.prog UU 0 46 (Zs (Zt Tryz.f200) [1,0,1,0,0]) (ρ:=Unit⊕Unit) (TY a1 a2 a3)
  (fun v4:Int=>([(0, .sl 3 a1),(1, .j a2),(2, .j a3),(6, .y false),(9, .sl 3 a1),(10, .j (a1.length:Int)),(11, .j v4)]:Fr DD)) (fun v4:Int=>([]:Z3 DD)) (fun r=>match r with|Sum.inl _=> .ret|Sum.inr _=> .exit 0) (fun r=>match r with|Sum.inl _=> [(6, .y false)]|Sum.inr _=> [(0, .sl 3 a1),(6, .y false)]) (fun r=>match r with|Sum.inl _=> []|Sum.inr _=> []):=by
 refine Zy (fun s q h=> ?_) (fun r=> ?_)
 ·replace h:TY a1 a2 a3 s=some q:=h;revert h;revert s;intro v4 h
  unfold TY at h
  obtain⟨h5,h⟩|⟨h5,h⟩:=Z1 h
  ·obtain⟨x6,h7,h⟩:=bo h
   obtain⟨h8,h⟩|⟨h8,h⟩:=Z1 h
   ·obtain rfl:=oi h;exact rl [6] [] [.t, .row (c3 x6), .t] (pc h5<|pc (ob3 h7)<|pc h8<|pn)
   ·obtain⟨h9,h⟩|⟨h9,h⟩:=Z1 h
    ·obtain rfl:=oi h;exact rl [6] [] [.t, .row (c3 x6), .f, .t] (pc h5<|pc (ob3 h7)<|pc h8<|pc h9<|pn)
    ·obtain⟨h10,h⟩|⟨h10,h⟩:=Z1 h
     ·obtain⟨x11,h12,h⟩:=bo h
      obtain⟨h13,h⟩|⟨h13,h⟩:=Z1 h
      ·obtain rfl:=oi h;exact rl [6] [] [.t, .row (c3 x6), .f, .f, .t, .row (c3 x11), .t] (pc h5<|pc (ob3 h7)<|pc h8<|pc h9<|pc h10<|pc (ob3 h12)<|pc h13<|pn)
      ·obtain rfl:=oi h;exact rl [0,1,2,6,9,10,11] [] [.t, .row (c3 x6), .f, .f, .t, .row (c3 x11), .f] (pc h5<|pc (ob3 h7)<|pc h8<|pc h9<|pc h10<|pc (ob3 h12)<|pc h13<|pn)
     ·obtain rfl:=oi h;exact rl [0,1,2,6,9,10,11] [] [.t, .row (c3 x6), .f, .f, .f] (pc h5<|pc (ob3 h7)<|pc h8<|pc h9<|pc h10<|pn)
  ·obtain rfl:=oi h;exact rl [0,6] [] [.f] (pc h5<|pn)
 ·rcases r with _|_ <;> exact Ex.noConfusion

theorem Zeq {a1:List Int} {a2:Int} {a3:Int} {r:Bool} (h:Z2r a1 a2 a3=some r):
  Z7 Tryz.prog UU 200 [.sl 3 a1, .j a2, .j a3] [] (.y r) []:=by
 unfold Z2r at h
 obtain⟨r15,h14,h⟩:=bo h
 rcases r15 with _|_
 ·obtain rfl:=oi h;exact rf Tryz.func200 none [.sum [0,1,2,6,9,10,11] [] .ret [(6, .y false)] []] (pc (Z7D _ _ h14)<|pn)
 ·obtain⟨h16,h⟩|⟨h16,h⟩:=Z1 h
  ·obtain rfl:=oi h;exact rf Tryz.func200 none [.sum [0,1,2,6,9,10,11] [] (.exit 0) [(0, .sl 3 a1),(6, .y false)] [], .t] (pc (Z7D _ _ h14)<|pc h16<|pn)
  ·obtain rfl:=oi h;exact rf Tryz.func200 none [.sum [0,1,2,6,9,10,11] [] (.exit 0) [(0, .sl 3 a1),(6, .y false)] [], .f] (pc (Z7D _ _ h14)<|pc h16<|pn)

theorem Tm {a1:List Int} {a2:Int} {r:Bool} (h:TZ a1 a2=some r):
  Z7 Tryz.prog UU 139 [.sl 3 a1, .j a2] [] (.y r) []:=by
 unfold TZ at h
 obtain⟨h3,h⟩|⟨h3,h⟩:=Z1 h
 ·obtain rfl:=oi h;exact rf Tryz.func139 none [.t] (pc h3<|pn)
 ·obtain⟨r4,h5,h⟩:=bo h
  obtain rfl:=oi h;exact rf Tryz.func139 none [.f, .b r4] (pc h3<|pc (Zeq h5)<|pn)

theorem Z7E {a1:List Yt} {a2:Int} {r:Bool} (h:Z2s a1 a2=some r):
  Z7 Tryz.prog UU 198 [.sl 174 a1, .j a2] [] (.y r) []:=by
 unfold Z2s at h
 obtain⟨h3,h⟩|⟨h3,h⟩:=Z1 h
 ·obtain rfl:=oi h;exact rf Tryz.func198 none [.t] (pc h3<|pn)
 ·obtain rfl:=oi h;exact rf Tryz.func198 none [.f] (pc h3<|pn)

theorem QU {a1:ZQ} {a2:Int} {a3:ZO} {r:Unit⊕Unit} (h:Z51 a1 a2 a3=some r):
  YE Tryz.prog UU 0 111 (Zs (Zt Tryz.f129) [1,0]) [(1, .j a2),(3, .o 0),(5, .o 1),(6, .y false)] [.box 190 (Yf a1) false, .box 110 (Za a3) false] ((fun r=>match r with|Sum.inl _=> .ret|Sum.inr _=> .nor) r) ((fun r=>match r with|Sum.inl _=> [(6, .y false)]|Sum.inr _=> [(1, .j a2),(3, .o 0),(5, .o 1),(6, .y false)]) r) ((fun r=>match r with|Sum.inl _=> []|Sum.inr _=> [.box 190 (Yf a1) false, .box 110 (Za a3) false]) r):=by
 unfold Z51 at h
 obtain⟨r4,h5,h⟩:=bo h
 obtain⟨h6,h⟩|⟨h6,h⟩:=Z1 h
 ·obtain rfl:=oi h;exact rl [6] [] [.b r4, .t] (pc (YZ h5)<|pc h6<|pn)
 ·obtain⟨h7,h⟩|⟨h7,h⟩:=Z1 h
  ·obtain rfl:=oi h;exact rl [6] [] [.b r4, .f, .t] (pc (YZ h5)<|pc h6<|pc h7<|pn)
  ·obtain⟨h8,h⟩|⟨h8,h⟩:=Z1 h
   ·obtain rfl:=oi h;exact rl [6] [] [.b r4, .f, .f, .t] (pc (YZ h5)<|pc h6<|pc h7<|pc h8<|pn)
   ·obtain⟨r9,h10,h⟩:=bo h
    obtain⟨h11,h⟩|⟨h11,h⟩:=Z1 h
    ·obtain rfl:=oi h;exact rl [6] [] [.b r4, .f, .f, .f, .b r9, .t] (pc (YZ h5)<|pc h6<|pc h7<|pc h8<|pc (Tm h10)<|pc h11<|pn)
    ·obtain⟨r12,h13,h⟩:=bo h
     obtain⟨h14,h⟩|⟨h14,h⟩:=Z1 h
     ·obtain rfl:=oi h;exact rl [6] [] [.b r4, .f, .f, .f, .b r9, .f, .b r12, .t] (pc (YZ h5)<|pc h6<|pc h7<|pc h8<|pc (Tm h10)<|pc h11<|pc (Vp h13)<|pc h14<|pn)
     ·obtain⟨h15,h⟩|⟨h15,h⟩:=Z1 h
      ·obtain⟨h16,h⟩|⟨h16,h⟩:=Z1 h
       ·obtain rfl:=oi h;exact rl [6] [] [.b r4, .f, .f, .f, .b r9, .f, .b r12, .f, .t, .t] (pc (YZ h5)<|pc h6<|pc h7<|pc h8<|pc (Tm h10)<|pc h11<|pc (Vp h13)<|pc h14<|pc h15<|pc h16<|pn)
       ·obtain rfl:=oi h;exact rl [1,3,5,6] [0,1] [.b r4, .f, .f, .f, .b r9, .f, .b r12, .f, .t, .f] (pc (YZ h5)<|pc h6<|pc h7<|pc h8<|pc (Tm h10)<|pc h11<|pc (Vp h13)<|pc h14<|pc h15<|pc h16<|pn)
      ·obtain rfl:=oi h;exact rl [1,3,5,6] [0,1] [.b r4, .f, .f, .f, .b r9, .f, .b r12, .f, .f] (pc (YZ h5)<|pc h6<|pc h7<|pc h8<|pc (Tm h10)<|pc h11<|pc (Vp h13)<|pc h14<|pc h15<|pn)

theorem Z1r {a1:ZQ} {a2:Int} {a3:ZO} :Zx Tryz.prog UU 0 111 (Zs (Zt Tryz.f129) [1,1,0,1,0,0]) (ρ:=Unit⊕Unit) (Q0 a1 a2 a3)
  (fun v19:Int=>([(1, .j a2),(3, .o 0),(5, .o 1),(6, .y false),(51, .sl 3 a3.tagged),(52, .j (a3.tagged.length:Int)),(53, .j v19)]:Fr DD)) (fun v19:Int=>([.box 190 (Yf a1) false, .box 110 (Za a3) false]:Z3 DD)) (fun r=>match r with|Sum.inl _=> .ret|Sum.inr _=> .exit 0) (fun r=>match r with|Sum.inl _=> [(6, .y false)]|Sum.inr _=> [(1, .j a2),(3, .o 0),(5, .o 1),(6, .y false)]) (fun r=>match r with|Sum.inl _=> []|Sum.inr _=> [.box 190 (Yf a1) false, .box 110 (Za a3) false]):=by
 refine Zy (fun s q h=> ?_) (fun r=> ?_)
 ·replace h:Q0 a1 a2 a3 s=some q:=h;revert h;revert s;intro v19 h
  unfold Q0 at h
  obtain⟨h20,h⟩|⟨h20,h⟩:=Z1 h
  ·obtain⟨x21,h22,h⟩:=bo h
   obtain⟨r23,h24,h⟩:=bo h
   obtain⟨h25,h⟩|⟨h25,h⟩:=Z1 h
   ·obtain rfl:=oi h;exact rl [6] [] [.t, .row (c3 x21), .callv (.j r23), .t] (pc h20<|pc (ob3 h22)<|pc (Z1q h24)<|pc h25<|pn)
   ·obtain rfl:=oi h;exact rl [1,3,5,6,51,52,53] [0,1] [.t, .row (c3 x21), .callv (.j r23), .f] (pc h20<|pc (ob3 h22)<|pc (Z1q h24)<|pc h25<|pn)
  ·obtain rfl:=oi h;exact rl [1,3,5,6] [0,1] [.f] (pc h20<|pn)
 ·rcases r with _|_ <;> exact Ex.noConfusion

theorem Z3I {a1:ZQ} {a2:Int} {a3:ZO} {r:Unit⊕Unit} (h:Z52 a1 a2 a3=some r):
  YE Tryz.prog UU 0 111 (Zs (Zt Tryz.f129) [1,1,1,0]) [(1, .j a2),(3, .o 0),(5, .o 1),(6, .y false)] [.box 190 (Yf a1) false, .box 110 (Za a3) false] ((fun r=>match r with|Sum.inl _=> .ret|Sum.inr _=> .nor) r) ((fun r=>match r with|Sum.inl _=> [(6, .y false)]|Sum.inr _=> [(1, .j a2),(3, .o 0),(5, .o 1),(6, .y false)]) r) ((fun r=>match r with|Sum.inl _=> []|Sum.inr _=> [.box 190 (Yf a1) false, .box 110 (Za a3) false]) r):=by
 unfold Z52 at h
 obtain⟨h28,h⟩|⟨h28,h⟩:=Z1 h
 ·obtain⟨r29,h30,h⟩:=bo h
  obtain⟨h31,h⟩|⟨h31,h⟩:=Z1 h
  ·obtain rfl:=oi h;exact rl [6] [] [.t, .callv (.j r29), .t] (pc h28<|pc (Z1q h30)<|pc h31<|pn)
  ·obtain rfl:=oi h;exact rl [1,3,5,6] [0,1] [.t, .callv (.j r29), .f] (pc h28<|pc (Z1q h30)<|pc h31<|pn)
 ·obtain rfl:=oi h;exact rl [1,3,5,6] [0,1] [.f] (pc h28<|pn)

theorem Z9U {a1:ZQ} {a2:Int} {a3:ZO} {r:Bool} (h:Z2t a1 a2 a3=some r):
  Z7 Tryz.prog UU 129 [.agg (Yf a1), .j a2, .agg (Za a3)] [] (.y r) []:=by
 unfold Z2t at h
 obtain⟨r18,h17,h⟩:=bo h
 rcases r18 with _|_
 ·obtain rfl:=oi h;exact rf Tryz.func129 none [.skp, .cut [1,3,5,6] [0,1] .ret [(6, .y false)] []] (pc (QU h17)<|pn)
 ·obtain⟨r27,h26,h⟩:=bo h
  rcases r27 with _|_
  ·obtain rfl:=oi h;exact rf Tryz.func129 none [.skp, .cut [1,3,5,6] [0,1] .nor [(1, .j a2),(3, .o 0),(5, .o 1),(6, .y false)] [.box 190 (Yf a1) false, .box 110 (Za a3) false], .sum [1,3,5,6,51,52,53] [0,1] .ret [(6, .y false)] []] (pc (QU h17)<|pc (Z1r _ _ h26)<|pn)
  ·obtain⟨r33,h32,h⟩:=bo h
   rcases r33 with _|_
   ·obtain rfl:=oi h;exact rf Tryz.func129 none [.skp, .cut [1,3,5,6] [0,1] .nor [(1, .j a2),(3, .o 0),(5, .o 1),(6, .y false)] [.box 190 (Yf a1) false, .box 110 (Za a3) false], .sum [1,3,5,6,51,52,53] [0,1] (.exit 0) [(1, .j a2),(3, .o 0),(5, .o 1),(6, .y false)] [.box 190 (Yf a1) false, .box 110 (Za a3) false], .cut [1,3,5,6] [0,1] .ret [(6, .y false)] []] (pc (QU h17)<|pc (Z1r _ _ h26)<|pc (Z3I h32)<|pn)
   ·obtain⟨h34,h⟩|⟨h34,h⟩:=Z1 h
    ·obtain rfl:=oi h;exact rf Tryz.func129 none [.skp, .cut [1,3,5,6] [0,1] .nor [(1, .j a2),(3, .o 0),(5, .o 1),(6, .y false)] [.box 190 (Yf a1) false, .box 110 (Za a3) false], .sum [1,3,5,6,51,52,53] [0,1] (.exit 0) [(1, .j a2),(3, .o 0),(5, .o 1),(6, .y false)] [.box 190 (Yf a1) false, .box 110 (Za a3) false], .cut [1,3,5,6] [0,1] .nor [(1, .j a2),(3, .o 0),(5, .o 1),(6, .y false)] [.box 190 (Yf a1) false, .box 110 (Za a3) false], .t] (pc (QU h17)<|pc (Z1r _ _ h26)<|pc (Z3I h32)<|pc h34<|pn)
    ·obtain⟨r35,h36,h⟩:=bo h
     obtain⟨h37,h⟩|⟨h37,h⟩:=Z1 h
     ·obtain⟨x38,h39,h⟩:=bo h
      obtain⟨h40,h⟩|⟨h40,h⟩:=Z1 h
      ·obtain rfl:=oi h;exact rf Tryz.func129 none [.skp, .cut [1,3,5,6] [0,1] .nor [(1, .j a2),(3, .o 0),(5, .o 1),(6, .y false)] [.box 190 (Yf a1) false, .box 110 (Za a3) false], .sum [1,3,5,6,51,52,53] [0,1] (.exit 0) [(1, .j a2),(3, .o 0),(5, .o 1),(6, .y false)] [.box 190 (Yf a1) false, .box 110 (Za a3) false], .cut [1,3,5,6] [0,1] .nor [(1, .j a2),(3, .o 0),(5, .o 1),(6, .y false)] [.box 190 (Yf a1) false, .box 110 (Za a3) false], .f, .b r35, .t, .row (YY x38), .t] (pc (QU h17)<|pc (Z1r _ _ h26)<|pc (Z3I h32)<|pc h34<|pc (Z7E h36)<|pc h37<|pc (Xh h39)<|pc h40<|pn)
      ·obtain⟨x41,h42,h⟩:=bo h
       obtain rfl:=oi h;exact rf Tryz.func129 none [.skp, .cut [1,3,5,6] [0,1] .nor [(1, .j a2),(3, .o 0),(5, .o 1),(6, .y false)] [.box 190 (Yf a1) false, .box 110 (Za a3) false], .sum [1,3,5,6,51,52,53] [0,1] (.exit 0) [(1, .j a2),(3, .o 0),(5, .o 1),(6, .y false)] [.box 190 (Yf a1) false, .box 110 (Za a3) false], .cut [1,3,5,6] [0,1] .nor [(1, .j a2),(3, .o 0),(5, .o 1),(6, .y false)] [.box 190 (Yf a1) false, .box 110 (Za a3) false], .f, .b r35, .t, .row (YY x38), .f, .row (YY x41)] (pc (QU h17)<|pc (Z1r _ _ h26)<|pc (Z3I h32)<|pc h34<|pc (Z7E h36)<|pc h37<|pc (Xh h39)<|pc h40<|pc (Xh h42)<|pn)
     ·obtain rfl:=oi h;exact rf Tryz.func129 none [.skp, .cut [1,3,5,6] [0,1] .nor [(1, .j a2),(3, .o 0),(5, .o 1),(6, .y false)] [.box 190 (Yf a1) false, .box 110 (Za a3) false], .sum [1,3,5,6,51,52,53] [0,1] (.exit 0) [(1, .j a2),(3, .o 0),(5, .o 1),(6, .y false)] [.box 190 (Yf a1) false, .box 110 (Za a3) false], .cut [1,3,5,6] [0,1] .nor [(1, .j a2),(3, .o 0),(5, .o 1),(6, .y false)] [.box 190 (Yf a1) false, .box 110 (Za a3) false], .f, .b r35, .f] (pc (QU h17)<|pc (Z1r _ _ h26)<|pc (Z3I h32)<|pc h34<|pc (Z7E h36)<|pc h37<|pn)

theorem Z9V {a1:List ZO} {a2:ZQ} :Zx Tryz.prog UU 0 20 (Zs (Zt Tryz.f128) [1,0,1,0,0]) (ρ:=Unit⊕Unit) (Z0J a1 a2)
  (fun v3:Int=>([(1, .fn (.func 129) [.agg (Yf a2)] []),(4, .y false),(7, .sl 110 a1),(8, .j (a1.length:Int)),(9, .j v3)]:Fr DD)) (fun v3:Int=>([]:Z3 DD)) (fun r=>match r with|Sum.inl _=> .ret|Sum.inr _=> .exit 0) (fun r=>match r with|Sum.inl _=> [(4, .y false)]|Sum.inr _=> [(4, .y false)]) (fun r=>match r with|Sum.inl _=> []|Sum.inr _=> []):=by
 refine Zy (fun s q h=> ?_) (fun r=> ?_)
 ·replace h:Z0J a1 a2 s=some q:=h;revert h;revert s;intro v3 h
  unfold Z0J at h
  obtain⟨h4,h⟩|⟨h4,h⟩:=Z1 h
  ·obtain⟨x5,h6,h⟩:=bo h
   obtain⟨r7,h8,h⟩:=bo h
   obtain⟨h9,h⟩|⟨h9,h⟩:=Z1 h
   ·obtain rfl:=oi h;exact rl [4] [] [.t, .row (Za x5), .b r7, .t] (pc h4<|pc (ZA h6)<|pc (Z9U h8)<|pc h9<|pn)
   ·obtain rfl:=oi h;exact rl [1,4,7,8,9] [] [.t, .row (Za x5), .b r7, .f] (pc h4<|pc (ZA h6)<|pc (Z9U h8)<|pc h9<|pn)
  ·obtain rfl:=oi h;exact rl [4] [] [.f] (pc h4<|pn)
 ·rcases r with _|_ <;> exact Ex.noConfusion

theorem Z1s {a1:List ZO} {a2:ZQ} {r:Bool} (h:Z2u a1 a2=some r):
  Z7 Tryz.prog UU 128 [.sl 110 a1, .fn (.func 129) [.agg (Yf a2)] []] [] (.y r) []:=by
 unfold Z2u at h
 obtain⟨r11,h10,h⟩:=bo h
 rcases r11 with _|_
 ·obtain rfl:=oi h;exact rf Tryz.func128 none [.sum [1,4,7,8,9] [] .ret [(4, .y false)] []] (pc (Z9V _ _ h10)<|pn)
 ·obtain rfl:=oi h;exact rf Tryz.func128 none [.sum [1,4,7,8,9] [] (.exit 0) [(4, .y false)] []] (pc (Z9V _ _ h10)<|pn)

theorem V4 {a1:List ZO} {a2:Int} {r:Bool} (h:Q1 a1 a2=some r):
  Z7 Tryz.prog UU 199 [.sl 110 a1, .j a2] [] (.y r) []:=by
 unfold Q1 at h
 obtain⟨h3,h⟩|⟨h3,h⟩:=Z1 h
 ·obtain rfl:=oi h;exact rf Tryz.func199 none [.t] (pc h3<|pn)
 ·obtain rfl:=oi h;exact rf Tryz.func199 none [.f] (pc h3<|pn)

theorem Z9W {a1:ZQ} {a2:Int} {a3:Yt} {r:Bool} (h:Z2v a1 a2 a3=some r):
  Z7 Tryz.prog UU 131 [.agg (Yf a1), .j a2, .agg (YY a3)] [] (.y r) []:=by
 unfold Z2v at h
 obtain⟨r4,h5,h⟩:=bo h
 obtain⟨h6,h⟩|⟨h6,h⟩:=Z1 h
 ·obtain rfl:=oi h;exact rf Tryz.func131 none [.b r4, .t] (pc (V4 h5)<|pc h6<|pn)
 ·obtain⟨r7,h8,h⟩:=bo h
  obtain⟨h9,h⟩|⟨h9,h⟩:=Z1 h
  ·obtain rfl:=oi h;exact rf Tryz.func131 none [.b r4, .f, .b r7, .t] (pc (V4 h5)<|pc h6<|pc (V4 h8)<|pc h9<|pn)
  ·obtain⟨x10,h11,h⟩:=bo h
   obtain⟨x12,h13,h⟩:=bo h
   obtain⟨h14,h⟩|⟨h14,h⟩:=Z1 h
   ·obtain⟨h15,h⟩|⟨h15,h⟩:=Z1 h
    ·obtain rfl:=oi h;exact rf Tryz.func131 none [.b r4, .f, .b r7, .f, .row (Za x10), .row (Za x12), .t, .t] (pc (V4 h5)<|pc h6<|pc (V4 h8)<|pc h9<|pc (ZA h11)<|pc (ZA h13)<|pc h14<|pc h15<|pn)
    ·obtain rfl:=oi h;exact rf Tryz.func131 none [.b r4, .f, .b r7, .f, .row (Za x10), .row (Za x12), .t, .f] (pc (V4 h5)<|pc h6<|pc (V4 h8)<|pc h9<|pc (ZA h11)<|pc (ZA h13)<|pc h14<|pc h15<|pn)
   ·obtain rfl:=oi h;exact rf Tryz.func131 none [.b r4, .f, .b r7, .f, .row (Za x10), .row (Za x12), .f] (pc (V4 h5)<|pc h6<|pc (V4 h8)<|pc h9<|pc (ZA h11)<|pc (ZA h13)<|pc h14<|pn)

theorem Z9X {a1:List Yt} {a2:ZQ} :Zx Tryz.prog UU 0 20 (Zs (Zt Tryz.f130) [1,0,1,0,0]) (ρ:=Unit⊕Unit) (Z0K a1 a2)
  (fun v3:Int=>([(1, .fn (.func 131) [.agg (Yf a2)] []),(4, .y false),(7, .sl 174 a1),(8, .j (a1.length:Int)),(9, .j v3)]:Fr DD)) (fun v3:Int=>([]:Z3 DD)) (fun r=>match r with|Sum.inl _=> .ret|Sum.inr _=> .exit 0) (fun r=>match r with|Sum.inl _=> [(4, .y false)]|Sum.inr _=> [(4, .y false)]) (fun r=>match r with|Sum.inl _=> []|Sum.inr _=> []):=by
 refine Zy (fun s q h=> ?_) (fun r=> ?_)
 ·replace h:Z0K a1 a2 s=some q:=h;revert h;revert s;intro v3 h
  unfold Z0K at h
  obtain⟨h4,h⟩|⟨h4,h⟩:=Z1 h
  ·obtain⟨x5,h6,h⟩:=bo h
   obtain⟨r7,h8,h⟩:=bo h
   obtain⟨h9,h⟩|⟨h9,h⟩:=Z1 h
   ·obtain rfl:=oi h;exact rl [4] [] [.t, .row (YY x5), .b r7, .t] (pc h4<|pc (Xh h6)<|pc (Z9W h8)<|pc h9<|pn)
   ·obtain rfl:=oi h;exact rl [1,4,7,8,9] [] [.t, .row (YY x5), .b r7, .f] (pc h4<|pc (Xh h6)<|pc (Z9W h8)<|pc h9<|pn)
  ·obtain rfl:=oi h;exact rl [4] [] [.f] (pc h4<|pn)
 ·rcases r with _|_ <;> exact Ex.noConfusion

theorem Z3J {a1:List Yt} {a2:ZQ} {r:Bool} (h:Z2w a1 a2=some r):
  Z7 Tryz.prog UU 130 [.sl 174 a1, .fn (.func 131) [.agg (Yf a2)] []] [] (.y r) []:=by
 unfold Z2w at h
 obtain⟨r11,h10,h⟩:=bo h
 rcases r11 with _|_
 ·obtain rfl:=oi h;exact rf Tryz.func130 none [.sum [1,4,7,8,9] [] .ret [(4, .y false)] []] (pc (Z9X _ _ h10)<|pn)
 ·obtain rfl:=oi h;exact rf Tryz.func130 none [.sum [1,4,7,8,9] [] (.exit 0) [(4, .y false)] []] (pc (Z9X _ _ h10)<|pn)

theorem VP {a1:ZO} {a2:Int} {r:Bool} (h:Q2 a1 a2=some r):
  Z7 Tryz.prog UU 174 [.agg (Za a1), .j a2] [] (.y r) []:=by
 unfold Q2 at h
 obtain⟨h3,h⟩|⟨h3,h⟩:=Z1 h
 ·obtain⟨h4,h⟩|⟨h4,h⟩:=Z1 h
  ·obtain rfl:=oi h;exact rf Tryz.func174 none [.t, .t] (pc h3<|pc h4<|pn)
  ·obtain⟨r5,h6,h⟩:=bo h
   obtain rfl:=oi h;exact rf Tryz.func174 none [.t, .f, .b r5] (pc h3<|pc h4<|pc (Vp h6)<|pn)
 ·obtain rfl:=oi h;exact rf Tryz.func174 none [.f] (pc h3<|pn)

theorem Z9Y {a1:ZQ} {a2:Int} {a3:Yz} {r:Bool} (h:Z2x a1 a2 a3=some r):
  Z7 Tryz.prog UU 133 [.agg (Yf a1), .j a2, .agg (Vm a3)] [] (.y r) []:=by
 unfold Z2x at h
 obtain⟨r4,h5,h⟩:=bo h
 obtain⟨h6,h⟩|⟨h6,h⟩:=Z1 h
 ·obtain rfl:=oi h;exact rf Tryz.func133 none [.b r4, .t] (pc (XS h5)<|pc h6<|pn)
 ·obtain⟨r7,h8,h⟩:=bo h
  obtain⟨h9,h⟩|⟨h9,h⟩:=Z1 h
  ·obtain rfl:=oi h;exact rf Tryz.func133 none [.b r4, .f, .b r7, .t] (pc (XS h5)<|pc h6<|pc (V4 h8)<|pc h9<|pn)
  ·obtain⟨x10,h11,h⟩:=bo h
   obtain⟨x12,h13,h⟩:=bo h
   obtain⟨h14,h⟩|⟨h14,h⟩:=Z1 h
   ·obtain⟨r15,h16,h⟩:=bo h
    obtain rfl:=oi h;exact rf Tryz.func133 none [.b r4, .f, .b r7, .f, .row (Za x10), .row (c90 x12), .t, .b r15] (pc (XS h5)<|pc h6<|pc (V4 h8)<|pc h9<|pc (ZA h11)<|pc (ZI h13)<|pc h14<|pc (VP h16)<|pn)
   ·obtain rfl:=oi h;exact rf Tryz.func133 none [.b r4, .f, .b r7, .f, .row (Za x10), .row (c90 x12), .f] (pc (XS h5)<|pc h6<|pc (V4 h8)<|pc h9<|pc (ZA h11)<|pc (ZI h13)<|pc h14<|pn)

theorem Z9Z {a1:List Yz} {a2:ZQ} :Zx Tryz.prog UU 0 20 (Zs (Zt Tryz.f132) [1,0,1,0,0]) (ρ:=Unit⊕Unit) (Z0L a1 a2)
  (fun v3:Int=>([(1, .fn (.func 133) [.agg (Yf a2)] []),(4, .y false),(7, .sl 178 a1),(8, .j (a1.length:Int)),(9, .j v3)]:Fr DD)) (fun v3:Int=>([]:Z3 DD)) (fun r=>match r with|Sum.inl _=> .ret|Sum.inr _=> .exit 0) (fun r=>match r with|Sum.inl _=> [(4, .y false)]|Sum.inr _=> [(4, .y false)]) (fun r=>match r with|Sum.inl _=> []|Sum.inr _=> []):=by
 refine Zy (fun s q h=> ?_) (fun r=> ?_)
 ·replace h:Z0L a1 a2 s=some q:=h;revert h;revert s;intro v3 h
  unfold Z0L at h
  obtain⟨h4,h⟩|⟨h4,h⟩:=Z1 h
  ·obtain⟨x5,h6,h⟩:=bo h
   obtain⟨r7,h8,h⟩:=bo h
   obtain⟨h9,h⟩|⟨h9,h⟩:=Z1 h
   ·obtain rfl:=oi h;exact rl [4] [] [.t, .row (Vm x5), .b r7, .t] (pc h4<|pc (QS h6)<|pc (Z9Y h8)<|pc h9<|pn)
   ·obtain rfl:=oi h;exact rl [1,4,7,8,9] [] [.t, .row (Vm x5), .b r7, .f] (pc h4<|pc (QS h6)<|pc (Z9Y h8)<|pc h9<|pn)
  ·obtain rfl:=oi h;exact rl [4] [] [.f] (pc h4<|pn)
 ·rcases r with _|_ <;> exact Ex.noConfusion

theorem Z5D {a1:List Yz} {a2:ZQ} {r:Bool} (h:Z2y a1 a2=some r):
  Z7 Tryz.prog UU 132 [.sl 178 a1, .fn (.func 133) [.agg (Yf a2)] []] [] (.y r) []:=by
 unfold Z2y at h
 obtain⟨r11,h10,h⟩:=bo h
 rcases r11 with _|_
 ·obtain rfl:=oi h;exact rf Tryz.func132 none [.sum [1,4,7,8,9] [] .ret [(4, .y false)] []] (pc (Z9Z _ _ h10)<|pn)
 ·obtain rfl:=oi h;exact rf Tryz.func132 none [.sum [1,4,7,8,9] [] (.exit 0) [(4, .y false)] []] (pc (Z9Z _ _ h10)<|pn)

theorem Za0 {a1:Int} {a2:YA} {a3:Z2} {r:Bool} (h:Z2z a1 a2 a3=some r):
  Z7 Tryz.prog UU 135 [.j a1, .agg (WM a2), .rp (c31 a3) 0] [] (.y r) []:=by
 unfold Z2z at h
 obtain⟨r4,h5,h⟩:=bo h
 obtain⟨h6,h⟩|⟨h6,h⟩:=Z1 h
 ·obtain rfl:=oi h;exact rf Tryz.func135 none [.b r4, .t] (pc (YZ h5)<|pc h6<|pn)
 ·obtain rfl:=oi h;exact rf Tryz.func135 none [.b r4, .f] (pc (YZ h5)<|pc h6<|pn)

theorem Za1 {a1:List YA} {a2:Z2} :Zx Tryz.prog UU 0 20 (Zs (Zt Tryz.f134) [1,0,1,0,0]) (ρ:=Unit⊕Unit) (Z0M a1 a2)
  (fun v3:Int=>([(1, .fn (.func 135) [] [.rp (c31 a2) 0]),(4, .y false),(7, .sl 113 a1),(8, .j (a1.length:Int)),(9, .j v3)]:Fr DD)) (fun v3:Int=>([]:Z3 DD)) (fun r=>match r with|Sum.inl _=> .ret|Sum.inr _=> .exit 0) (fun r=>match r with|Sum.inl _=> [(4, .y false)]|Sum.inr _=> [(4, .y false)]) (fun r=>match r with|Sum.inl _=> []|Sum.inr _=> []):=by
 refine Zy (fun s q h=> ?_) (fun r=> ?_)
 ·replace h:Z0M a1 a2 s=some q:=h;revert h;revert s;intro v3 h
  unfold Z0M at h
  obtain⟨h4,h⟩|⟨h4,h⟩:=Z1 h
  ·obtain⟨x5,h6,h⟩:=bo h
   obtain⟨r7,h8,h⟩:=bo h
   obtain⟨h9,h⟩|⟨h9,h⟩:=Z1 h
   ·obtain rfl:=oi h;exact rl [4] [] [.t, .row (WM x5), .b r7, .t] (pc h4<|pc (Uj h6)<|pc (Za0 h8)<|pc h9<|pn)
   ·obtain rfl:=oi h;exact rl [1,4,7,8,9] [] [.t, .row (WM x5), .b r7, .f] (pc h4<|pc (Uj h6)<|pc (Za0 h8)<|pc h9<|pn)
  ·obtain rfl:=oi h;exact rl [4] [] [.f] (pc h4<|pn)
 ·rcases r with _|_ <;> exact Ex.noConfusion

theorem Z7F {a1:List YA} {a2:Z2} {r:Bool} (h:Z2A a1 a2=some r):
  Z7 Tryz.prog UU 134 [.sl 113 a1, .fn (.func 135) [] [.rp (c31 a2) 0]] [] (.y r) []:=by
 unfold Z2A at h
 obtain⟨r11,h10,h⟩:=bo h
 rcases r11 with _|_
 ·obtain rfl:=oi h;exact rf Tryz.func134 none [.sum [1,4,7,8,9] [] .ret [(4, .y false)] []] (pc (Za1 _ _ h10)<|pn)
 ·obtain rfl:=oi h;exact rf Tryz.func134 none [.sum [1,4,7,8,9] [] (.exit 0) [(4, .y false)] []] (pc (Za1 _ _ h10)<|pn)

theorem Za2 {a1:Int} {a2:Yh} {a3:Z2} {r:Bool} (h:Z2B a1 a2 a3=some r):
  Z7 Tryz.prog UU 138 [.j a1, .agg (c88 a2), .rp (c31 a3) 0] [] (.y r) []:=by
 unfold Z2B at h
 obtain⟨r4,h5,h⟩:=bo h
 obtain⟨h6,h⟩|⟨h6,h⟩:=Z1 h
 ·obtain⟨r7,h8,h⟩:=bo h
  obtain⟨h9,h⟩|⟨h9,h⟩:=Z1 h
  ·obtain⟨r10,h11,h⟩:=bo h
   obtain rfl:=oi h;exact rf Tryz.func138 none [.b r4, .t, .b r7, .t, .b r10] (pc (YZ h5)<|pc h6<|pc (Tm h8)<|pc h9<|pc (Tm h11)<|pn)
  ·obtain rfl:=oi h;exact rf Tryz.func138 none [.b r4, .t, .b r7, .f] (pc (YZ h5)<|pc h6<|pc (Tm h8)<|pc h9<|pn)
 ·obtain rfl:=oi h;exact rf Tryz.func138 none [.b r4, .f] (pc (YZ h5)<|pc h6<|pn)

theorem Za3 {a1:List Yh} {a2:Z2} :Zx Tryz.prog UU 0 20 (Zs (Zt Tryz.f137) [1,0,1,0,0]) (ρ:=Unit⊕Unit) (Z0N a1 a2)
  (fun v3:Int=>([(1, .fn (.func 138) [] [.rp (c31 a2) 0]),(4, .y false),(7, .sl 88 a1),(8, .j (a1.length:Int)),(9, .j v3)]:Fr DD)) (fun v3:Int=>([]:Z3 DD)) (fun r=>match r with|Sum.inl _=> .ret|Sum.inr _=> .exit 0) (fun r=>match r with|Sum.inl _=> [(4, .y false)]|Sum.inr _=> [(4, .y false)]) (fun r=>match r with|Sum.inl _=> []|Sum.inr _=> []):=by
 refine Zy (fun s q h=> ?_) (fun r=> ?_)
 ·replace h:Z0N a1 a2 s=some q:=h;revert h;revert s;intro v3 h
  unfold Z0N at h
  obtain⟨h4,h⟩|⟨h4,h⟩:=Z1 h
  ·obtain⟨x5,h6,h⟩:=bo h
   obtain⟨r7,h8,h⟩:=bo h
   obtain⟨h9,h⟩|⟨h9,h⟩:=Z1 h
   ·obtain rfl:=oi h;exact rl [4] [] [.t, .row (c88 x5), .b r7, .t] (pc h4<|pc (Yv h6)<|pc (Za2 h8)<|pc h9<|pn)
   ·obtain rfl:=oi h;exact rl [1,4,7,8,9] [] [.t, .row (c88 x5), .b r7, .f] (pc h4<|pc (Yv h6)<|pc (Za2 h8)<|pc h9<|pn)
  ·obtain rfl:=oi h;exact rl [4] [] [.f] (pc h4<|pn)
 ·rcases r with _|_ <;> exact Ex.noConfusion

theorem Za4 {a1:List Yh} {a2:Z2} {r:Bool} (h:Z2C a1 a2=some r):
  Z7 Tryz.prog UU 137 [.sl 88 a1, .fn (.func 138) [] [.rp (c31 a2) 0]] [] (.y r) []:=by
 unfold Z2C at h
 obtain⟨r11,h10,h⟩:=bo h
 rcases r11 with _|_
 ·obtain rfl:=oi h;exact rf Tryz.func137 none [.sum [1,4,7,8,9] [] .ret [(4, .y false)] []] (pc (Za3 _ _ h10)<|pn)
 ·obtain rfl:=oi h;exact rf Tryz.func137 none [.sum [1,4,7,8,9] [] (.exit 0) [(4, .y false)] []] (pc (Za3 _ _ h10)<|pn)

theorem Z3K {a1:List Yh} {a2:Int} {r:Bool} (h:Z2D a1 a2=some r):
  Z7 Tryz.prog UU 201 [.sl 88 a1, .j a2] [] (.y r) []:=by
 unfold Z2D at h
 obtain⟨h3,h⟩|⟨h3,h⟩:=Z1 h
 ·obtain rfl:=oi h;exact rf Tryz.func201 none [.t] (pc h3<|pn)
 ·obtain rfl:=oi h;exact rf Tryz.func201 none [.f] (pc h3<|pn)

theorem Za5 {a1:ZQ} {a2:Int} {a3:Y3} {r:Bool} (h:Z2E a1 a2 a3=some r):
  Z7 Tryz.prog UU 141 [.agg (Yf a1), .j a2, .agg (ZK a3)] [] (.y r) []:=by
 unfold Z2E at h
 obtain⟨r4,h5,h⟩:=bo h
 obtain⟨h6,h⟩|⟨h6,h⟩:=Z1 h
 ·obtain⟨r7,h8,h⟩:=bo h
  obtain⟨h9,h⟩|⟨h9,h⟩:=Z1 h
  ·obtain⟨x10,h11,h⟩:=bo h
   obtain⟨x12,h13,h⟩:=bo h
   obtain⟨h14,h⟩|⟨h14,h⟩:=Z1 h
   ·obtain⟨x15,h16,h⟩:=bo h
    obtain⟨h17,h⟩|⟨h17,h⟩:=Z1 h
    ·obtain⟨h18,h⟩|⟨h18,h⟩:=Z1 h
     ·obtain rfl:=oi h;exact rf Tryz.func141 none [.b r4, .t, .b r7, .t, .row (c90 x10), .row (c88 x12), .t, .row (c90 x15), .t, .t] (pc (XS h5)<|pc h6<|pc (Z3K h8)<|pc h9<|pc (ZI h11)<|pc (Yv h13)<|pc h14<|pc (ZI h16)<|pc h17<|pc h18<|pn)
     ·obtain rfl:=oi h;exact rf Tryz.func141 none [.b r4, .t, .b r7, .t, .row (c90 x10), .row (c88 x12), .t, .row (c90 x15), .t, .f] (pc (XS h5)<|pc h6<|pc (Z3K h8)<|pc h9<|pc (ZI h11)<|pc (Yv h13)<|pc h14<|pc (ZI h16)<|pc h17<|pc h18<|pn)
    ·obtain rfl:=oi h;exact rf Tryz.func141 none [.b r4, .t, .b r7, .t, .row (c90 x10), .row (c88 x12), .t, .row (c90 x15), .f] (pc (XS h5)<|pc h6<|pc (Z3K h8)<|pc h9<|pc (ZI h11)<|pc (Yv h13)<|pc h14<|pc (ZI h16)<|pc h17<|pn)
   ·obtain rfl:=oi h;exact rf Tryz.func141 none [.b r4, .t, .b r7, .t, .row (c90 x10), .row (c88 x12), .f] (pc (XS h5)<|pc h6<|pc (Z3K h8)<|pc h9<|pc (ZI h11)<|pc (Yv h13)<|pc h14<|pn)
  ·obtain rfl:=oi h;exact rf Tryz.func141 none [.b r4, .t, .b r7, .f] (pc (XS h5)<|pc h6<|pc (Z3K h8)<|pc h9<|pn)
 ·obtain rfl:=oi h;exact rf Tryz.func141 none [.b r4, .f] (pc (XS h5)<|pc h6<|pn)

theorem Za6 {a1:List Y3} {a2:ZQ} :Zx Tryz.prog UU 0 20 (Zs (Zt Tryz.f140) [1,0,1,0,0]) (ρ:=Unit⊕Unit) (Z0O a1 a2)
  (fun v3:Int=>([(1, .fn (.func 141) [.agg (Yf a2)] []),(4, .y false),(7, .sl 105 a1),(8, .j (a1.length:Int)),(9, .j v3)]:Fr DD)) (fun v3:Int=>([]:Z3 DD)) (fun r=>match r with|Sum.inl _=> .ret|Sum.inr _=> .exit 0) (fun r=>match r with|Sum.inl _=> [(4, .y false)]|Sum.inr _=> [(4, .y false)]) (fun r=>match r with|Sum.inl _=> []|Sum.inr _=> []):=by
 refine Zy (fun s q h=> ?_) (fun r=> ?_)
 ·replace h:Z0O a1 a2 s=some q:=h;revert h;revert s;intro v3 h
  unfold Z0O at h
  obtain⟨h4,h⟩|⟨h4,h⟩:=Z1 h
  ·obtain⟨x5,h6,h⟩:=bo h
   obtain⟨r7,h8,h⟩:=bo h
   obtain⟨h9,h⟩|⟨h9,h⟩:=Z1 h
   ·obtain rfl:=oi h;exact rl [4] [] [.t, .row (ZK x5), .b r7, .t] (pc h4<|pc (ZP h6)<|pc (Za5 h8)<|pc h9<|pn)
   ·obtain rfl:=oi h;exact rl [1,4,7,8,9] [] [.t, .row (ZK x5), .b r7, .f] (pc h4<|pc (ZP h6)<|pc (Za5 h8)<|pc h9<|pn)
  ·obtain rfl:=oi h;exact rl [4] [] [.f] (pc h4<|pn)
 ·rcases r with _|_ <;> exact Ex.noConfusion

theorem Zer {a1:List Y3} {a2:ZQ} {r:Bool} (h:Z2F a1 a2=some r):
  Z7 Tryz.prog UU 140 [.sl 105 a1, .fn (.func 141) [.agg (Yf a2)] []] [] (.y r) []:=by
 unfold Z2F at h
 obtain⟨r11,h10,h⟩:=bo h
 rcases r11 with _|_
 ·obtain rfl:=oi h;exact rf Tryz.func140 none [.sum [1,4,7,8,9] [] .ret [(4, .y false)] []] (pc (Za6 _ _ h10)<|pn)
 ·obtain rfl:=oi h;exact rf Tryz.func140 none [.sum [1,4,7,8,9] [] (.exit 0) [(4, .y false)] []] (pc (Za6 _ _ h10)<|pn)

theorem Xi {a1:Z2} {r:Bool} (h:Wo a1=some r):
  Z7 Tryz.prog UU 59 [.agg (c31 a1)] [] (.y r) []:=by
 unfold Wo at h
 obtain⟨r2,h3,h⟩:=bo h
 obtain⟨h4,h⟩|⟨h4,h⟩:=Z1 h
 ·obtain⟨r5,h6,h⟩:=bo h
  obtain⟨h7,h⟩|⟨h7,h⟩:=Z1 h
  ·obtain⟨r8,h9,h⟩:=bo h
   obtain⟨h10,h⟩|⟨h10,h⟩:=Z1 h
   ·obtain⟨r11,h12,h⟩:=bo h
    obtain⟨h13,h⟩|⟨h13,h⟩:=Z1 h
    ·obtain⟨r14,h15,h⟩:=bo h
     obtain⟨h16,h⟩|⟨h16,h⟩:=Z1 h
     ·obtain⟨r17,h18,h⟩:=bo h
      obtain⟨h19,h⟩|⟨h19,h⟩:=Z1 h
      ·obtain⟨r20,h21,h⟩:=bo h
       obtain⟨h22,h⟩|⟨h22,h⟩:=Z1 h
       ·obtain⟨r23,h24,h⟩:=bo h
        obtain⟨h25,h⟩|⟨h25,h⟩:=Z1 h
        ·obtain⟨r26,h27,h⟩:=bo h
         obtain rfl:=oi h;exact rf Tryz.func59 none [.b r2, .t, .b r5, .t, .b r8, .t, .b r11, .t, .b r14, .t, .b r17, .t, .b r20, .t, .b r23, .t, .b r26] (pc (Ul h3)<|pc h4<|pc (Tl h6)<|pc h7<|pc (QT h9)<|pc h10<|pc (Z1s h12)<|pc h13<|pc (Z3J h15)<|pc h16<|pc (Z5D h18)<|pc h19<|pc (Z7F h21)<|pc h22<|pc (Za4 h24)<|pc h25<|pc (Zer h27)<|pn)
        ·obtain rfl:=oi h;exact rf Tryz.func59 none [.b r2, .t, .b r5, .t, .b r8, .t, .b r11, .t, .b r14, .t, .b r17, .t, .b r20, .t, .b r23, .f] (pc (Ul h3)<|pc h4<|pc (Tl h6)<|pc h7<|pc (QT h9)<|pc h10<|pc (Z1s h12)<|pc h13<|pc (Z3J h15)<|pc h16<|pc (Z5D h18)<|pc h19<|pc (Z7F h21)<|pc h22<|pc (Za4 h24)<|pc h25<|pn)
       ·obtain rfl:=oi h;exact rf Tryz.func59 none [.b r2, .t, .b r5, .t, .b r8, .t, .b r11, .t, .b r14, .t, .b r17, .t, .b r20, .f] (pc (Ul h3)<|pc h4<|pc (Tl h6)<|pc h7<|pc (QT h9)<|pc h10<|pc (Z1s h12)<|pc h13<|pc (Z3J h15)<|pc h16<|pc (Z5D h18)<|pc h19<|pc (Z7F h21)<|pc h22<|pn)
      ·obtain rfl:=oi h;exact rf Tryz.func59 none [.b r2, .t, .b r5, .t, .b r8, .t, .b r11, .t, .b r14, .t, .b r17, .f] (pc (Ul h3)<|pc h4<|pc (Tl h6)<|pc h7<|pc (QT h9)<|pc h10<|pc (Z1s h12)<|pc h13<|pc (Z3J h15)<|pc h16<|pc (Z5D h18)<|pc h19<|pn)
     ·obtain rfl:=oi h;exact rf Tryz.func59 none [.b r2, .t, .b r5, .t, .b r8, .t, .b r11, .t, .b r14, .f] (pc (Ul h3)<|pc h4<|pc (Tl h6)<|pc h7<|pc (QT h9)<|pc h10<|pc (Z1s h12)<|pc h13<|pc (Z3J h15)<|pc h16<|pn)
    ·obtain rfl:=oi h;exact rf Tryz.func59 none [.b r2, .t, .b r5, .t, .b r8, .t, .b r11, .f] (pc (Ul h3)<|pc h4<|pc (Tl h6)<|pc h7<|pc (QT h9)<|pc h10<|pc (Z1s h12)<|pc h13<|pn)
   ·obtain rfl:=oi h;exact rf Tryz.func59 none [.b r2, .t, .b r5, .t, .b r8, .f] (pc (Ul h3)<|pc h4<|pc (Tl h6)<|pc h7<|pc (QT h9)<|pc h10<|pn)
  ·obtain rfl:=oi h;exact rf Tryz.func59 none [.b r2, .t, .b r5, .f] (pc (Ul h3)<|pc h4<|pc (Tl h6)<|pc h7<|pn)
 ·obtain rfl:=oi h;exact rf Tryz.func59 none [.b r2, .f] (pc (Ul h3)<|pc h4<|pn)

theorem Za7 {a1:Z2} {a2:List Int} :Zx Tryz.prog UU 0 51 (Zs (Zt Tryz.f94) [1,1,0,1,0,0]) (ρ:=Unit⊕Unit) (Q3 a1 a2)
  (fun v7:Int=>([(2, .o 0),(4, .y false),(19, .sl 3 a2),(20, .j (a2.length:Int)),(21, .j v7)]:Fr DD)) (fun v7:Int=>([.box 31 (c31 a1) false]:Z3 DD)) (fun r=>match r with|Sum.inl _=> .ret|Sum.inr _=> .exit 0) (fun r=>match r with|Sum.inl _=> [(4, .y false)]|Sum.inr _=> [(4, .y false)]) (fun r=>match r with|Sum.inl _=> []|Sum.inr _=> []):=by
 refine Zy (fun s q h=> ?_) (fun r=> ?_)
 ·replace h:Q3 a1 a2 s=some q:=h;revert h;revert s;intro v7 h
  unfold Q3 at h
  obtain⟨h8,h⟩|⟨h8,h⟩:=Z1 h
  ·obtain⟨x9,h10,h⟩:=bo h
   obtain⟨x11,h12,h⟩:=bo h
   obtain⟨h13,h⟩|⟨h13,h⟩:=Z1 h
   ·obtain⟨h14,h⟩|⟨h14,h⟩:=Z1 h
    ·obtain rfl:=oi h;exact rl [4] [] [.t, .row (c3 x9), .row (Za x11), .t, .t] (pc h8<|pc (ob3 h10)<|pc (ZA h12)<|pc h13<|pc h14<|pn)
    ·obtain⟨h15,h⟩|⟨h15,h⟩:=Z1 h
     ·obtain⟨h16,h⟩|⟨h16,h⟩:=Z1 h
      ·obtain rfl:=oi h;exact rl [4] [] [.t, .row (c3 x9), .row (Za x11), .t, .f, .t, .t] (pc h8<|pc (ob3 h10)<|pc (ZA h12)<|pc h13<|pc h14<|pc h15<|pc h16<|pn)
      ·obtain⟨h17,h⟩|⟨h17,h⟩:=Z1 h
       ·obtain rfl:=oi h;exact rl [4] [] [.t, .row (c3 x9), .row (Za x11), .t, .f, .t, .f, .t] (pc h8<|pc (ob3 h10)<|pc (ZA h12)<|pc h13<|pc h14<|pc h15<|pc h16<|pc h17<|pn)
       ·obtain rfl:=oi h;exact rl [2,4,19,20,21] [0] [.t, .row (c3 x9), .row (Za x11), .t, .f, .t, .f, .f] (pc h8<|pc (ob3 h10)<|pc (ZA h12)<|pc h13<|pc h14<|pc h15<|pc h16<|pc h17<|pn)
     ·obtain rfl:=oi h;exact rl [2,4,19,20,21] [0] [.t, .row (c3 x9), .row (Za x11), .t, .f, .f] (pc h8<|pc (ob3 h10)<|pc (ZA h12)<|pc h13<|pc h14<|pc h15<|pn)
   ·obtain⟨h18,h⟩|⟨h18,h⟩:=Z1 h
    ·obtain⟨h19,h⟩|⟨h19,h⟩:=Z1 h
     ·obtain rfl:=oi h;exact rl [4] [] [.t, .row (c3 x9), .row (Za x11), .f, .t, .t] (pc h8<|pc (ob3 h10)<|pc (ZA h12)<|pc h13<|pc h18<|pc h19<|pn)
     ·obtain⟨h20,h⟩|⟨h20,h⟩:=Z1 h
      ·obtain rfl:=oi h;exact rl [4] [] [.t, .row (c3 x9), .row (Za x11), .f, .t, .f, .t] (pc h8<|pc (ob3 h10)<|pc (ZA h12)<|pc h13<|pc h18<|pc h19<|pc h20<|pn)
      ·obtain rfl:=oi h;exact rl [2,4,19,20,21] [0] [.t, .row (c3 x9), .row (Za x11), .f, .t, .f, .f] (pc h8<|pc (ob3 h10)<|pc (ZA h12)<|pc h13<|pc h18<|pc h19<|pc h20<|pn)
    ·obtain rfl:=oi h;exact rl [2,4,19,20,21] [0] [.t, .row (c3 x9), .row (Za x11), .f, .f] (pc h8<|pc (ob3 h10)<|pc (ZA h12)<|pc h13<|pc h18<|pn)
  ·obtain rfl:=oi h;exact rl [4] [] [.f] (pc h8<|pn)
 ·rcases r with _|_ <;> exact Ex.noConfusion

theorem Z5E {a1:Z2} {a2:List Int} {r:Bool} (h:Z0P a1 a2=some r):
  Z7 Tryz.prog UU 94 [.agg (c31 a1), .sl 3 a2] [] (.y r) []:=by
 unfold Z0P at h
 obtain⟨h3,h⟩|⟨h3,h⟩:=Z1 h
 ·obtain rfl:=oi h;exact rf Tryz.func94 none [.t] (pc h3<|pn)
 ·obtain⟨r4,h5,h⟩:=bo h
  obtain⟨h6,h⟩|⟨h6,h⟩:=Z1 h
  ·obtain rfl:=oi h;exact rf Tryz.func94 none [.f, .b r4, .t] (pc h3<|pc (Xi h5)<|pc h6<|pn)
  ·obtain⟨r22,h21,h⟩:=bo h
   rcases r22 with _|_
   ·obtain rfl:=oi h;exact rf Tryz.func94 none [.f, .b r4, .f, .sum [2,4,19,20,21] [0] .ret [(4, .y false)] []] (pc h3<|pc (Xi h5)<|pc h6<|pc (Za7 _ _ h21)<|pn)
   ·obtain rfl:=oi h;exact rf Tryz.func94 none [.f, .b r4, .f, .sum [2,4,19,20,21] [0] (.exit 0) [(4, .y false)] []] (pc h3<|pc (Xi h5)<|pc h6<|pc (Za7 _ _ h21)<|pn)

theorem Za8 {a1:Int} {a2:Int} {r:Bool} (h:Z53 a1 a2=some r):
  Z7 Tryz.prog UU 154 [.j a1, .rp (c3 a2) 0] [] (.y r) []:=by
 unfold Z53 at h
 obtain rfl:=oi h;exact rf Tryz.func154 none [] (pn)

theorem Za9 {a1:List Int} {a2:Int} :Zx Tryz.prog UU 0 19 (Zs (Zt Tryz.f178) [1,0,1,0,0]) (ρ:=Int⊕Unit) (Q4 a1 a2)
  (fun v3:Int=>([(0, .sl 3 a1),(1, .fn (.func 154) [] [.rp (c3 a2) 0]),(4, .z),(7, .j (a1.length:Int)),(8, .j v3)]:Fr DD)) (fun v3:Int=>([]:Z3 DD)) (fun r=>match r with|Sum.inl v11=> .ret|Sum.inr _=> .exit 0) (fun r=>match r with|Sum.inl v11=> [(4, .j v11)]|Sum.inr _=> [(4, .z)]) (fun r=>match r with|Sum.inl v11=> []|Sum.inr _=> []):=by
 refine Zy (fun s q h=> ?_) (fun r=> ?_)
 ·replace h:Q4 a1 a2 s=some q:=h;revert h;revert s;intro v3 h
  unfold Q4 at h
  obtain⟨h4,h⟩|⟨h4,h⟩:=Z1 h
  ·obtain⟨x5,h6,h⟩:=bo h
   obtain⟨r7,h8,h⟩:=bo h
   obtain⟨h9,h⟩|⟨h9,h⟩:=Z1 h
   ·obtain rfl:=oi h;exact rl [4] [] [.t, .row (c3 x5), .b r7, .t] (pc h4<|pc (ob3 h6)<|pc (Za8 h8)<|pc h9<|pn)
   ·obtain rfl:=oi h;exact rl [0,1,4,7,8] [] [.t, .row (c3 x5), .b r7, .f] (pc h4<|pc (ob3 h6)<|pc (Za8 h8)<|pc h9<|pn)
  ·obtain rfl:=oi h;exact rl [4] [] [.f] (pc h4<|pn)
 ·rcases r with _|_ <;> exact Ex.noConfusion

theorem Zes {a1:List Int} {a2:Int} {r:Int} (h:Z54 a1 a2=some r):
  Z7 Tryz.prog UU 178 [.sl 3 a1, .fn (.func 154) [] [.rp (c3 a2) 0]] [] (.j r) []:=by
 unfold Z54 at h
 obtain⟨r13,h12,h⟩:=bo h
 rcases r13 with v11|_
 ·obtain rfl:=oi h;exact rf Tryz.func178 none [.sum [0,1,4,7,8] [] .ret [(4, .j v11)] []] (pc (Za9 _ _ h12)<|pn)
 ·obtain rfl:=oi h;exact rf Tryz.func178 none [.sum [0,1,4,7,8] [] (.exit 0) [(4, .z)] []] (pc (Za9 _ _ h12)<|pn)

theorem Zet {a1:List Int} {a2:Int} {r:Bool} (h:Z55 a1 a2=some r):
  Z7 Tryz.prog UU 102 [.sl 3 a1, .fn (.func 154) [] [.rp (c3 a2) 0]] [] (.y r) []:=by
 unfold Z55 at h
 obtain⟨r3,h4,h⟩:=bo h
 obtain rfl:=oi h;exact rf Tryz.func102 none [.callv (.j r3)] (pc (Zes h4)<|pn)

theorem Zaa {a1:Z2} {a2:List Int} {a3:Int} {r:Bool} (h:Z2G a1 a2 a3=some r):
  Z7 Tryz.prog UU 71 [.agg (c31 a1), .sl 3 a2, .j a3] [] (.y r) []:=by
 unfold Z2G at h
 obtain⟨h4,h⟩|⟨h4,h⟩:=Z1 h
 ·obtain rfl:=oi h;exact rf Tryz.func71 none [.t] (pc h4<|pn)
 ·obtain⟨h5,h⟩|⟨h5,h⟩:=Z1 h
  ·obtain rfl:=oi h;exact rf Tryz.func71 none [.f, .t] (pc h4<|pc h5<|pn)
  ·obtain⟨r6,h7,h⟩:=bo h
   obtain⟨h8,h⟩|⟨h8,h⟩:=Z1 h
   ·obtain rfl:=oi h;exact rf Tryz.func71 none [.f, .f, .b r6, .t] (pc h4<|pc h5<|pc (Z5E h7)<|pc h8<|pn)
   ·obtain⟨r9,h10,h⟩:=bo h
    obtain rfl:=oi h;exact rf Tryz.func71 none [.f, .f, .b r6, .f, .b r9] (pc h4<|pc h5<|pc (Z5E h7)<|pc h8<|pc (Zet h10)<|pn)

theorem Zab {a1:Z2} {a2:Int} {r:Bool} (h:Z2H a1 a2=some r):
  Z7 Tryz.prog UU 212 [.agg (c31 a1), .j a2] [] (.y r) []:=by
 unfold Z2H at h
 obtain⟨h3,h⟩|⟨h3,h⟩:=Z1 h
 ·obtain⟨h4,h⟩|⟨h4,h⟩:=Z1 h
  ·obtain⟨r5,h6,h⟩:=bo h
   obtain rfl:=oi h;exact rf Tryz.func212 none [.t, .t, .b r5] (pc h3<|pc h4<|pc (Xi h6)<|pn)
  ·obtain rfl:=oi h;exact rf Tryz.func212 none [.t, .f] (pc h3<|pc h4<|pn)
 ·obtain rfl:=oi h;exact rf Tryz.func212 none [.f] (pc h3<|pn)

theorem Zeu {a1:Z2} {a2:Int} :Zx Tryz.prog UU 0 51 (Zs (Zt Tryz.f98) [1,1,1,0,1,0,0]) (fun s:(List Int)×Int=>match s with|(l9,v10)=>Z0Q a1 a2 l9 v10)
  (fun s:(List Int)×Int=>(match s with|(l9,v10)=> [(1, .j a2),(2, .o 0),(4, .os 1 0),(5, .os 2 l9.length),(19, .sl 110 a1.ports),(20, .j (a1.ports.length:Int)),(21, .j v10)]:Fr DD)) (fun s:(List Int)×Int=>(match s with|(l9,v10)=> [.box 31 (c31 a1) false, .n 3, .w 3 l9]:Z3 DD)) (fun r=>match r with|l25=> .exit 0) (fun r=>match r with|l25=> [(4, .os 0 0),(5, .os 1 l25.length)]) (fun r=>match r with|l25=> [.n 3, .w 3 l25]):=by
 refine Zy (fun s q h=> ?_) (fun r=> ?_)
 ·obtain⟨l9,v10⟩:=s;replace h:Z0Q a1 a2 l9 v10=some q:=h
  unfold Z0Q at h
  obtain⟨h11,h⟩|⟨h11,h⟩:=Z1 h
  ·obtain⟨x12,h13,h⟩:=bo h
   obtain⟨x14,h15,h⟩:=bo h
   obtain⟨h16,h⟩|⟨h16,h⟩:=Z1 h
   ·obtain⟨x17,h18,h⟩:=bo h
    obtain⟨r19,h20,h⟩:=bo h
    obtain⟨h21,h⟩|⟨h21,h⟩:=Z1 h
    ·obtain⟨h22,h⟩|⟨h22,h⟩:=Z1 h
     ·obtain rfl:=oi h;exact rl [1,2,4,5,19,20,21] [0,1,2] [.t, .row (Za x12), .row (c90 x14), .t, .row (c90 x17), .b r19, .t, .obj [] (.w 3 [v10]), .obj [] (.w 3 (l9++ [v10]))] (pc h11<|pc (ZA h13)<|pc (ZI h15)<|pc h16<|pc (ZI h18)<|pc (VP h20)<|pc h21<|pc (Yk 3 [v10])<|pc (YR 3 (n:=l9.length) (l:=l9) (xs:= [v10]) h22)<|pc (rn (List.length [v10]))<|pn)
     ·cases h
    ·obtain rfl:=oi h;exact rl [1,2,4,5,19,20,21] [0,1,2] [.t, .row (Za x12), .row (c90 x14), .t, .row (c90 x17), .b r19, .f] (pc h11<|pc (ZA h13)<|pc (ZI h15)<|pc h16<|pc (ZI h18)<|pc (VP h20)<|pc h21<|pn)
   ·obtain rfl:=oi h;exact rl [1,2,4,5,19,20,21] [0,1,2] [.t, .row (Za x12), .row (c90 x14), .f] (pc h11<|pc (ZA h13)<|pc (ZI h15)<|pc h16<|pn)
  ·obtain rfl:=oi h;exact rl [4,5] [1,2] [.f] (pc h11<|pn)
 ·exact Ex.noConfusion

theorem Z7G {a1:Z2} {a2:Int} {r:((List Int))} (h:U8 a1 a2=some r):
  Z7 Tryz.prog UU 98 [.agg (c31 a1), .j a2] [] ((fun r=>match r with|l28=> .os 0 l28.length) r) ((fun r=>match r with|l28=> [.w 3 l28]) r):=by
 unfold U8 at h
 obtain⟨r3,h4,h⟩:=bo h
 obtain⟨h5,h⟩|⟨h5,h⟩:=Z1 h
 ·obtain rfl:=oi h;exact rf Tryz.func98 (some [2]) [.b r3, .t] (pc (Xi h4)<|pc h5<|pn)
 ·obtain⟨r6,h7,h⟩:=bo h
  obtain⟨h8,h⟩|⟨h8,h⟩:=Z1 h
  ·obtain rfl:=oi h;exact rf Tryz.func98 (some [2]) [.b r3, .f, .b r6, .t] (pc (Xi h4)<|pc h5<|pc (XS h7)<|pc h8<|pn)
  ·obtain⟨l25,h26,h⟩:=bo h
   obtain rfl:=oi h;exact rf Tryz.func98 (some [1]) [.b r3, .f, .b r6, .f, .sum [1,2,4,5,19,20,21] [0,1,2] (.exit 0) [(4, .os 0 0),(5, .os 1 l25.length)] [.n 3, .w 3 l25]] (pc (Xi h4)<|pc h5<|pc (XS h7)<|pc h8<|pc (Zeu _ _ h26)<|pn)

theorem Tn {a1:Z2} {a2:Int} {r:Int} (h:Z2I a1 a2=some r):
  Z7 Tryz.prog UU 261 [.agg (c31 a1), .j a2] [] (.j r) []:=by
 unfold Z2I at h
 obtain⟨h3,h⟩|⟨h3,h⟩:=Z1 h
 ·obtain rfl:=oi h;exact rf Tryz.func261 none [.t] (pc h3<|pn)
 ·obtain⟨h4,h⟩|⟨h4,h⟩:=Z1 h
  ·obtain rfl:=oi h;exact rf Tryz.func261 none [.f, .t] (pc h3<|pc h4<|pn)
  ·obtain⟨x5,h6,h⟩:=bo h
   obtain⟨h7,h⟩|⟨h7,h⟩:=Z1 h
   ·obtain rfl:=oi h;exact rf Tryz.func261 none [.f, .f, .row (Za x5), .t] (pc h3<|pc h4<|pc (ZA h6)<|pc h7<|pn)
   ·obtain⟨r8,h9,h⟩:=bo h
    obtain⟨h10,h⟩|⟨h10,h⟩:=Z1 h
    ·obtain rfl:=oi h;exact rf Tryz.func261 none [.f, .f, .row (Za x5), .f, .b r8, .t] (pc h3<|pc h4<|pc (ZA h6)<|pc h7<|pc (Xi h9)<|pc h10<|pn)
    ·obtain⟨x11,h12,h⟩:=bo h
     obtain⟨x13,h14,h⟩:=bo h
     obtain⟨h15,h⟩|⟨h15,h⟩:=Z1 h
     ·obtain rfl:=oi h;exact rf Tryz.func261 none [.f, .f, .row (Za x5), .f, .b r8, .f, .row (Za x11), .row (YY x13), .t] (pc h3<|pc h4<|pc (ZA h6)<|pc h7<|pc (Xi h9)<|pc h10<|pc (ZA h12)<|pc (Xh h14)<|pc h15<|pn)
     ·obtain rfl:=oi h;exact rf Tryz.func261 none [.f, .f, .row (Za x5), .f, .b r8, .f, .row (Za x11), .row (YY x13), .f] (pc h3<|pc h4<|pc (ZA h6)<|pc h7<|pc (Xi h9)<|pc h10<|pc (ZA h12)<|pc (Xh h14)<|pc h15<|pn)

theorem Zac {a1:Z2} {a2:Int} {a3:Int} {r:Int×Int×Bool} (h:Z2J a1 a2 a3=some r):
  Z7 Tryz.prog UU 238 [.agg (c31 a1), .j a2, .j a3] [] (.tup [.j r.1, .j r.2.1, .y r.2.2]) []:=by
 unfold Z2J at h
 obtain⟨r4,h5,h⟩:=bo h
 obtain⟨h6,h⟩|⟨h6,h⟩:=Z1 h
 ·obtain rfl:=oi h;exact rf Tryz.func238 none [.callv (.j r4), .t] (pc (Tn h5)<|pc h6<|pn)
 ·obtain⟨x7,h8,h⟩:=bo h
  obtain⟨r9,h10,h⟩:=bo h
  obtain⟨h11,h⟩|⟨h11,h⟩:=Z1 h
  ·obtain rfl:=oi h;exact rf Tryz.func238 none [.callv (.j r4), .f, .row (Za x7), .b r9, .t] (pc (Tn h5)<|pc h6<|pc (ZA h8)<|pc (VP h10)<|pc h11<|pn)
  ·obtain⟨x12,h13,h⟩:=bo h
   obtain⟨x14,h15,h⟩:=bo h
   obtain⟨h16,h⟩|⟨h16,h⟩:=Z1 h
   ·obtain⟨h17,h⟩|⟨h17,h⟩:=Z1 h
    ·obtain rfl:=oi h;exact rf Tryz.func238 none [.callv (.j r4), .f, .row (Za x7), .b r9, .f, .row (Za x12), .row (Za x14), .t, .t] (pc (Tn h5)<|pc h6<|pc (ZA h8)<|pc (VP h10)<|pc h11<|pc (ZA h13)<|pc (ZA h15)<|pc h16<|pc h17<|pn)
    ·obtain rfl:=oi h;exact rf Tryz.func238 none [.callv (.j r4), .f, .row (Za x7), .b r9, .f, .row (Za x12), .row (Za x14), .t, .f] (pc (Tn h5)<|pc h6<|pc (ZA h8)<|pc (VP h10)<|pc h11<|pc (ZA h13)<|pc (ZA h15)<|pc h16<|pc h17<|pn)
   ·obtain⟨r18,h19,h⟩:=bo h
    obtain⟨h20,h⟩|⟨h20,h⟩:=Z1 h
    ·obtain⟨h21,h⟩|⟨h21,h⟩:=Z1 h
     ·obtain rfl:=oi h;exact rf Tryz.func238 none [.callv (.j r4), .f, .row (Za x7), .b r9, .f, .row (Za x12), .row (Za x14), .f, .b r18, .t, .t] (pc (Tn h5)<|pc h6<|pc (ZA h8)<|pc (VP h10)<|pc h11<|pc (ZA h13)<|pc (ZA h15)<|pc h16<|pc (Vp h19)<|pc h20<|pc h21<|pn)
     ·obtain rfl:=oi h;exact rf Tryz.func238 none [.callv (.j r4), .f, .row (Za x7), .b r9, .f, .row (Za x12), .row (Za x14), .f, .b r18, .t, .f] (pc (Tn h5)<|pc h6<|pc (ZA h8)<|pc (VP h10)<|pc h11<|pc (ZA h13)<|pc (ZA h15)<|pc h16<|pc (Vp h19)<|pc h20<|pc h21<|pn)
    ·obtain⟨h22,h⟩|⟨h22,h⟩:=Z1 h
     ·obtain rfl:=oi h;exact rf Tryz.func238 none [.callv (.j r4), .f, .row (Za x7), .b r9, .f, .row (Za x12), .row (Za x14), .f, .b r18, .f, .t] (pc (Tn h5)<|pc h6<|pc (ZA h8)<|pc (VP h10)<|pc h11<|pc (ZA h13)<|pc (ZA h15)<|pc h16<|pc (Vp h19)<|pc h20<|pc h22<|pn)
     ·obtain rfl:=oi h;exact rf Tryz.func238 none [.callv (.j r4), .f, .row (Za x7), .b r9, .f, .row (Za x12), .row (Za x14), .f, .b r18, .f, .f] (pc (Tn h5)<|pc h6<|pc (ZA h8)<|pc (VP h10)<|pc h11<|pc (ZA h13)<|pc (ZA h15)<|pc h16<|pc (Vp h19)<|pc h20<|pc h22<|pn)

theorem Zad {a1:ZF} {a2:Int} {a3:Int} {r:Bool} (h:Z2K a1 a2 a3=some r):
  Z7 Tryz.prog UU 118 [.agg (c90 a1), .rp (c3 a2) 0, .rp (c3 a3) 0] [] (.y r) []:=by
 unfold Z2K at h
 obtain⟨h4,h⟩|⟨h4,h⟩:=Z1 h
 ·obtain rfl:=oi h;exact rf Tryz.func118 none [.t] (pc h4<|pn)
 ·obtain rfl:=oi h;exact rf Tryz.func118 none [.f] (pc h4<|pn)

end Go.Eng
