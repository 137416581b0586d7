/- Part of the proof of MatrixTells: printed mirrors of the functions, or their contracts. No conditions. -/
import Derived.Test.YtcclngfmkodgjaaGreatMAK3
set_option linter.unusedVariables false
set_option maxRecDepth 100000
namespace Go.Eng
open Go Go.Proofs
theorem Z3L {r:Bool} (h:Ud=some r):
  Z7 Tryz.prog UU 23 [] [] (.y r) []:=by
 have hr:some true=some r:=(by kernel_rfl:Ud=some true).symm.trans h
 unfold Ud at h
 obtain⟨r1,h2,h⟩:=bo h
 obtain⟨l3,n4,v5⟩:=r1
 obtain⟨r6,h7,h⟩:=bo h
 obtain⟨r8,h9,h⟩:=bo h
 obtain⟨h10,h⟩|⟨h10,h⟩:=Z1 h
 ·obtain⟨h11,h⟩|⟨h11,h⟩:=Z1 h
  ·obtain⟨h12,h⟩|⟨h12,h⟩:=Z1 h
   ·obtain⟨r13,h14,h⟩:=bo h
    obtain⟨h15,h⟩|⟨h15,h⟩:=Z1 h
    ·obtain⟨h16,h⟩|⟨h16,h⟩:=Z1 h
     ·obtain rfl:=oi h;exact rf Tryz.func23 none [.obj [] (.w 56 [(⟨0,0,(⟨#[97]⟩:ByteArray),0,0⟩:Yy)]), .obj [] (.w 110 [(⟨0,0,10,0,(-1),(⟨#[112]⟩:ByteArray),[]⟩:ZO),(⟨0,0,10,0,(-1),(⟨#[113]⟩:ByteArray),[]⟩:ZO),(⟨0,0,20,0,(-1),(⟨#[114]⟩:ByteArray),[]⟩:ZO)]), .obj [] (.w 90 [(⟨0,10,0,(-1),0,[]⟩:ZF),(⟨0,20,0,(-1),0,[]⟩:ZF)]), .obj [] (.w 3 [(0:Int),(0:Int),(1:Int)]), .frz [0,1,12,2,13,14,15,16,17], .callm [] (.tup [.os 0 n4, .y v5]) [.arr 70 l3 n4 false], .obj [] (.w 9 [(⟨#[120]⟩:ByteArray),(⟨#[121]⟩:ByteArray)]), .callv (.tup [.x r6.1, .j r6.2]), .obj [] (.w 3 [(0:Int),(0:Int),(1:Int)]), .obj [] (.w 9 [(⟨#[120]⟩:ByteArray),(⟨#[121]⟩:ByteArray)]), .callv (.tup [.x r8.1, .j r8.2]), .t, .t, .t, .b r13, .t, .t] (pc (Yk 56 [(⟨0,0,(⟨#[97]⟩:ByteArray),0,0⟩:Yy)])<|pc (Yk 110 [(⟨0,0,10,0,(-1),(⟨#[112]⟩:ByteArray),[]⟩:ZO),(⟨0,0,10,0,(-1),(⟨#[113]⟩:ByteArray),[]⟩:ZO),(⟨0,0,20,0,(-1),(⟨#[114]⟩:ByteArray),[]⟩:ZO)])<|pc (Yk 90 [(⟨0,10,0,(-1),0,[]⟩:ZF),(⟨0,20,0,(-1),0,[]⟩:ZF)])<|pc (Yk 3 [(0:Int),(0:Int),(1:Int)])<|pc (rn (List.length [(⟨0,0,(⟨#[97]⟩:ByteArray),0,0⟩:Yy)]))<|pc (rn (List.length [(⟨0,0,10,0,(-1),(⟨#[112]⟩:ByteArray),[]⟩:ZO),(⟨0,0,10,0,(-1),(⟨#[113]⟩:ByteArray),[]⟩:ZO),(⟨0,0,20,0,(-1),(⟨#[114]⟩:ByteArray),[]⟩:ZO)]))<|pc (rn 0)<|pc (rn (List.length [(⟨0,10,0,(-1),0,[]⟩:ZF),(⟨0,20,0,(-1),0,[]⟩:ZF)]))<|pd (rn 0)<|pd (rn 0)<|pc (rn (List.length [(0:Int),(0:Int),(1:Int)]))<|pc (Z1v h2)<|pc (Yk 9 [(⟨#[120]⟩:ByteArray),(⟨#[121]⟩:ByteArray)])<|pc (Zfl h7)<|pc (rn (List.length [(⟨#[120]⟩:ByteArray),(⟨#[121]⟩:ByteArray)]))<|pc (rn n4)<|pc (Yk 3 [(0:Int),(0:Int),(1:Int)])<|pc (Yk 9 [(⟨#[120]⟩:ByteArray),(⟨#[121]⟩:ByteArray)])<|pc (Z1z h9)<|pc (rn (List.length [(⟨0,0,(⟨#[97]⟩:ByteArray),0,0⟩:Yy)]))<|pc (rn (List.length [(⟨0,0,10,0,(-1),(⟨#[112]⟩:ByteArray),[]⟩:ZO),(⟨0,0,10,0,(-1),(⟨#[113]⟩:ByteArray),[]⟩:ZO),(⟨0,0,20,0,(-1),(⟨#[114]⟩:ByteArray),[]⟩:ZO)]))<|pc (rn 0)<|pc (rn (List.length [(⟨0,10,0,(-1),0,[]⟩:ZF),(⟨0,20,0,(-1),0,[]⟩:ZF)]))<|pd (rn 0)<|pd (rn 0)<|pc (rn (List.length [(0:Int),(0:Int),(1:Int)]))<|pc (rn (List.length [(⟨#[120]⟩:ByteArray),(⟨#[121]⟩:ByteArray)]))<|pc h10<|pc h11<|pc h12<|pc (Zfr h14)<|pc (rn n4)<|pc h15<|pc h16<|pn)
     ·exact absurd (hr.trans h.symm) (by decide)
    ·exact absurd (hr.trans h.symm) (by decide)
   ·exact absurd (hr.trans h.symm) (by decide)
  ·exact absurd (hr.trans h.symm) (by decide)
 ·exact absurd (hr.trans h.symm) (by decide)

theorem ZaG {a1:List ByteArray} :Zx Tryz.prog UU 0 19 (Zs (Zt Tryz.f22) [1,1,0,1,0,0]) (ρ:=Unit⊕Unit) (Qn a1)
  (fun v3:Int=>([(0, .sl 9 a1),(2, .y false),(3, .j v3)]:Fr DD)) (fun v3:Int=>([]:Z3 DD)) (fun r=>match r with|Sum.inl _=> .ret|Sum.inr _=> .exit 0) (fun r=>match r with|Sum.inl _=> [(2, .y true)]|Sum.inr _=> [(2, .y false)]) (fun r=>match r with|Sum.inl _=> []|Sum.inr _=> []):=by
 refine Zy (fun s q h=> ?_) (fun r=> ?_)
 ·replace h:Qn a1 s=some q:=h;revert h;revert s;intro v3 h
  unfold Qn at h
  obtain⟨h4,h⟩|⟨h4,h⟩:=Z1 h
  ·obtain⟨x5,h6,h⟩:=bo h
   obtain⟨h7,h⟩|⟨h7,h⟩:=Z1 h
   ·obtain rfl:=oi h;exact rl [2] [] [.t, .row (c9 x5), .t] (pc h4<|pc (ob9 h6)<|pc h7<|pn)
   ·obtain rfl:=oi h;exact rl [0,2,3] [] [.t, .row (c9 x5), .f] (pc h4<|pc (ob9 h6)<|pc h7<|pn)
  ·obtain rfl:=oi h;exact rl [2] [] [.f] (pc h4<|pn)
 ·rcases r with _|_ <;> exact Ex.noConfusion

theorem QX {a1:List ByteArray} {r:Bool} (h:Z3b a1=some r):
  Z7 Tryz.prog UU 22 [.sl 9 a1] [] (.y r) []:=by
 unfold Z3b at h
 obtain⟨h2,h⟩|⟨h2,h⟩:=Z1 h
 ·obtain rfl:=oi h;exact rf Tryz.func22 none [.t] (pc h2<|pn)
 ·obtain⟨r9,h8,h⟩:=bo h
  rcases r9 with _|_
  ·obtain rfl:=oi h;exact rf Tryz.func22 none [.f, .sum [0,2,3] [] .ret [(2, .y true)] []] (pc h2<|pc (ZaG _ _ h8)<|pn)
  ·obtain rfl:=oi h;exact rf Tryz.func22 none [.f, .sum [0,2,3] [] (.exit 0) [(2, .y false)] []] (pc h2<|pc (ZaG _ _ h8)<|pn)

theorem ZB {a1:Int} {a2:Int} {r:Bool} (h:Xg a1 a2=some r):
  Z7 Tryz.prog UU 149 [.j a1, .j a2] [] (.y r) []:=by
 unfold Xg at h
 obtain⟨h3,h⟩|⟨h3,h⟩:=Z1 h
 ·obtain rfl:=oi h;exact rf Tryz.func149 none [.t] (pc h3<|pn)
 ·obtain rfl:=oi h;exact rf Tryz.func149 none [.f] (pc h3<|pn)

theorem ZaH {a1:Z2} {a2:Int} {a3:Int} :Zx Tryz.prog UU 0 34 (Zs (Zt Tryz.f53) [1,0,1,0,0]) (ρ:=Int⊕Unit) (Z15 a1 a2 a3)
  (fun v4:Int=>([(1, .j a2),(2, .j a3),(3, .o 0),(6, .z),(7, .j v4)]:Fr DD)) (fun v4:Int=>([.box 31 (c31 a1) false]:Z3 DD)) (fun r=>match r with|Sum.inl v13=> .ret|Sum.inr _=> .exit 0) (fun r=>match r with|Sum.inl v13=> [(6, .j v13)]|Sum.inr _=> [(6, .z)]) (fun r=>match r with|Sum.inl v13=> []|Sum.inr _=> []):=by
 refine Zy (fun s q h=> ?_) (fun r=> ?_)
 ·replace h:Z15 a1 a2 a3 s=some q:=h;revert h;revert s;intro v4 h
  unfold Z15 at h
  obtain⟨h5,h⟩|⟨h5,h⟩:=Z1 h
  ·obtain⟨x6,h7,h⟩:=bo h
   obtain⟨h8,h⟩|⟨h8,h⟩:=Z1 h
   ·obtain⟨x9,h10,h⟩:=bo h
    obtain⟨h11,h⟩|⟨h11,h⟩:=Z1 h
    ·obtain rfl:=oi h;exact rl [6] [] [.t, .row (c90 x6), .t, .row (c90 x9), .t] (pc h5<|pc (ZI h7)<|pc h8<|pc (ZI h10)<|pc h11<|pn)
    ·obtain rfl:=oi h;exact rl [1,2,3,6,7] [0] [.t, .row (c90 x6), .t, .row (c90 x9), .f] (pc h5<|pc (ZI h7)<|pc h8<|pc (ZI h10)<|pc h11<|pn)
   ·obtain rfl:=oi h;exact rl [1,2,3,6,7] [0] [.t, .row (c90 x6), .f] (pc h5<|pc (ZI h7)<|pc h8<|pn)
  ·obtain rfl:=oi h;exact rl [6] [] [.f] (pc h5<|pn)
 ·rcases r with _|_ <;> exact Ex.noConfusion

theorem V5 {a1:Z2} {a2:Int} {a3:Int} {r:Int} (h:Ue a1 a2 a3=some r):
  Z7 Tryz.prog UU 53 [.agg (c31 a1), .j a2, .j a3] [] (.j r) []:=by
 unfold Ue at h
 obtain⟨r15,h14,h⟩:=bo h
 rcases r15 with v13|_
 ·obtain rfl:=oi h;exact rf Tryz.func53 none [.sum [1,2,3,6,7] [0] .ret [(6, .j v13)] []] (pc (ZaH _ _ h14)<|pn)
 ·obtain rfl:=oi h;exact rf Tryz.func53 none [.sum [1,2,3,6,7] [0] (.exit 0) [(6, .z)] []] (pc (ZaH _ _ h14)<|pn)

theorem ZaI {a1:List Int} {a2:Int} :Zx Tryz.prog UU 0 18 (Zs (Zt Tryz.f151) [1,0,1,0,0]) (ρ:=Unit⊕Unit) (Z16 a1 a2)
  (fun v3:Int=>([(0, .sl 3 a1),(1, .j a2),(4, .y false),(5, .j v3)]:Fr DD)) (fun v3:Int=>([]:Z3 DD)) (fun r=>match r with|Sum.inl _=> .ret|Sum.inr _=> .exit 0) (fun r=>match r with|Sum.inl _=> [(4, .y true)]|Sum.inr _=> [(4, .y false)]) (fun r=>match r with|Sum.inl _=> []|Sum.inr _=> []):=by
 refine Zy (fun s q h=> ?_) (fun r=> ?_)
 ·replace h:Z16 a1 a2 s=some q:=h;revert h;revert s;intro v3 h
  unfold Z16 at h
  obtain⟨h4,h⟩|⟨h4,h⟩:=Z1 h
  ·obtain⟨x5,h6,h⟩:=bo h
   obtain⟨h7,h⟩|⟨h7,h⟩:=Z1 h
   ·obtain rfl:=oi h;exact rl [4] [] [.t, .row (c3 x5), .t] (pc h4<|pc (ob3 h6)<|pc h7<|pn)
   ·obtain rfl:=oi h;exact rl [0,1,4,5] [] [.t, .row (c3 x5), .f] (pc h4<|pc (ob3 h6)<|pc h7<|pn)
  ·obtain rfl:=oi h;exact rl [4] [] [.f] (pc h4<|pn)
 ·rcases r with _|_ <;> exact Ex.noConfusion

theorem Xt {a1:List Int} {a2:Int} {r:Bool} (h:V1 a1 a2=some r):
  Z7 Tryz.prog UU 151 [.sl 3 a1, .j a2] [] (.y r) []:=by
 unfold V1 at h
 obtain⟨r9,h8,h⟩:=bo h
 rcases r9 with _|_
 ·obtain rfl:=oi h;exact rf Tryz.func151 none [.sum [0,1,4,5] [] .ret [(4, .y true)] []] (pc (ZaI _ _ h8)<|pn)
 ·obtain rfl:=oi h;exact rf Tryz.func151 none [.sum [0,1,4,5] [] (.exit 0) [(4, .y false)] []] (pc (ZaI _ _ h8)<|pn)

theorem Z7P {a1:Z2} {a2:Int} {a3:Int} {r:Bool} (h:Z3c a1 a2 a3=some r):
  Z7 Tryz.prog UU 150 [.agg (c31 a1), .j a2, .j a3] [] (.y r) []:=by
 unfold Z3c at h
 obtain⟨r4,h5,h⟩:=bo h
 obtain⟨h6,h⟩|⟨h6,h⟩:=Z1 h
 ·obtain rfl:=oi h;exact rf Tryz.func150 none [.b r4, .t] (pc (ZB h5)<|pc h6<|pn)
 ·obtain⟨h7,h⟩|⟨h7,h⟩:=Z1 h
  ·obtain rfl:=oi h;exact rf Tryz.func150 none [.b r4, .f, .t] (pc (ZB h5)<|pc h6<|pc h7<|pn)
  ·obtain⟨x8,h9,h⟩:=bo h
   obtain⟨x10,h11,h⟩:=bo h
   obtain⟨h12,h⟩|⟨h12,h⟩:=Z1 h
   ·obtain⟨h13,h⟩|⟨h13,h⟩:=Z1 h
    ·obtain⟨h14,h⟩|⟨h14,h⟩:=Z1 h
     ·obtain⟨x15,h16,h⟩:=bo h
      obtain⟨h17,h⟩|⟨h17,h⟩:=Z1 h
      ·obtain⟨x18,h19,h⟩:=bo h
       obtain⟨h20,h⟩|⟨h20,h⟩:=Z1 h
       ·obtain⟨r21,h22,h⟩:=bo h
        obtain rfl:=oi h;exact rf Tryz.func150 none [.b r4, .f, .f, .row (c90 x8), .row (c90 x10), .t, .t, .t, .row (c56 x15), .t, .row (c56 x18), .t, .b r21] (pc (ZB h5)<|pc h6<|pc h7<|pc (ZI h9)<|pc (ZI h11)<|pc h12<|pc h13<|pc h14<|pc (VO h16)<|pc h17<|pc (VO h19)<|pc h20<|pc (Xt h22)<|pn)
       ·obtain rfl:=oi h;exact rf Tryz.func150 none [.b r4, .f, .f, .row (c90 x8), .row (c90 x10), .t, .t, .t, .row (c56 x15), .t, .row (c56 x18), .f] (pc (ZB h5)<|pc h6<|pc h7<|pc (ZI h9)<|pc (ZI h11)<|pc h12<|pc h13<|pc h14<|pc (VO h16)<|pc h17<|pc (VO h19)<|pc h20<|pn)
      ·obtain rfl:=oi h;exact rf Tryz.func150 none [.b r4, .f, .f, .row (c90 x8), .row (c90 x10), .t, .t, .t, .row (c56 x15), .f] (pc (ZB h5)<|pc h6<|pc h7<|pc (ZI h9)<|pc (ZI h11)<|pc h12<|pc h13<|pc h14<|pc (VO h16)<|pc h17<|pn)
     ·obtain rfl:=oi h;exact rf Tryz.func150 none [.b r4, .f, .f, .row (c90 x8), .row (c90 x10), .t, .t, .f] (pc (ZB h5)<|pc h6<|pc h7<|pc (ZI h9)<|pc (ZI h11)<|pc h12<|pc h13<|pc h14<|pn)
    ·obtain rfl:=oi h;exact rf Tryz.func150 none [.b r4, .f, .f, .row (c90 x8), .row (c90 x10), .t, .f] (pc (ZB h5)<|pc h6<|pc h7<|pc (ZI h9)<|pc (ZI h11)<|pc h12<|pc h13<|pn)
   ·obtain rfl:=oi h;exact rf Tryz.func150 none [.b r4, .f, .f, .row (c90 x8), .row (c90 x10), .f] (pc (ZB h5)<|pc h6<|pc h7<|pc (ZI h9)<|pc (ZI h11)<|pc h12<|pn)

theorem Z7Q {a1:Z2} :Zx Tryz.prog UU 0 120 (Zs (Zt Tryz.f67) [1,0,1,0,0]) (ρ:=Unit⊕Unit) (Qo a1)
  (fun v2:Int=>([(1, .o 0),(2, .y false),(3, .j v2)]:Fr DD)) (fun v2:Int=>([.box 31 (c31 a1) false]:Z3 DD)) (fun r=>match r with|Sum.inl _=> .ret|Sum.inr _=> .exit 0) (fun r=>match r with|Sum.inl _=> [(2, .y false)]|Sum.inr _=> [(1, .o 0),(2, .y false)]) (fun r=>match r with|Sum.inl _=> []|Sum.inr _=> [.box 31 (c31 a1) false]):=by
 refine Zy (fun s q h=> ?_) (fun r=> ?_)
 ·replace h:Qo a1 s=some q:=h;revert h;revert s;intro v2 h
  unfold Qo at h
  obtain⟨h3,h⟩|⟨h3,h⟩:=Z1 h
  ·obtain⟨x4,h5,h⟩:=bo h
   obtain⟨r6,h7,h⟩:=bo h
   obtain⟨h8,h⟩|⟨h8,h⟩:=Z1 h
   ·obtain rfl:=oi h;exact rl [2] [] [.t, .row (c90 x4), .b r6, .t] (pc h3<|pc (ZI h5)<|pc (ZB h7)<|pc h8<|pn)
   ·obtain⟨h9,h⟩|⟨h9,h⟩:=Z1 h
    ·obtain rfl:=oi h;exact rl [2] [] [.t, .row (c90 x4), .b r6, .f, .t] (pc h3<|pc (ZI h5)<|pc (ZB h7)<|pc h8<|pc h9<|pn)
    ·obtain⟨h10,h⟩|⟨h10,h⟩:=Z1 h
     ·obtain rfl:=oi h;exact rl [2] [] [.t, .row (c90 x4), .b r6, .f, .f, .t] (pc h3<|pc (ZI h5)<|pc (ZB h7)<|pc h8<|pc h9<|pc h10<|pn)
     ·obtain⟨h11,h⟩|⟨h11,h⟩:=Z1 h
      ·obtain rfl:=oi h;exact rl [2] [] [.t, .row (c90 x4), .b r6, .f, .f, .f, .t] (pc h3<|pc (ZI h5)<|pc (ZB h7)<|pc h8<|pc h9<|pc h10<|pc h11<|pn)
      ·obtain⟨h12,h⟩|⟨h12,h⟩:=Z1 h
       ·obtain rfl:=oi h;exact rl [2] [] [.t, .row (c90 x4), .b r6, .f, .f, .f, .f, .t] (pc h3<|pc (ZI h5)<|pc (ZB h7)<|pc h8<|pc h9<|pc h10<|pc h11<|pc h12<|pn)
       ·obtain⟨r13,h14,h⟩:=bo h
        obtain⟨h15,h⟩|⟨h15,h⟩:=Z1 h
        ·obtain rfl:=oi h;exact rl [2] [] [.t, .row (c90 x4), .b r6, .f, .f, .f, .f, .f, .callv (.j r13), .t] (pc h3<|pc (ZI h5)<|pc (ZB h7)<|pc h8<|pc h9<|pc h10<|pc h11<|pc h12<|pc (V5 h14)<|pc h15<|pn)
        ·obtain⟨h16,h⟩|⟨h16,h⟩:=Z1 h
         ·obtain⟨r17,h18,h⟩:=bo h
          obtain⟨h19,h⟩|⟨h19,h⟩:=Z1 h
          ·obtain rfl:=oi h;exact rl [2] [] [.t, .row (c90 x4), .b r6, .f, .f, .f, .f, .f, .callv (.j r13), .f, .t, .b r17, .t] (pc h3<|pc (ZI h5)<|pc (ZB h7)<|pc h8<|pc h9<|pc h10<|pc h11<|pc h12<|pc (V5 h14)<|pc h15<|pc h16<|pc (ZB h18)<|pc h19<|pn)
          ·obtain⟨x20,h21,h⟩:=bo h
           obtain⟨h22,h⟩|⟨h22,h⟩:=Z1 h
           ·obtain rfl:=oi h;exact rl [2] [] [.t, .row (c90 x4), .b r6, .f, .f, .f, .f, .f, .callv (.j r13), .f, .t, .b r17, .f, .row (ZK x20), .t] (pc h3<|pc (ZI h5)<|pc (ZB h7)<|pc h8<|pc h9<|pc h10<|pc h11<|pc h12<|pc (V5 h14)<|pc h15<|pc h16<|pc (ZB h18)<|pc h19<|pc (ZP h21)<|pc h22<|pn)
           ·obtain rfl:=oi h;exact rl [1,2,3] [0] [.t, .row (c90 x4), .b r6, .f, .f, .f, .f, .f, .callv (.j r13), .f, .t, .b r17, .f, .row (ZK x20), .f] (pc h3<|pc (ZI h5)<|pc (ZB h7)<|pc h8<|pc h9<|pc h10<|pc h11<|pc h12<|pc (V5 h14)<|pc h15<|pc h16<|pc (ZB h18)<|pc h19<|pc (ZP h21)<|pc h22<|pn)
         ·obtain rfl:=oi h;exact rl [1,2,3] [0] [.t, .row (c90 x4), .b r6, .f, .f, .f, .f, .f, .callv (.j r13), .f, .f] (pc h3<|pc (ZI h5)<|pc (ZB h7)<|pc h8<|pc h9<|pc h10<|pc h11<|pc h12<|pc (V5 h14)<|pc h15<|pc h16<|pn)
  ·obtain rfl:=oi h;exact rl [1,2] [0] [.f] (pc h3<|pn)
 ·rcases r with _|_ <;> exact Ex.noConfusion

theorem ZaJ {a1:Z2} {v25:Int} {x27:ZF} :Zx Tryz.prog UU 0 120 (Zs (Zt Tryz.f67) [1,1,0,1,0,0,1,0,0,1,1,0,0]) (ρ:=Unit⊕Unit) (Z17 a1 v25 x27)
  (fun v29:Int=>([(1, .o 0),(2, .y false),(5, .j v25),(6, .o 1),(7, .j v29)]:Fr DD)) (fun v29:Int=>([.box 31 (c31 a1) false, .box 90 (c90 x27) false]:Z3 DD)) (fun r=>match r with|Sum.inl _=> .ret|Sum.inr _=> .exit 4) (fun r=>match r with|Sum.inl _=> [(2, .y false)]|Sum.inr _=> [(1, .o 0),(2, .y false),(5, .j v25)]) (fun r=>match r with|Sum.inl _=> []|Sum.inr _=> [.box 31 (c31 a1) false]):=by
 refine Zy (fun s q h=> ?_) (fun r=> ?_)
 ·replace h:Z17 a1 v25 x27 s=some q:=h;revert h;revert s;intro v29 h
  unfold Z17 at h
  obtain⟨h30,h⟩|⟨h30,h⟩:=Z1 h
  ·obtain⟨x31,h32,h⟩:=bo h
   obtain⟨r33,h34,h⟩:=bo h
   obtain⟨h35,h⟩|⟨h35,h⟩:=Z1 h
   ·obtain rfl:=oi h;exact rl [2] [] [.t, .row (c3 x31), .b r33, .t] (pc h30<|pc (ob3 h32)<|pc (Z7P h34)<|pc h35<|pn)
   ·obtain⟨h36,h⟩|⟨h36,h⟩:=Z1 h
    ·obtain⟨x37,h38,h⟩:=bo h
     obtain⟨r39,h40,h⟩:=bo h
     obtain⟨h41,h⟩|⟨h41,h⟩:=Z1 h
     ·obtain rfl:=oi h;exact rl [2] [] [.t, .row (c3 x31), .b r33, .f, .row (c3 x37), .b r39, .t] (pc h30<|pc (ob3 h32)<|pc (Z7P h34)<|pc h35<|pc (Z4T h36)<|pc (ob3 h38)<|pc (Xt h40)<|pc h41<|pn)
     ·obtain rfl:=oi h;exact rl [1,2,5,6,7] [0,1] [.t, .row (c3 x31), .b r33, .f, .row (c3 x37), .b r39, .f] (pc h30<|pc (ob3 h32)<|pc (Z7P h34)<|pc h35<|pc (Z4T h36)<|pc (ob3 h38)<|pc (Xt h40)<|pc h41<|pn)
    ·cases h
  ·obtain rfl:=oi h;exact rl [1,2,5] [0] [.f] (pc h30<|pn)
 ·rcases r with _|_ <;> exact Ex.noConfusion

theorem ZaK {a1:Z2} :Zx Tryz.prog UU 0 120 (Zs (Zt Tryz.f67) [1,1,0,1,0,0]) (ρ:=Unit⊕Unit) (Qp a1)
  (fun v25:Int=>([(1, .o 0),(2, .y false),(5, .j v25)]:Fr DD)) (fun v25:Int=>([.box 31 (c31 a1) false]:Z3 DD)) (fun r=>match r with|Sum.inl _=> .ret|Sum.inr _=> .exit 2) (fun r=>match r with|Sum.inl _=> [(2, .y false)]|Sum.inr _=> [(2, .y false)]) (fun r=>match r with|Sum.inl _=> []|Sum.inr _=> []):=by
 refine Zy (fun s q h=> ?_) (fun r=> ?_)
 ·replace h:Qp a1 s=some q:=h;revert h;revert s;intro v25 h
  unfold Qp at h
  obtain⟨h26,h⟩|⟨h26,h⟩:=Z1 h
  ·obtain⟨x27,h28,h⟩:=bo h
   obtain⟨r43,h42,h⟩:=bo h
   rcases r43 with _|_
   ·obtain rfl:=oi h;exact rl [2] [] [.t, .row (c90 x27), .sum [1,2,5,6,7] [0,2] .ret [(2, .y false)] []] (pc h26<|pc (ZI h28)<|pc (ZaJ _ _ h42)<|pn)
   ·obtain rfl:=oi h;exact rl [1,2,5] [0] [.t, .row (c90 x27), .sum [1,2,5,6,7] [0,2] (.exit 4) [(1, .o 0),(2, .y false),(5, .j v25)] [.box 31 (c31 a1) false]] (pc h26<|pc (ZI h28)<|pc (ZaJ _ _ h42)<|pn)
  ·obtain rfl:=oi h;exact rl [2] [] [.f] (pc h26<|pn)
 ·rcases r with _|_ <;> exact Ex.noConfusion

theorem Z5H {a1:Z2} {r:Bool} (h:Z3d a1=some r):
  Z7 Tryz.prog UU 67 [.agg (c31 a1)] [] (.y r) []:=by
 unfold Z3d at h
 obtain⟨r24,h23,h⟩:=bo h
 rcases r24 with _|_
 ·obtain rfl:=oi h;exact rf Tryz.func67 none [.sum [1,2,3] [0] .ret [(2, .y false)] []] (pc (Z7Q _ _ h23)<|pn)
 ·obtain⟨r45,h44,h⟩:=bo h
  rcases r45 with _|_
  ·obtain rfl:=oi h;exact rf Tryz.func67 none [.sum [1,2,3] [0] (.exit 0) [(1, .o 0),(2, .y false)] [.box 31 (c31 a1) false], .sum [1,2,5] [0] .ret [(2, .y false)] []] (pc (Z7Q _ _ h23)<|pc (ZaK _ _ h44)<|pn)
  ·obtain rfl:=oi h;exact rf Tryz.func67 none [.sum [1,2,3] [0] (.exit 0) [(1, .o 0),(2, .y false)] [.box 31 (c31 a1) false], .sum [1,2,5] [0] (.exit 2) [(2, .y false)] []] (pc (Z7Q _ _ h23)<|pc (ZaK _ _ h44)<|pn)

theorem ZaL {a1:List Int} {a2:Int} {a3:Int} :Zx Tryz.prog UU 0 52 (Zs (Zt Tryz.f202) [1,1,0,1,0,0]) (ρ:=Unit⊕Unit) (Qq a1 a2 a3)
  (fun v6:Int=>([(0, .sl 3 a1),(1, .j a2),(2, .j a3),(6, .y false),(7, .j v6)]:Fr DD)) (fun v6:Int=>([]:Z3 DD)) (fun r=>match r with|Sum.inl _=> .ret|Sum.inr _=> .exit 0) (fun r=>match r with|Sum.inl _=> [(6, .y false)]|Sum.inr _=> [(6, .y false)]) (fun r=>match r with|Sum.inl _=> []|Sum.inr _=> []):=by
 refine Zy (fun s q h=> ?_) (fun r=> ?_)
 ·replace h:Qq a1 a2 a3 s=some q:=h;revert h;revert s;intro v6 h
  unfold Qq at h
  obtain⟨h7,h⟩|⟨h7,h⟩:=Z1 h
  ·obtain⟨x8,h9,h⟩:=bo h
   obtain⟨h10,h⟩|⟨h10,h⟩:=Z1 h
   ·obtain rfl:=oi h;exact rl [6] [] [.t, .row (c3 x8), .t] (pc h7<|pc (ob3 h9)<|pc h10<|pn)
   ·obtain⟨x11,h12,h⟩:=bo h
    obtain⟨h13,h⟩|⟨h13,h⟩:=Z1 h
    ·obtain rfl:=oi h;exact rl [6] [] [.t, .row (c3 x8), .f, .row (c3 x11), .t] (pc h7<|pc (ob3 h9)<|pc h10<|pc (ob3 h12)<|pc h13<|pn)
    ·obtain⟨h14,h⟩|⟨h14,h⟩:=Z1 h
     ·obtain⟨x15,h16,h⟩:=bo h
      obtain⟨x17,h18,h⟩:=bo h
      obtain⟨h19,h⟩|⟨h19,h⟩:=Z1 h
      ·obtain rfl:=oi h;exact rl [6] [] [.t, .row (c3 x8), .f, .row (c3 x11), .f, .t, .row (c3 x15), .row (c3 x17), .t] (pc h7<|pc (ob3 h9)<|pc h10<|pc (ob3 h12)<|pc h13<|pc h14<|pc (ob3 h16)<|pc (ob3 h18)<|pc h19<|pn)
      ·obtain rfl:=oi h;exact rl [0,1,2,6,7] [] [.t, .row (c3 x8), .f, .row (c3 x11), .f, .t, .row (c3 x15), .row (c3 x17), .f] (pc h7<|pc (ob3 h9)<|pc h10<|pc (ob3 h12)<|pc h13<|pc h14<|pc (ob3 h16)<|pc (ob3 h18)<|pc h19<|pn)
     ·obtain rfl:=oi h;exact rl [0,1,2,6,7] [] [.t, .row (c3 x8), .f, .row (c3 x11), .f, .f] (pc h7<|pc (ob3 h9)<|pc h10<|pc (ob3 h12)<|pc h13<|pc h14<|pn)
  ·obtain rfl:=oi h;exact rl [6] [] [.f] (pc h7<|pn)
 ·rcases r with _|_ <;> exact Ex.noConfusion

theorem Zfs {a1:List Int} {a2:Int} {a3:Int} {r:Bool} (h:Z3e a1 a2 a3=some r):
  Z7 Tryz.prog UU 202 [.sl 3 a1, .j a2, .j a3] [] (.y r) []:=by
 unfold Z3e at h
 obtain⟨h4,h⟩|⟨h4,h⟩:=Z1 h
 ·obtain rfl:=oi h;exact rf Tryz.func202 none [.t] (pc h4<|pn)
 ·obtain⟨h5,h⟩|⟨h5,h⟩:=Z1 h
  ·obtain rfl:=oi h;exact rf Tryz.func202 none [.f, .t] (pc h4<|pc h5<|pn)
  ·obtain⟨r21,h20,h⟩:=bo h
   rcases r21 with _|_
   ·obtain rfl:=oi h;exact rf Tryz.func202 none [.f, .f, .sum [0,1,2,6,7] [] .ret [(6, .y false)] []] (pc h4<|pc h5<|pc (ZaL _ _ h20)<|pn)
   ·obtain rfl:=oi h;exact rf Tryz.func202 none [.f, .f, .sum [0,1,2,6,7] [] (.exit 0) [(6, .y false)] []] (pc h4<|pc h5<|pc (ZaL _ _ h20)<|pn)

theorem WE {a1:List Int} {a2:Int} {r:Bool} (h:Qr a1 a2=some r):
  Z7 Tryz.prog UU 152 [.sl 3 a1, .j a2] [] (.y r) []:=by
 unfold Qr at h
 obtain⟨h3,h⟩|⟨h3,h⟩:=Z1 h
 ·obtain rfl:=oi h;exact rf Tryz.func152 none [.t] (pc h3<|pn)
 ·obtain⟨r4,h5,h⟩:=bo h
  obtain rfl:=oi h;exact rf Tryz.func152 none [.f, .b r4] (pc h3<|pc (Zfs h5)<|pn)

theorem QY {a1:Z2} {v2:Int} {x4:ZO} {r:Unit⊕Unit} (h:Z5r a1 v2 x4=some r):
  YE Tryz.prog UU 0 120 (Zs (Zt Tryz.f68) [1,0,1,0,0,1,0,0,1,1,0]) [(1, .o 0),(2, .y false),(3, .j v2),(4, .o 1)] [.box 31 (c31 a1) false, .box 110 (Za x4) false] ((fun r=>match r with|Sum.inl _=> .ret|Sum.inr _=> .nor) r) ((fun r=>match r with|Sum.inl _=> [(2, .y false)]|Sum.inr _=> [(1, .o 0),(2, .y false),(3, .j v2),(4, .o 1)]) r) ((fun r=>match r with|Sum.inl _=> []|Sum.inr _=> [.box 31 (c31 a1) false, .box 110 (Za x4) false]) r):=by
 unfold Z5r at h
 obtain⟨h17,h⟩|⟨h17,h⟩:=Z1 h
 ·obtain⟨h18,h⟩|⟨h18,h⟩:=Z1 h
  ·obtain rfl:=oi h;exact rl [2] [] [.t, .t] (pc h17<|pc h18<|pn)
  ·obtain⟨h19,h⟩|⟨h19,h⟩:=Z1 h
   ·obtain⟨r20,h21,h⟩:=bo h
    obtain⟨h22,h⟩|⟨h22,h⟩:=Z1 h
    ·obtain rfl:=oi h;exact rl [2] [] [.t, .f, .t, .callv (.j r20), .t] (pc h17<|pc h18<|pc h19<|pc (V5 h21)<|pc h22<|pn)
    ·obtain rfl:=oi h;exact rl [1,2,3,4] [0,1] [.t, .f, .t, .callv (.j r20), .f] (pc h17<|pc h18<|pc h19<|pc (V5 h21)<|pc h22<|pn)
   ·obtain rfl:=oi h;exact rl [1,2,3,4] [0,1] [.t, .f, .f] (pc h17<|pc h18<|pc h19<|pn)
 ·obtain⟨h23,h⟩|⟨h23,h⟩:=Z1 h
  ·obtain⟨r24,h25,h⟩:=bo h
   obtain⟨h26,h⟩|⟨h26,h⟩:=Z1 h
   ·obtain rfl:=oi h;exact rl [2] [] [.f, .t, .callv (.j r24), .t] (pc h17<|pc h23<|pc (V5 h25)<|pc h26<|pn)
   ·obtain rfl:=oi h;exact rl [1,2,3,4] [0,1] [.f, .t, .callv (.j r24), .f] (pc h17<|pc h23<|pc (V5 h25)<|pc h26<|pn)
  ·obtain rfl:=oi h;exact rl [1,2,3,4] [0,1] [.f, .f] (pc h17<|pc h23<|pn)

theorem Z1A {a1:Z2} {v2:Int} {x4:ZO} :Zx Tryz.prog UU 0 120 (Zs (Zt Tryz.f68) [1,0,1,0,0,1,0,0,1,1,1,0,1,0,0]) (ρ:=Unit⊕Unit) (Qs a1 v2 x4)
  (fun v29:Int=>([(1, .o 0),(2, .y false),(3, .j v2),(4, .o 1),(5, .j v29)]:Fr DD)) (fun v29:Int=>([.box 31 (c31 a1) false, .box 110 (Za x4) false]:Z3 DD)) (fun r=>match r with|Sum.inl _=> .ret|Sum.inr _=> .exit 2) (fun r=>match r with|Sum.inl _=> [(2, .y false)]|Sum.inr _=> [(1, .o 0),(2, .y false),(3, .j v2),(4, .o 1)]) (fun r=>match r with|Sum.inl _=> []|Sum.inr _=> [.box 31 (c31 a1) false, .box 110 (Za x4) false]):=by
 refine Zy (fun s q h=> ?_) (fun r=> ?_)
 ·replace h:Qs a1 v2 x4 s=some q:=h;revert h;revert s;intro v29 h
  unfold Qs at h
  obtain⟨h30,h⟩|⟨h30,h⟩:=Z1 h
  ·obtain⟨x31,h32,h⟩:=bo h
   obtain⟨r33,h34,h⟩:=bo h
   obtain⟨h35,h⟩|⟨h35,h⟩:=Z1 h
   ·obtain rfl:=oi h;exact rl [2] [] [.t, .row (c3 x31), .callv (.j r33), .t] (pc h30<|pc (ob3 h32)<|pc (V5 h34)<|pc h35<|pn)
   ·obtain rfl:=oi h;exact rl [1,2,3,4,5] [0,1] [.t, .row (c3 x31), .callv (.j r33), .f] (pc h30<|pc (ob3 h32)<|pc (V5 h34)<|pc h35<|pn)
  ·obtain rfl:=oi h;exact rl [1,2,3,4] [0,1] [.f] (pc h30<|pn)
 ·rcases r with _|_ <;> exact Ex.noConfusion

theorem ZaM {a1:Z2} :Zx Tryz.prog UU 0 120 (Zs (Zt Tryz.f68) [1,0,1,0,0]) (ρ:=Unit⊕Unit) (Z18 a1)
  (fun v2:Int=>([(1, .o 0),(2, .y false),(3, .j v2)]:Fr DD)) (fun v2:Int=>([.box 31 (c31 a1) false]:Z3 DD)) (fun r=>match r with|Sum.inl _=> .ret|Sum.inr _=> .exit 0) (fun r=>match r with|Sum.inl _=> [(2, .y false)]|Sum.inr _=> [(2, .y false)]) (fun r=>match r with|Sum.inl _=> []|Sum.inr _=> []):=by
 refine Zy (fun s q h=> ?_) (fun r=> ?_)
 ·replace h:Z18 a1 s=some q:=h;revert h;revert s;intro v2 h
  unfold Z18 at h
  obtain⟨h3,h⟩|⟨h3,h⟩:=Z1 h
  ·obtain⟨x4,h5,h⟩:=bo h
   obtain⟨r6,h7,h⟩:=bo h
   obtain⟨h8,h⟩|⟨h8,h⟩:=Z1 h
   ·obtain rfl:=oi h;exact rl [2] [] [.t, .row (Za x4), .b r6, .t] (pc h3<|pc (ZA h5)<|pc (ZB h7)<|pc h8<|pn)
   ·obtain⟨h9,h⟩|⟨h9,h⟩:=Z1 h
    ·obtain rfl:=oi h;exact rl [2] [] [.t, .row (Za x4), .b r6, .f, .t] (pc h3<|pc (ZA h5)<|pc (ZB h7)<|pc h8<|pc h9<|pn)
    ·obtain⟨h10,h⟩|⟨h10,h⟩:=Z1 h
     ·obtain rfl:=oi h;exact rl [2] [] [.t, .row (Za x4), .b r6, .f, .f, .t] (pc h3<|pc (ZA h5)<|pc (ZB h7)<|pc h8<|pc h9<|pc h10<|pn)
     ·obtain⟨r11,h12,h⟩:=bo h
      obtain⟨h13,h⟩|⟨h13,h⟩:=Z1 h
      ·obtain rfl:=oi h;exact rl [2] [] [.t, .row (Za x4), .b r6, .f, .f, .f, .b r11, .t] (pc h3<|pc (ZA h5)<|pc (ZB h7)<|pc h8<|pc h9<|pc h10<|pc (WE h12)<|pc h13<|pn)
      ·obtain⟨r14,h15,h⟩:=bo h
       obtain⟨h16,h⟩|⟨h16,h⟩:=Z1 h
       ·obtain rfl:=oi h;exact rl [2] [] [.t, .row (Za x4), .b r6, .f, .f, .f, .b r11, .f, .b r14, .t] (pc h3<|pc (ZA h5)<|pc (ZB h7)<|pc h8<|pc h9<|pc h10<|pc (WE h12)<|pc h13<|pc (Xt h15)<|pc h16<|pn)
       ·obtain⟨r28,h27,h⟩:=bo h
        rcases r28 with _|_
        ·obtain rfl:=oi h;exact rl [2] [] [.t, .row (Za x4), .b r6, .f, .f, .f, .b r11, .f, .b r14, .f, .cut [1,2,3,4] [0,2] .ret [(2, .y false)] []] (pc h3<|pc (ZA h5)<|pc (ZB h7)<|pc h8<|pc h9<|pc h10<|pc (WE h12)<|pc h13<|pc (Xt h15)<|pc h16<|pc (QY h27)<|pn)
        ·obtain⟨r37,h36,h⟩:=bo h
         rcases r37 with _|_
         ·obtain rfl:=oi h;exact rl [2] [] [.t, .row (Za x4), .b r6, .f, .f, .f, .b r11, .f, .b r14, .f, .cut [1,2,3,4] [0,2] .nor [(1, .o 0),(2, .y false),(3, .j v2),(4, .o 1)] [.box 31 (c31 a1) false, .box 110 (Za x4) false], .sum [1,2,3,4,5] [0,1] .ret [(2, .y false)] []] (pc h3<|pc (ZA h5)<|pc (ZB h7)<|pc h8<|pc h9<|pc h10<|pc (WE h12)<|pc h13<|pc (Xt h15)<|pc h16<|pc (QY h27)<|pc (Z1A _ _ h36)<|pn)
         ·obtain⟨h38,h⟩|⟨h38,h⟩:=Z1 h
          ·obtain rfl:=oi h;exact rl [1,2,3] [0] [.t, .row (Za x4), .b r6, .f, .f, .f, .b r11, .f, .b r14, .f, .cut [1,2,3,4] [0,2] .nor [(1, .o 0),(2, .y false),(3, .j v2),(4, .o 1)] [.box 31 (c31 a1) false, .box 110 (Za x4) false], .sum [1,2,3,4,5] [0,1] (.exit 2) [(1, .o 0),(2, .y false),(3, .j v2),(4, .o 1)] [.box 31 (c31 a1) false, .box 110 (Za x4) false], .t] (pc h3<|pc (ZA h5)<|pc (ZB h7)<|pc h8<|pc h9<|pc h10<|pc (WE h12)<|pc h13<|pc (Xt h15)<|pc h16<|pc (QY h27)<|pc (Z1A _ _ h36)<|pc h38<|pn)
          ·obtain⟨r39,h40,h⟩:=bo h
           obtain⟨h41,h⟩|⟨h41,h⟩:=Z1 h
           ·obtain rfl:=oi h;exact rl [2] [] [.t, .row (Za x4), .b r6, .f, .f, .f, .b r11, .f, .b r14, .f, .cut [1,2,3,4] [0,2] .nor [(1, .o 0),(2, .y false),(3, .j v2),(4, .o 1)] [.box 31 (c31 a1) false, .box 110 (Za x4) false], .sum [1,2,3,4,5] [0,1] (.exit 2) [(1, .o 0),(2, .y false),(3, .j v2),(4, .o 1)] [.box 31 (c31 a1) false, .box 110 (Za x4) false], .f, .b r39, .t] (pc h3<|pc (ZA h5)<|pc (ZB h7)<|pc h8<|pc h9<|pc h10<|pc (WE h12)<|pc h13<|pc (Xt h15)<|pc h16<|pc (QY h27)<|pc (Z1A _ _ h36)<|pc h38<|pc (ZB h40)<|pc h41<|pn)
           ·obtain⟨x42,h43,h⟩:=bo h
            obtain⟨h44,h⟩|⟨h44,h⟩:=Z1 h
            ·obtain⟨x45,h46,h⟩:=bo h
             obtain⟨h47,h⟩|⟨h47,h⟩:=Z1 h
             ·obtain rfl:=oi h;exact rl [2] [] [.t, .row (Za x4), .b r6, .f, .f, .f, .b r11, .f, .b r14, .f, .cut [1,2,3,4] [0,2] .nor [(1, .o 0),(2, .y false),(3, .j v2),(4, .o 1)] [.box 31 (c31 a1) false, .box 110 (Za x4) false], .sum [1,2,3,4,5] [0,1] (.exit 2) [(1, .o 0),(2, .y false),(3, .j v2),(4, .o 1)] [.box 31 (c31 a1) false, .box 110 (Za x4) false], .f, .b r39, .f, .row (YY x42), .t, .row (YY x45), .t] (pc h3<|pc (ZA h5)<|pc (ZB h7)<|pc h8<|pc h9<|pc h10<|pc (WE h12)<|pc h13<|pc (Xt h15)<|pc h16<|pc (QY h27)<|pc (Z1A _ _ h36)<|pc h38<|pc (ZB h40)<|pc h41<|pc (Xh h43)<|pc h44<|pc (Xh h46)<|pc h47<|pn)
             ·obtain rfl:=oi h;exact rl [1,2,3] [0] [.t, .row (Za x4), .b r6, .f, .f, .f, .b r11, .f, .b r14, .f, .cut [1,2,3,4] [0,2] .nor [(1, .o 0),(2, .y false),(3, .j v2),(4, .o 1)] [.box 31 (c31 a1) false, .box 110 (Za x4) false], .sum [1,2,3,4,5] [0,1] (.exit 2) [(1, .o 0),(2, .y false),(3, .j v2),(4, .o 1)] [.box 31 (c31 a1) false, .box 110 (Za x4) false], .f, .b r39, .f, .row (YY x42), .t, .row (YY x45), .f] (pc h3<|pc (ZA h5)<|pc (ZB h7)<|pc h8<|pc h9<|pc h10<|pc (WE h12)<|pc h13<|pc (Xt h15)<|pc h16<|pc (QY h27)<|pc (Z1A _ _ h36)<|pc h38<|pc (ZB h40)<|pc h41<|pc (Xh h43)<|pc h44<|pc (Xh h46)<|pc h47<|pn)
            ·obtain rfl:=oi h;exact rl [1,2,3] [0] [.t, .row (Za x4), .b r6, .f, .f, .f, .b r11, .f, .b r14, .f, .cut [1,2,3,4] [0,2] .nor [(1, .o 0),(2, .y false),(3, .j v2),(4, .o 1)] [.box 31 (c31 a1) false, .box 110 (Za x4) false], .sum [1,2,3,4,5] [0,1] (.exit 2) [(1, .o 0),(2, .y false),(3, .j v2),(4, .o 1)] [.box 31 (c31 a1) false, .box 110 (Za x4) false], .f, .b r39, .f, .row (YY x42), .f] (pc h3<|pc (ZA h5)<|pc (ZB h7)<|pc h8<|pc h9<|pc h10<|pc (WE h12)<|pc h13<|pc (Xt h15)<|pc h16<|pc (QY h27)<|pc (Z1A _ _ h36)<|pc h38<|pc (ZB h40)<|pc h41<|pc (Xh h43)<|pc h44<|pn)
  ·obtain rfl:=oi h;exact rl [2] [] [.f] (pc h3<|pn)
 ·rcases r with _|_ <;> exact Ex.noConfusion

theorem Z7R {a1:Z2} {r:Bool} (h:Z3f a1=some r):
  Z7 Tryz.prog UU 68 [.agg (c31 a1)] [] (.y r) []:=by
 unfold Z3f at h
 obtain⟨r49,h48,h⟩:=bo h
 rcases r49 with _|_
 ·obtain rfl:=oi h;exact rf Tryz.func68 none [.sum [1,2,3] [0] .ret [(2, .y false)] []] (pc (ZaM _ _ h48)<|pn)
 ·obtain rfl:=oi h;exact rf Tryz.func68 none [.sum [1,2,3] [0] (.exit 0) [(2, .y false)] []] (pc (ZaM _ _ h48)<|pn)

theorem ZaN {a1:Z2} :Zx Tryz.prog UU 0 70 (Zs (Zt Tryz.f69) [1,0,1,0,0]) (ρ:=Unit⊕Unit) (Z19 a1)
  (fun v2:Int=>([(1, .o 0),(2, .y false),(3, .j v2)]:Fr DD)) (fun v2:Int=>([.box 31 (c31 a1) false]:Z3 DD)) (fun r=>match r with|Sum.inl _=> .ret|Sum.inr _=> .exit 0) (fun r=>match r with|Sum.inl _=> [(2, .y false)]|Sum.inr _=> [(2, .y false)]) (fun r=>match r with|Sum.inl _=> []|Sum.inr _=> []):=by
 refine Zy (fun s q h=> ?_) (fun r=> ?_)
 ·replace h:Z19 a1 s=some q:=h;revert h;revert s;intro v2 h
  unfold Z19 at h
  obtain⟨h3,h⟩|⟨h3,h⟩:=Z1 h
  ·obtain⟨x4,h5,h⟩:=bo h
   obtain⟨r6,h7,h⟩:=bo h
   obtain⟨h8,h⟩|⟨h8,h⟩:=Z1 h
   ·obtain rfl:=oi h;exact rl [2] [] [.t, .row (YY x4), .b r6, .t] (pc h3<|pc (Xh h5)<|pc (ZB h7)<|pc h8<|pn)
   ·obtain⟨r9,h10,h⟩:=bo h
    obtain⟨h11,h⟩|⟨h11,h⟩:=Z1 h
    ·obtain rfl:=oi h;exact rl [2] [] [.t, .row (YY x4), .b r6, .f, .b r9, .t] (pc h3<|pc (Xh h5)<|pc (ZB h7)<|pc h8<|pc (ZB h10)<|pc h11<|pn)
    ·obtain⟨x12,h13,h⟩:=bo h
     obtain⟨x14,h15,h⟩:=bo h
     obtain⟨h16,h⟩|⟨h16,h⟩:=Z1 h
     ·obtain rfl:=oi h;exact rl [2] [] [.t, .row (YY x4), .b r6, .f, .b r9, .f, .row (Za x12), .row (Za x14), .t] (pc h3<|pc (Xh h5)<|pc (ZB h7)<|pc h8<|pc (ZB h10)<|pc h11<|pc (ZA h13)<|pc (ZA h15)<|pc h16<|pn)
     ·obtain⟨x17,h18,h⟩:=bo h
      obtain⟨h19,h⟩|⟨h19,h⟩:=Z1 h
      ·obtain rfl:=oi h;exact rl [2] [] [.t, .row (YY x4), .b r6, .f, .b r9, .f, .row (Za x12), .row (Za x14), .f, .row (Za x17), .t] (pc h3<|pc (Xh h5)<|pc (ZB h7)<|pc h8<|pc (ZB h10)<|pc h11<|pc (ZA h13)<|pc (ZA h15)<|pc h16<|pc (ZA h18)<|pc h19<|pn)
      ·obtain⟨x20,h21,h⟩:=bo h
       obtain⟨h22,h⟩|⟨h22,h⟩:=Z1 h
       ·obtain rfl:=oi h;exact rl [2] [] [.t, .row (YY x4), .b r6, .f, .b r9, .f, .row (Za x12), .row (Za x14), .f, .row (Za x17), .f, .row (Za x20), .t] (pc h3<|pc (Xh h5)<|pc (ZB h7)<|pc h8<|pc (ZB h10)<|pc h11<|pc (ZA h13)<|pc (ZA h15)<|pc h16<|pc (ZA h18)<|pc h19<|pc (ZA h21)<|pc h22<|pn)
       ·obtain rfl:=oi h;exact rl [1,2,3] [0] [.t, .row (YY x4), .b r6, .f, .b r9, .f, .row (Za x12), .row (Za x14), .f, .row (Za x17), .f, .row (Za x20), .f] (pc h3<|pc (Xh h5)<|pc (ZB h7)<|pc h8<|pc (ZB h10)<|pc h11<|pc (ZA h13)<|pc (ZA h15)<|pc h16<|pc (ZA h18)<|pc h19<|pc (ZA h21)<|pc h22<|pn)
  ·obtain rfl:=oi h;exact rl [2] [] [.f] (pc h3<|pn)
 ·rcases r with _|_ <;> exact Ex.noConfusion

theorem ZaO {a1:Z2} {r:Bool} (h:Z3g a1=some r):
  Z7 Tryz.prog UU 69 [.agg (c31 a1)] [] (.y r) []:=by
 unfold Z3g at h
 obtain⟨r24,h23,h⟩:=bo h
 rcases r24 with _|_
 ·obtain rfl:=oi h;exact rf Tryz.func69 none [.sum [1,2,3] [0] .ret [(2, .y false)] []] (pc (ZaN _ _ h23)<|pn)
 ·obtain rfl:=oi h;exact rf Tryz.func69 none [.sum [1,2,3] [0] (.exit 0) [(2, .y false)] []] (pc (ZaN _ _ h23)<|pn)

theorem Z5I {a1:ZO} {a2:Int} {r:Bool} (h:Qt a1 a2=some r):
  Z7 Tryz.prog UU 153 [.agg (Za a1), .j a2] [] (.y r) []:=by
 unfold Qt at h
 obtain⟨h3,h⟩|⟨h3,h⟩:=Z1 h
 ·obtain⟨h4,h⟩|⟨h4,h⟩:=Z1 h
  ·obtain rfl:=oi h;exact rf Tryz.func153 none [.t, .t] (pc h3<|pc h4<|pn)
  ·obtain⟨r5,h6,h⟩:=bo h
   obtain rfl:=oi h;exact rf Tryz.func153 none [.t, .f, .b r5] (pc h3<|pc h4<|pc (Xt h6)<|pn)
 ·obtain rfl:=oi h;exact rf Tryz.func153 none [.f] (pc h3<|pn)

theorem Z3M {a1:Z2} :Zx Tryz.prog UU 0 192 (Zs (Zt Tryz.f70) [1,0,1,0,0]) (ρ:=Unit⊕Unit) (Z1a a1)
  (fun v2:Int=>([(1, .o 0),(2, .y false),(3, .j v2)]:Fr DD)) (fun v2:Int=>([.box 31 (c31 a1) false]:Z3 DD)) (fun r=>match r with|Sum.inl _=> .ret|Sum.inr _=> .exit 0) (fun r=>match r with|Sum.inl _=> [(2, .y false)]|Sum.inr _=> [(1, .o 0),(2, .y false)]) (fun r=>match r with|Sum.inl _=> []|Sum.inr _=> [.box 31 (c31 a1) false]):=by
 refine Zy (fun s q h=> ?_) (fun r=> ?_)
 ·replace h:Z1a a1 s=some q:=h;revert h;revert s;intro v2 h
  unfold Z1a at h
  obtain⟨h3,h⟩|⟨h3,h⟩:=Z1 h
  ·obtain⟨x4,h5,h⟩:=bo h
   obtain⟨r6,h7,h⟩:=bo h
   obtain⟨h8,h⟩|⟨h8,h⟩:=Z1 h
   ·obtain rfl:=oi h;exact rl [2] [] [.t, .row (Vm x4), .b r6, .t] (pc h3<|pc (QS h5)<|pc (ZB h7)<|pc h8<|pn)
   ·obtain⟨r9,h10,h⟩:=bo h
    obtain⟨h11,h⟩|⟨h11,h⟩:=Z1 h
    ·obtain rfl:=oi h;exact rl [2] [] [.t, .row (Vm x4), .b r6, .f, .b r9, .t] (pc h3<|pc (QS h5)<|pc (ZB h7)<|pc h8<|pc (ZB h10)<|pc h11<|pn)
    ·obtain⟨x12,h13,h⟩:=bo h
     obtain⟨x14,h15,h⟩:=bo h
     obtain⟨h16,h⟩|⟨h16,h⟩:=Z1 h
     ·obtain rfl:=oi h;exact rl [2] [] [.t, .row (Vm x4), .b r6, .f, .b r9, .f, .row (c90 x12), .row (Za x14), .t] (pc h3<|pc (QS h5)<|pc (ZB h7)<|pc h8<|pc (ZB h10)<|pc h11<|pc (ZI h13)<|pc (ZA h15)<|pc h16<|pn)
     ·obtain⟨x17,h18,h⟩:=bo h
      obtain⟨r19,h20,h⟩:=bo h
      obtain⟨h21,h⟩|⟨h21,h⟩:=Z1 h
      ·obtain rfl:=oi h;exact rl [2] [] [.t, .row (Vm x4), .b r6, .f, .b r9, .f, .row (c90 x12), .row (Za x14), .f, .row (Za x17), .b r19, .t] (pc h3<|pc (QS h5)<|pc (ZB h7)<|pc h8<|pc (ZB h10)<|pc h11<|pc (ZI h13)<|pc (ZA h15)<|pc h16<|pc (ZA h18)<|pc (Z5I h20)<|pc h21<|pn)
      ·obtain rfl:=oi h;exact rl [1,2,3] [0] [.t, .row (Vm x4), .b r6, .f, .b r9, .f, .row (c90 x12), .row (Za x14), .f, .row (Za x17), .b r19, .f] (pc h3<|pc (QS h5)<|pc (ZB h7)<|pc h8<|pc (ZB h10)<|pc h11<|pc (ZI h13)<|pc (ZA h15)<|pc h16<|pc (ZA h18)<|pc (Z5I h20)<|pc h21<|pn)
  ·obtain rfl:=oi h;exact rl [1,2] [0] [.f] (pc h3<|pn)
 ·rcases r with _|_ <;> exact Ex.noConfusion

theorem Z5J {a1:Z2} :Zx Tryz.prog UU 0 192 (Zs (Zt Tryz.f70) [1,1,0,1,0,0]) (ρ:=Unit⊕Unit) (Z1b a1)
  (fun v24:Int=>([(1, .o 0),(2, .y false),(6, .j v24)]:Fr DD)) (fun v24:Int=>([.box 31 (c31 a1) false]:Z3 DD)) (fun r=>match r with|Sum.inl _=> .ret|Sum.inr _=> .exit 2) (fun r=>match r with|Sum.inl _=> [(2, .y false)]|Sum.inr _=> [(1, .o 0),(2, .y false)]) (fun r=>match r with|Sum.inl _=> []|Sum.inr _=> [.box 31 (c31 a1) false]):=by
 refine Zy (fun s q h=> ?_) (fun r=> ?_)
 ·replace h:Z1b a1 s=some q:=h;revert h;revert s;intro v24 h
  unfold Z1b at h
  obtain⟨h25,h⟩|⟨h25,h⟩:=Z1 h
  ·obtain⟨x26,h27,h⟩:=bo h
   obtain⟨r28,h29,h⟩:=bo h
   obtain⟨h30,h⟩|⟨h30,h⟩:=Z1 h
   ·obtain rfl:=oi h;exact rl [2] [] [.t, .row (WM x26), .b r28, .t] (pc h25<|pc (Uj h27)<|pc (ZB h29)<|pc h30<|pn)
   ·obtain⟨x31,h32,h⟩:=bo h
    obtain⟨h33,h⟩|⟨h33,h⟩:=Z1 h
    ·obtain rfl:=oi h;exact rl [2] [] [.t, .row (WM x26), .b r28, .f, .row (WM x31), .t] (pc h25<|pc (Uj h27)<|pc (ZB h29)<|pc h30<|pc (Uj h32)<|pc h33<|pn)
    ·obtain rfl:=oi h;exact rl [1,2,6] [0] [.t, .row (WM x26), .b r28, .f, .row (WM x31), .f] (pc h25<|pc (Uj h27)<|pc (ZB h29)<|pc h30<|pc (Uj h32)<|pc h33<|pn)
  ·obtain rfl:=oi h;exact rl [1,2] [0] [.f] (pc h25<|pn)
 ·rcases r with _|_ <;> exact Ex.noConfusion

theorem Z7S {a1:Z2} :Zx Tryz.prog UU 0 192 (Zs (Zt Tryz.f70) [1,1,1,0,1,0,0]) (ρ:=Unit⊕Unit) (Z1c a1)
  (fun v36:Int=>([(1, .o 0),(2, .y false),(7, .j v36)]:Fr DD)) (fun v36:Int=>([.box 31 (c31 a1) false]:Z3 DD)) (fun r=>match r with|Sum.inl _=> .ret|Sum.inr _=> .exit 4) (fun r=>match r with|Sum.inl _=> [(2, .y false)]|Sum.inr _=> [(1, .o 0),(2, .y false)]) (fun r=>match r with|Sum.inl _=> []|Sum.inr _=> [.box 31 (c31 a1) false]):=by
 refine Zy (fun s q h=> ?_) (fun r=> ?_)
 ·replace h:Z1c a1 s=some q:=h;revert h;revert s;intro v36 h
  unfold Z1c at h
  obtain⟨h37,h⟩|⟨h37,h⟩:=Z1 h
  ·obtain⟨x38,h39,h⟩:=bo h
   obtain⟨r40,h41,h⟩:=bo h
   obtain⟨h42,h⟩|⟨h42,h⟩:=Z1 h
   ·obtain rfl:=oi h;exact rl [2] [] [.t, .row (c88 x38), .b r40, .t] (pc h37<|pc (Yv h39)<|pc (ZB h41)<|pc h42<|pn)
   ·obtain⟨r43,h44,h⟩:=bo h
    obtain⟨h45,h⟩|⟨h45,h⟩:=Z1 h
    ·obtain rfl:=oi h;exact rl [2] [] [.t, .row (c88 x38), .b r40, .f, .b r43, .t] (pc h37<|pc (Yv h39)<|pc (ZB h41)<|pc h42<|pc (WE h44)<|pc h45<|pn)
    ·obtain⟨r46,h47,h⟩:=bo h
     obtain⟨h48,h⟩|⟨h48,h⟩:=Z1 h
     ·obtain rfl:=oi h;exact rl [2] [] [.t, .row (c88 x38), .b r40, .f, .b r43, .f, .b r46, .t] (pc h37<|pc (Yv h39)<|pc (ZB h41)<|pc h42<|pc (WE h44)<|pc h45<|pc (WE h47)<|pc h48<|pn)
     ·obtain rfl:=oi h;exact rl [1,2,7] [0] [.t, .row (c88 x38), .b r40, .f, .b r43, .f, .b r46, .f] (pc h37<|pc (Yv h39)<|pc (ZB h41)<|pc h42<|pc (WE h44)<|pc h45<|pc (WE h47)<|pc h48<|pn)
  ·obtain rfl:=oi h;exact rl [1,2] [0] [.f] (pc h37<|pn)
 ·rcases r with _|_ <;> exact Ex.noConfusion

theorem ZaP {a1:Z2} :Zx Tryz.prog UU 0 192 (Zs (Zt Tryz.f70) [1,1,1,1,0,1,0,0]) (ρ:=Unit⊕Unit) (Z1d a1)
  (fun v51:Int=>([(1, .o 0),(2, .y false),(9, .j v51)]:Fr DD)) (fun v51:Int=>([.box 31 (c31 a1) false]:Z3 DD)) (fun r=>match r with|Sum.inl _=> .ret|Sum.inr _=> .exit 6) (fun r=>match r with|Sum.inl _=> [(2, .y false)]|Sum.inr _=> [(2, .y false)]) (fun r=>match r with|Sum.inl _=> []|Sum.inr _=> []):=by
 refine Zy (fun s q h=> ?_) (fun r=> ?_)
 ·replace h:Z1d a1 s=some q:=h;revert h;revert s;intro v51 h
  unfold Z1d at h
  obtain⟨h52,h⟩|⟨h52,h⟩:=Z1 h
  ·obtain⟨x53,h54,h⟩:=bo h
   obtain⟨r55,h56,h⟩:=bo h
   obtain⟨h57,h⟩|⟨h57,h⟩:=Z1 h
   ·obtain rfl:=oi h;exact rl [2] [] [.t, .row (ZK x53), .b r55, .t] (pc h52<|pc (ZP h54)<|pc (ZB h56)<|pc h57<|pn)
   ·obtain⟨r58,h59,h⟩:=bo h
    obtain⟨h60,h⟩|⟨h60,h⟩:=Z1 h
    ·obtain rfl:=oi h;exact rl [2] [] [.t, .row (ZK x53), .b r55, .f, .b r58, .t] (pc h52<|pc (ZP h54)<|pc (ZB h56)<|pc h57<|pc (ZB h59)<|pc h60<|pn)
    ·obtain⟨h61,h⟩|⟨h61,h⟩:=Z1 h
     ·obtain rfl:=oi h;exact rl [2] [] [.t, .row (ZK x53), .b r55, .f, .b r58, .f, .t] (pc h52<|pc (ZP h54)<|pc (ZB h56)<|pc h57<|pc (ZB h59)<|pc h60<|pc h61<|pn)
     ·obtain⟨h62,h⟩|⟨h62,h⟩:=Z1 h
      ·obtain rfl:=oi h;exact rl [2] [] [.t, .row (ZK x53), .b r55, .f, .b r58, .f, .f, .t] (pc h52<|pc (ZP h54)<|pc (ZB h56)<|pc h57<|pc (ZB h59)<|pc h60<|pc h61<|pc h62<|pn)
      ·obtain⟨x63,h64,h⟩:=bo h
       obtain⟨x65,h66,h⟩:=bo h
       obtain⟨h67,h⟩|⟨h67,h⟩:=Z1 h
       ·obtain rfl:=oi h;exact rl [2] [] [.t, .row (ZK x53), .b r55, .f, .b r58, .f, .f, .f, .row (c90 x63), .row (c88 x65), .t] (pc h52<|pc (ZP h54)<|pc (ZB h56)<|pc h57<|pc (ZB h59)<|pc h60<|pc h61<|pc h62<|pc (ZI h64)<|pc (Yv h66)<|pc h67<|pn)
       ·obtain⟨x68,h69,h⟩:=bo h
        obtain⟨h70,h⟩|⟨h70,h⟩:=Z1 h
        ·obtain rfl:=oi h;exact rl [2] [] [.t, .row (ZK x53), .b r55, .f, .b r58, .f, .f, .f, .row (c90 x63), .row (c88 x65), .f, .row (c90 x68), .t] (pc h52<|pc (ZP h54)<|pc (ZB h56)<|pc h57<|pc (ZB h59)<|pc h60<|pc h61<|pc h62<|pc (ZI h64)<|pc (Yv h66)<|pc h67<|pc (ZI h69)<|pc h70<|pn)
        ·obtain rfl:=oi h;exact rl [1,2,9] [0] [.t, .row (ZK x53), .b r55, .f, .b r58, .f, .f, .f, .row (c90 x63), .row (c88 x65), .f, .row (c90 x68), .f] (pc h52<|pc (ZP h54)<|pc (ZB h56)<|pc h57<|pc (ZB h59)<|pc h60<|pc h61<|pc h62<|pc (ZI h64)<|pc (Yv h66)<|pc h67<|pc (ZI h69)<|pc h70<|pn)
  ·obtain rfl:=oi h;exact rl [2] [] [.f] (pc h52<|pn)
 ·rcases r with _|_ <;> exact Ex.noConfusion

theorem Zft {a1:Z2} {r:Bool} (h:Z3h a1=some r):
  Z7 Tryz.prog UU 70 [.agg (c31 a1)] [] (.y r) []:=by
 unfold Z3h at h
 obtain⟨r23,h22,h⟩:=bo h
 rcases r23 with _|_
 ·obtain rfl:=oi h;exact rf Tryz.func70 none [.sum [1,2,3] [0] .ret [(2, .y false)] []] (pc (Z3M _ _ h22)<|pn)
 ·obtain⟨r35,h34,h⟩:=bo h
  rcases r35 with _|_
  ·obtain rfl:=oi h;exact rf Tryz.func70 none [.sum [1,2,3] [0] (.exit 0) [(1, .o 0),(2, .y false)] [.box 31 (c31 a1) false], .sum [1,2,6] [0] .ret [(2, .y false)] []] (pc (Z3M _ _ h22)<|pc (Z5J _ _ h34)<|pn)
  ·obtain⟨r50,h49,h⟩:=bo h
   rcases r50 with _|_
   ·obtain rfl:=oi h;exact rf Tryz.func70 none [.sum [1,2,3] [0] (.exit 0) [(1, .o 0),(2, .y false)] [.box 31 (c31 a1) false], .sum [1,2,6] [0] (.exit 2) [(1, .o 0),(2, .y false)] [.box 31 (c31 a1) false], .sum [1,2,7] [0] .ret [(2, .y false)] []] (pc (Z3M _ _ h22)<|pc (Z5J _ _ h34)<|pc (Z7S _ _ h49)<|pn)
   ·obtain⟨r72,h71,h⟩:=bo h
    rcases r72 with _|_
    ·obtain rfl:=oi h;exact rf Tryz.func70 none [.sum [1,2,3] [0] (.exit 0) [(1, .o 0),(2, .y false)] [.box 31 (c31 a1) false], .sum [1,2,6] [0] (.exit 2) [(1, .o 0),(2, .y false)] [.box 31 (c31 a1) false], .sum [1,2,7] [0] (.exit 4) [(1, .o 0),(2, .y false)] [.box 31 (c31 a1) false], .sum [1,2,9] [0] .ret [(2, .y false)] []] (pc (Z3M _ _ h22)<|pc (Z5J _ _ h34)<|pc (Z7S _ _ h49)<|pc (ZaP _ _ h71)<|pn)
    ·obtain rfl:=oi h;exact rf Tryz.func70 none [.sum [1,2,3] [0] (.exit 0) [(1, .o 0),(2, .y false)] [.box 31 (c31 a1) false], .sum [1,2,6] [0] (.exit 2) [(1, .o 0),(2, .y false)] [.box 31 (c31 a1) false], .sum [1,2,7] [0] (.exit 4) [(1, .o 0),(2, .y false)] [.box 31 (c31 a1) false], .sum [1,2,9] [0] (.exit 6) [(2, .y false)] []] (pc (Z3M _ _ h22)<|pc (Z5J _ _ h34)<|pc (Z7S _ _ h49)<|pc (ZaP _ _ h71)<|pn)

theorem Z7T {a1:Z2} {r:Bool} (h:Z3i a1=some r):
  Z7 Tryz.prog UU 19 [.agg (c31 a1)] [] (.y r) []:=by
 unfold Z3i at h
 obtain⟨h2,h⟩|⟨h2,h⟩:=Z1 h
 ·obtain rfl:=oi h;exact rf Tryz.func19 none [.t] (pc h2<|pn)
 ·obtain⟨h3,h⟩|⟨h3,h⟩:=Z1 h
  ·obtain rfl:=oi h;exact rf Tryz.func19 none [.f, .t] (pc h2<|pc h3<|pn)
  ·obtain⟨h4,h⟩|⟨h4,h⟩:=Z1 h
   ·obtain rfl:=oi h;exact rf Tryz.func19 none [.f, .f, .t] (pc h2<|pc h3<|pc h4<|pn)
   ·obtain⟨h5,h⟩|⟨h5,h⟩:=Z1 h
    ·obtain rfl:=oi h;exact rf Tryz.func19 none [.f, .f, .f, .t] (pc h2<|pc h3<|pc h4<|pc h5<|pn)
    ·obtain⟨h6,h⟩|⟨h6,h⟩:=Z1 h
     ·obtain rfl:=oi h;exact rf Tryz.func19 none [.f, .f, .f, .f, .t] (pc h2<|pc h3<|pc h4<|pc h5<|pc h6<|pn)
     ·obtain⟨h7,h⟩|⟨h7,h⟩:=Z1 h
      ·obtain rfl:=oi h;exact rf Tryz.func19 none [.f, .f, .f, .f, .f, .t] (pc h2<|pc h3<|pc h4<|pc h5<|pc h6<|pc h7<|pn)
      ·obtain⟨h8,h⟩|⟨h8,h⟩:=Z1 h
       ·obtain rfl:=oi h;exact rf Tryz.func19 none [.f, .f, .f, .f, .f, .f, .t] (pc h2<|pc h3<|pc h4<|pc h5<|pc h6<|pc h7<|pc h8<|pn)
       ·obtain⟨h9,h⟩|⟨h9,h⟩:=Z1 h
        ·obtain rfl:=oi h;exact rf Tryz.func19 none [.f, .f, .f, .f, .f, .f, .f, .t] (pc h2<|pc h3<|pc h4<|pc h5<|pc h6<|pc h7<|pc h8<|pc h9<|pn)
        ·obtain⟨r10,h11,h⟩:=bo h
         obtain⟨h12,h⟩|⟨h12,h⟩:=Z1 h
         ·obtain⟨r13,h14,h⟩:=bo h
          obtain⟨h15,h⟩|⟨h15,h⟩:=Z1 h
          ·obtain⟨r16,h17,h⟩:=bo h
           obtain⟨h18,h⟩|⟨h18,h⟩:=Z1 h
           ·obtain⟨r19,h20,h⟩:=bo h
            obtain rfl:=oi h;exact rf Tryz.func19 none [.f, .f, .f, .f, .f, .f, .f, .f, .b r10, .t, .b r13, .t, .b r16, .t, .b r19] (pc h2<|pc h3<|pc h4<|pc h5<|pc h6<|pc h7<|pc h8<|pc h9<|pc (Z5H h11)<|pc h12<|pc (Z7R h14)<|pc h15<|pc (ZaO h17)<|pc h18<|pc (Zft h20)<|pn)
           ·obtain rfl:=oi h;exact rf Tryz.func19 none [.f, .f, .f, .f, .f, .f, .f, .f, .b r10, .t, .b r13, .t, .b r16, .f] (pc h2<|pc h3<|pc h4<|pc h5<|pc h6<|pc h7<|pc h8<|pc h9<|pc (Z5H h11)<|pc h12<|pc (Z7R h14)<|pc h15<|pc (ZaO h17)<|pc h18<|pn)
          ·obtain rfl:=oi h;exact rf Tryz.func19 none [.f, .f, .f, .f, .f, .f, .f, .f, .b r10, .t, .b r13, .f] (pc h2<|pc h3<|pc h4<|pc h5<|pc h6<|pc h7<|pc h8<|pc h9<|pc (Z5H h11)<|pc h12<|pc (Z7R h14)<|pc h15<|pn)
         ·obtain rfl:=oi h;exact rf Tryz.func19 none [.f, .f, .f, .f, .f, .f, .f, .f, .b r10, .f] (pc h2<|pc h3<|pc h4<|pc h5<|pc h6<|pc h7<|pc h8<|pc h9<|pc (Z5H h11)<|pc h12<|pn)

theorem Z3N {a1:Z2} {a2:List Int} {v7:Int} {r:Unit⊕Unit} (h:Z5s a1 a2 v7=some r):
  YE Tryz.prog UU 0 58 (Zs (Zt Tryz.f77) [1,1,0,1,0,0,1,0,0,0]) [(1, .sl 3 a2),(2, .o 0),(4, .y false),(5, .j v7)] [.box 31 (c31 a1) false] ((fun r=>match r with|Sum.inl _=> .ret|Sum.inr _=> .nor) r) ((fun r=>match r with|Sum.inl _=> [(4, .y false)]|Sum.inr _=> [(1, .sl 3 a2),(2, .o 0),(4, .y false),(5, .j v7)]) r) ((fun r=>match r with|Sum.inl _=> []|Sum.inr _=> [.box 31 (c31 a1) false]) r):=by
 unfold Z5s at h
 obtain⟨x9,h10,h⟩:=bo h
 obtain⟨h11,h⟩|⟨h11,h⟩:=Z1 h
 ·obtain⟨x12,h13,h⟩:=bo h
  obtain⟨h14,h⟩|⟨h14,h⟩:=Z1 h
  ·obtain rfl:=oi h;exact rl [4] [] [.row (Za x9), .t, .row (c3 x12), .t] (pc (ZA h10)<|pc h11<|pc (ob3 h13)<|pc h14<|pn)
  ·obtain rfl:=oi h;exact rl [1,2,4,5] [0] [.row (Za x9), .t, .row (c3 x12), .f] (pc (ZA h10)<|pc h11<|pc (ob3 h13)<|pc h14<|pn)
 ·obtain rfl:=oi h;exact rl [1,2,4,5] [0] [.row (Za x9), .f] (pc (ZA h10)<|pc h11<|pn)

theorem ZaQ {a1:Z2} {a2:List Int} :Zx Tryz.prog UU 0 58 (Zs (Zt Tryz.f77) [1,1,0,1,0,0]) (ρ:=Unit⊕Unit) (Qu a1 a2)
  (fun v7:Int=>([(1, .sl 3 a2),(2, .o 0),(4, .y false),(5, .j v7)]:Fr DD)) (fun v7:Int=>([.box 31 (c31 a1) false]:Z3 DD)) (fun r=>match r with|Sum.inl _=> .ret|Sum.inr _=> .exit 0) (fun r=>match r with|Sum.inl _=> [(4, .y false)]|Sum.inr _=> [(4, .y false)]) (fun r=>match r with|Sum.inl _=> []|Sum.inr _=> []):=by
 refine Zy (fun s q h=> ?_) (fun r=> ?_)
 ·replace h:Qu a1 a2 s=some q:=h;revert h;revert s;intro v7 h
  unfold Qu at h
  obtain⟨h8,h⟩|⟨h8,h⟩:=Z1 h
  ·obtain⟨r16,h15,h⟩:=bo h
   rcases r16 with _|_
   ·obtain rfl:=oi h;exact rl [4] [] [.t, .skp, .cut [1,2,4,5] [0] .ret [(4, .y false)] []] (pc h8<|pc (Z3N h15)<|pn)
   ·obtain⟨x17,h18,h⟩:=bo h
    obtain⟨h19,h⟩|⟨h19,h⟩:=Z1 h
    ·obtain⟨x20,h21,h⟩:=bo h
     obtain⟨h22,h⟩|⟨h22,h⟩:=Z1 h
     ·obtain rfl:=oi h;exact rl [4] [] [.t, .skp, .cut [1,2,4,5] [0] .nor [(1, .sl 3 a2),(2, .o 0),(4, .y false),(5, .j v7)] [.box 31 (c31 a1) false], .row (Za x17), .t, .row (c3 x20), .t] (pc h8<|pc (Z3N h15)<|pc (ZA h18)<|pc h19<|pc (ob3 h21)<|pc h22<|pn)
     ·obtain⟨x23,h24,h⟩:=bo h
      obtain⟨h25,h⟩|⟨h25,h⟩:=Z1 h
      ·obtain rfl:=oi h;exact rl [4] [] [.t, .skp, .cut [1,2,4,5] [0] .nor [(1, .sl 3 a2),(2, .o 0),(4, .y false),(5, .j v7)] [.box 31 (c31 a1) false], .row (Za x17), .t, .row (c3 x20), .f, .row (c3 x23), .t] (pc h8<|pc (Z3N h15)<|pc (ZA h18)<|pc h19<|pc (ob3 h21)<|pc h22<|pc (ob3 h24)<|pc h25<|pn)
      ·obtain rfl:=oi h;exact rl [1,2,4,5] [0] [.t, .skp, .cut [1,2,4,5] [0] .nor [(1, .sl 3 a2),(2, .o 0),(4, .y false),(5, .j v7)] [.box 31 (c31 a1) false], .row (Za x17), .t, .row (c3 x20), .f, .row (c3 x23), .f] (pc h8<|pc (Z3N h15)<|pc (ZA h18)<|pc h19<|pc (ob3 h21)<|pc h22<|pc (ob3 h24)<|pc h25<|pn)
    ·obtain rfl:=oi h;exact rl [1,2,4,5] [0] [.t, .skp, .cut [1,2,4,5] [0] .nor [(1, .sl 3 a2),(2, .o 0),(4, .y false),(5, .j v7)] [.box 31 (c31 a1) false], .row (Za x17), .f] (pc h8<|pc (Z3N h15)<|pc (ZA h18)<|pc h19<|pn)
  ·obtain rfl:=oi h;exact rl [4] [] [.f] (pc h8<|pn)
 ·rcases r with _|_ <;> exact Ex.noConfusion

theorem Vq {a1:Z2} {a2:List Int} {r:Bool} (h:Qv a1 a2=some r):
  Z7 Tryz.prog UU 77 [.agg (c31 a1), .sl 3 a2] [] (.y r) []:=by
 unfold Qv at h
 obtain⟨h3,h⟩|⟨h3,h⟩:=Z1 h
 ·obtain rfl:=oi h;exact rf Tryz.func77 none [.t] (pc h3<|pn)
 ·obtain⟨r4,h5,h⟩:=bo h
  obtain⟨h6,h⟩|⟨h6,h⟩:=Z1 h
  ·obtain rfl:=oi h;exact rf Tryz.func77 none [.f, .b r4, .t] (pc h3<|pc (Z7T h5)<|pc h6<|pn)
  ·obtain⟨r27,h26,h⟩:=bo h
   rcases r27 with _|_
   ·obtain rfl:=oi h;exact rf Tryz.func77 none [.f, .b r4, .f, .sum [1,2,4,5] [0] .ret [(4, .y false)] []] (pc h3<|pc (Z7T h5)<|pc h6<|pc (ZaQ _ _ h26)<|pn)
   ·obtain rfl:=oi h;exact rf Tryz.func77 none [.f, .b r4, .f, .sum [1,2,4,5] [0] (.exit 0) [(4, .y false)] []] (pc h3<|pc (Z7T h5)<|pc h6<|pc (ZaQ _ _ h26)<|pn)

theorem Zfu {a1:List Int} {a2:Int} :Zx Tryz.prog UU 0 24 (Zs (Zt Tryz.f205) [1,1,0,1,0,0]) (fun s:(List Int)×Int=>match s with|(l3,v4)=>Qw a1 a2 l3 v4)
  (fun s:(List Int)×Int=>(match s with|(l3,v4)=> [(0, .sl 3 a1),(1, .j a2),(4, .os 0 0),(5, .os 1 l3.length),(6, .j v4)]:Fr DD)) (fun s:(List Int)×Int=>(match s with|(l3,v4)=> [.n 3, .w 3 l3]:Z3 DD)) (fun r=>match r with|l12=> .exit 0) (fun r=>match r with|l12=> [(4, .os 0 0),(5, .os 1 l12.length)]) (fun r=>match r with|l12=> [.n 3, .w 3 l12]):=by
 refine Zy (fun s q h=> ?_) (fun r=> ?_)
 ·obtain⟨l3,v4⟩:=s;replace h:Qw a1 a2 l3 v4=some q:=h
  unfold Qw at h
  obtain⟨h5,h⟩|⟨h5,h⟩:=Z1 h
  ·obtain⟨x6,h7,h⟩:=bo h
   obtain⟨h8,h⟩|⟨h8,h⟩:=Z1 h
   ·obtain⟨h9,h⟩|⟨h9,h⟩:=Z1 h
    ·obtain rfl:=oi h;exact rl [0,1,4,5,6] [0,1] [.t, .row (c3 x6), .t, .obj [] (.w 3 [v4]), .obj [] (.w 3 (l3++ [v4]))] (pc h5<|pc (ob3 h7)<|pc h8<|pc (Yk 3 [v4])<|pc (YR 3 (n:=l3.length) (l:=l3) (xs:= [v4]) h9)<|pc (rn (List.length [v4]))<|pn)
    ·cases h
   ·obtain rfl:=oi h;exact rl [0,1,4,5,6] [0,1] [.t, .row (c3 x6), .f] (pc h5<|pc (ob3 h7)<|pc h8<|pn)
  ·obtain rfl:=oi h;exact rl [4,5] [0,1] [.f] (pc h5<|pn)
 ·exact Ex.noConfusion

theorem ZaR {a1:List Int} {a2:Int} {r:((List Int))} (h:Z3j a1 a2=some r):
  Z7 Tryz.prog UU 205 [.sl 3 a1, .j a2] [] ((fun r=>match r with|l15=> .os 0 l15.length) r) ((fun r=>match r with|l15=> [.w 3 l15]) r):=by
 unfold Z3j at h
 obtain⟨l12,h13,h⟩:=bo h
 obtain rfl:=oi h;exact rf Tryz.func205 (some [1]) [.sum [0,1,4,5,6] [0,1] (.exit 0) [(4, .os 0 0),(5, .os 1 l12.length)] [.n 3, .w 3 l12]] (pc (Zfu _ _ h13)<|pn)

theorem Zfv {a1:Z2} {x6:ZF} :Zx Tryz.prog UU 0 50 (Zs (Zt Tryz.f158) [1,1,1,1,0,1,0,0]) (fun s:(List Int)×Int=>match s with|(l8,v9)=>Z1e a1 x6 l8 v9)
  (fun s:(List Int)×Int=>(match s with|(l8,v9)=> [(2, .o 0),(4, .os 1 0),(5, .os 2 l8.length),(6, .o 3),(7, .j v9)]:Fr DD)) (fun s:(List Int)×Int=>(match s with|(l8,v9)=> [.box 31 (c31 a1) false, .n 3, .w 3 l8, .box 90 (c90 x6) false]:Z3 DD)) (fun r=>match r with|l22=> .exit 0) (fun r=>match r with|l22=> [(4, .os 0 0),(5, .os 1 l22.length)]) (fun r=>match r with|l22=> [.n 3, .w 3 l22]):=by
 refine Zy (fun s q h=> ?_) (fun r=> ?_)
 ·obtain⟨l8,v9⟩:=s;replace h:Z1e a1 x6 l8 v9=some q:=h
  unfold Z1e at h
  obtain⟨h10,h⟩|⟨h10,h⟩:=Z1 h
  ·obtain⟨x11,h12,h⟩:=bo h
   obtain⟨h13,h⟩|⟨h13,h⟩:=Z1 h
   ·obtain⟨x14,h15,h⟩:=bo h
    obtain⟨r16,h17,h⟩:=bo h
    obtain⟨h18,h⟩|⟨h18,h⟩:=Z1 h
    ·obtain⟨h19,h⟩|⟨h19,h⟩:=Z1 h
     ·obtain rfl:=oi h;exact rl [2,4,5,6,7] [0,1,2,3] [.t, .row (Za x11), .t, .row (Za x14), .b r16, .t, .obj [] (.w 3 [v9]), .obj [] (.w 3 (l8++ [v9]))] (pc h10<|pc (ZA h12)<|pc h13<|pc (ZA h15)<|pc (Z5I h17)<|pc h18<|pc (Yk 3 [v9])<|pc (YR 3 (n:=l8.length) (l:=l8) (xs:= [v9]) h19)<|pc (rn (List.length [v9]))<|pn)
     ·cases h
    ·obtain rfl:=oi h;exact rl [2,4,5,6,7] [0,1,2,3] [.t, .row (Za x11), .t, .row (Za x14), .b r16, .f] (pc h10<|pc (ZA h12)<|pc h13<|pc (ZA h15)<|pc (Z5I h17)<|pc h18<|pn)
   ·obtain rfl:=oi h;exact rl [2,4,5,6,7] [0,1,2,3] [.t, .row (Za x11), .f] (pc h10<|pc (ZA h12)<|pc h13<|pn)
  ·obtain rfl:=oi h;exact rl [4,5] [1,2] [.f] (pc h10<|pn)
 ·exact Ex.noConfusion

theorem Z1B {a1:Z2} {a2:Int} {r:((List Int))} (h:UX a1 a2=some r):
  Z7 Tryz.prog UU 158 [.agg (c31 a1), .j a2] [] ((fun r=>match r with|l25=> .os 0 l25.length) r) ((fun r=>match r with|l25=> [.w 3 l25]) r):=by
 unfold UX at h
 obtain⟨r3,h4,h⟩:=bo h
 obtain⟨h5,h⟩|⟨h5,h⟩:=Z1 h
 ·obtain rfl:=oi h;exact rf Tryz.func158 (some [3]) [.b r3, .t] (pc (ZB h4)<|pc h5<|pn)
 ·obtain⟨x6,h7,h⟩:=bo h
  obtain⟨l22,h23,h⟩:=bo h
  obtain rfl:=oi h;exact rf Tryz.func158 (some [1]) [.b r3, .f, .row (c90 x6), .sum [2,4,5,6,7] [0,1,2,4] (.exit 0) [(4, .os 0 0),(5, .os 1 l22.length)] [.n 3, .w 3 l22]] (pc (ZB h4)<|pc h5<|pc (ZI h7)<|pc (Zfv _ _ h23)<|pn)

end Go.Eng
