/- Part of the proof of MatrixTells: printed mirrors of the functions, or their contracts. No conditions. -/
import Derived.Test.YtcclngfmkodgjaaGreatMAK2
set_option linter.unusedVariables false
set_option maxRecDepth 100000
namespace Go.Eng
open Go Go.Proofs
theorem ZeY {a1:Z2} {a2:List Int} {l5:List Z9} {n6:Nat} {v11:Int} {x14:Z9} {l18:List Int} :Zx Tryz.prog UU 0 59 (Zs (Zt Tryz.f72) [1,1,1,1,0,1,0,0,1,1,0,0,1,1,0,0]) (fun s:(List Int)×Int=>match s with|(l19,v20)=>Uc a1 a2 l5 n6 v11 x14 l18 l19 v20)
  (fun s:(List Int)×Int=>(match s with|(l19,v20)=> [(1, .sl 3 a2),(2, .o 0),(4, .os 1 0),(5, .y false),(8, .os 2 (Int.toNat (a1.ports.length:Int))),(10, .o 3),(25, .os 4 n6),(26, .j (n6:Int)),(27, .j v11),(34, .os 5 l18.length),(35, .j (l18.length:Int)),(36, .j v20)]:Fr DD)) (fun s:(List Int)×Int=>(match s with|(l19,v20)=> [.box 31 (c31 a1) false, .n 3, .arr 3 l19 (Int.toNat (a1.ports.length:Int)) false, .box 214 (XD x14) false, .arr 214 l5 n6 false, .w 3 l18]:Z3 DD)) (fun r=>match r with|l41=> .exit 2) (fun r=>match r with|l41=> [(1, .sl 3 a2),(2, .o 0),(4, .os 1 0),(5, .y false),(8, .os 2 (Int.toNat (a1.ports.length:Int))),(25, .os 3 n6),(26, .j (n6:Int)),(27, .j v11)]) (fun r=>match r with|l41=> [.box 31 (c31 a1) false, .n 3, .arr 3 l41 (Int.toNat (a1.ports.length:Int)) false, .arr 214 l5 n6 false]):=by
 refine Zy (fun s q h=> ?_) (fun r=> ?_)
 ·obtain⟨l19,v20⟩:=s;replace h:Uc a1 a2 l5 n6 v11 x14 l18 l19 v20=some q:=h
  unfold Uc at h
  obtain⟨h21,h⟩|⟨h21,h⟩:=Z1 h
  ·obtain⟨h22,h⟩|⟨h22,h⟩:=Z1 h
   ·obtain⟨x23,h24,h⟩:=bo h
    obtain⟨x25,h26,h⟩:=bo h
    obtain⟨h27,h⟩|⟨h27,h⟩:=Z1 h
    ·obtain⟨h28,h⟩|⟨h28,h⟩:=Z1 h
     ·obtain⟨x29,h30,h⟩:=bo h
      obtain⟨x31,h32,h⟩:=bo h
      obtain rfl:=oi h;exact rl [1,2,4,5,8,10,25,26,27,34,35,36] [0,1,2,3,4,5] [.t, .row (c3 x23), .row (c3 x25), .t, .row (c3 x29), .row (c3 x31), .obj [] (.arr 3 (List.set l19 x23.toNat (Y2 .i64 x29 (Y2 .i64 x14.plain x14.led):Int)) (Int.toNat (a1.ports.length:Int)) false)] (pc h21<|pc (an l18.length (Zz h22))<|pc (an l18.length (YV h24))<|pc (ob3 h26)<|pc h27<|pc (an (Int.toNat (a1.ports.length:Int)) (Zz h28))<|pc (an (Int.toNat (a1.ports.length:Int)) (YV h30))<|pc (an (Int.toNat (a1.ports.length:Int)) (Zz h28))<|pc (XR (e:=3) (n:=(Int.toNat (a1.ports.length:Int))) (l:=l19) (i:=x23.toNat) (Y2 .i64 x29 (Y2 .i64 x14.plain x14.led):Int) [.j (Y2 .i64 x29 (Y2 .i64 x14.plain x14.led))] (YV h32) rfl)<|pn)
     ·cases h
    ·obtain rfl:=oi h;exact rl [1,2,4,5,8,10,25,26,27,34,35,36] [0,1,2,3,4,5] [.t, .row (c3 x23), .row (c3 x25), .f] (pc h21<|pc (an l18.length (Zz h22))<|pc (an l18.length (YV h24))<|pc (ob3 h26)<|pc h27<|pn)
   ·cases h
  ·obtain rfl:=oi h;exact rl [1,2,4,5,8,25,26,27] [0,1,2,4] [.f] (pc h21<|pn)
 ·exact Ex.noConfusion

theorem ZeZ {a1:Z2} {a2:List Int} {l5:List Z9} {n6:Nat} :Zx Tryz.prog UU 0 59 (Zs (Zt Tryz.f72) [1,1,1,1,0,1,0,0]) (fun s:(List Int)×Int=>match s with|(l10,v11)=>Qh a1 a2 l5 n6 l10 v11)
  (fun s:(List Int)×Int=>(match s with|(l10,v11)=> [(1, .sl 3 a2),(2, .o 0),(4, .os 1 0),(5, .y false),(8, .os 2 (Int.toNat (a1.ports.length:Int))),(25, .os 3 n6),(26, .j (n6:Int)),(27, .j v11)]:Fr DD)) (fun s:(List Int)×Int=>(match s with|(l10,v11)=> [.box 31 (c31 a1) false, .n 3, .arr 3 l10 (Int.toNat (a1.ports.length:Int)) false, .arr 214 l5 n6 false]:Z3 DD)) (fun r=>match r with|l47=> .exit 0) (fun r=>match r with|l47=> [(4, .os 0 0),(5, .y false),(8, .os 1 (Int.toNat (a1.ports.length:Int)))]) (fun r=>match r with|l47=> [.n 3, .arr 3 l47 (Int.toNat (a1.ports.length:Int)) false]):=by
 refine Zy (fun s q h=> ?_) (fun r=> ?_)
 ·obtain⟨l10,v11⟩:=s;replace h:Qh a1 a2 l5 n6 l10 v11=some q:=h
  unfold Qh at h
  obtain⟨h12,h⟩|⟨h12,h⟩:=Z1 h
  ·obtain⟨h13,h⟩|⟨h13,h⟩:=Z1 h
   ·obtain⟨x14,h15,h⟩:=bo h
    obtain⟨l18,h17,h⟩:=bo h
    obtain⟨l41,h42,h⟩:=bo h
    obtain rfl:=oi h;exact rl [1,2,4,5,8,25,26,27] [0,1,2,3] [.t, .row (XD x14), .callo (.os 0 l18.length) [.w 3 l18], .sum [1,2,4,5,8,10,25,26,27,34,35,36] [0,1,2,4,3,5] (.exit 2) [(1, .sl 3 a2),(2, .o 0),(4, .os 1 0),(5, .y false),(8, .os 2 (Int.toNat (a1.ports.length:Int))),(25, .os 3 n6),(26, .j (n6:Int)),(27, .j v11)] [.box 31 (c31 a1) false, .n 3, .arr 3 l41 (Int.toNat (a1.ports.length:Int)) false, .arr 214 l5 n6 false]] (pc h12<|pc (an n6 (Zz h13))<|pc (an n6 (V3 h15))<|pc (Z7G h17)<|pc (im3 l18)<|pc (rn l18.length)<|pc (ZeY _ _ h42)<|pn)
   ·cases h
  ·obtain rfl:=oi h;exact rl [4,5,8] [1,2] [.f] (pc h12<|pn)
 ·exact Ex.noConfusion

theorem Zf0 {a1:Z2} {a2:List Int} {r:((List Int)×Nat×Bool)} (h:Z0Z a1 a2=some r):
  Z7 Tryz.prog UU 72 [.agg (c31 a1), .sl 3 a2] [] ((fun r=>match r with|(l50,n51,v52)=> .tup [.os 0 n51, .y v52]) r) ((fun r=>match r with|(l50,n51,v52)=> [.arr 3 l50 n51 false]) r):=by
 unfold Z0Z at h
 obtain⟨r3,h4,h⟩:=bo h
 obtain⟨l5,n6,v7⟩:=r3
 obtain⟨h8,h⟩|⟨h8,h⟩:=Z1 h
 ·obtain rfl:=oi h;exact rf Tryz.func72 (some [3]) [.callo (.tup [.os 0 n6, .y v7]) [.arr 214 l5 n6 false], .t] (pc (To h4)<|pc (Th l5)<|pc h8<|pn)
 ·obtain⟨h9,h⟩|⟨h9,h⟩:=Z1 h
  ·obtain⟨l47,h48,h⟩:=bo h
   obtain rfl:=oi h;exact rf Tryz.func72 (some [1]) [.callo (.tup [.os 0 n6, .y v7]) [.arr 214 l5 n6 false], .f, .obj [] (.arr 3 (List.replicate (Int.toNat (a1.ports.length:Int)) (0:Int)) (Int.toNat (a1.ports.length:Int)) false), .sum [1,2,4,5,8,25,26,27] [0,1,3,2] (.exit 0) [(4, .os 0 0),(5, .y false),(8, .os 1 (Int.toNat (a1.ports.length:Int)))] [.n 3, .arr 3 l47 (Int.toNat (a1.ports.length:Int)) false]] (pc (To h4)<|pc (Th l5)<|pc h8<|pc (Tk 3 (0:Int) h9)<|pc (rn (Int.toNat (a1.ports.length:Int)))<|pc (rn n6)<|pc (ZeZ _ _ h48)<|pn)
  ·cases h

theorem Z7L {r:Z6} (h:Z33=some r):
  Z7 Tryz.prog UU 74 [] [] (.agg (c79 r)) []:=by
 unfold Z33 at h
 obtain rfl:=oi h;exact rf Tryz.func74 none [] (pn)

theorem Zf1 {a1:Int} {a2:Int} {r:Int×Int} (h:Z7k a1 a2=some r):
  Z7 Tryz.prog UU 204 [.v (.int .u64 a1), .v (.int .u64 a2)] [] (.tup [.v (.int .u64 r.1), .v (.int .u64 r.2)]) []:=by
 unfold Z7k at h
 obtain rfl:=oi h;exact rf Tryz.func204 none [] (pd (show(0:Int)≤32 from by decide)<|pd (show(0:Int)≤32 from by decide)<|pc (show(0:Int)≤32 from by decide)<|pn)

theorem Zf2 {a1:Int} {a2:Int} {r:Int×Int} (h:Z7l a1 a2=some r):
  Z7 Tryz.prog UU 155 [.v (.int .u64 a1), .v (.int .u64 a2)] [] (.tup [.v (.int .u64 r.1), .v (.int .u64 r.2)]) []:=by
 unfold Z7l at h
 obtain⟨r3,h4,h⟩:=bo h
 obtain rfl:=oi h;exact rf Tryz.func155 none [.callv (.tup [.v (.int .u64 r3.1), .v (.int .u64 r3.2)])] (pc (Zf1 h4)<|pn)

theorem Zf3 {r4:Int×Int} :Zx Tryz.prog UU 0 48 (Zs (Zt Tryz.f73) [1,1,1,1,1,1,0,0,0]) (fun s:(List Z6)×Int=>match s with|(l9,v10)=>Z5f r4 l9 v10)
  (fun s:(List Z6)×Int=>(match s with|(l9,v10)=> [(4, .os 0 0),(7, .os 1 (Int.toNat (Z4 r4.2))),(8, .j v10)]:Fr DD)) (fun s:(List Z6)×Int=>(match s with|(l9,v10)=> [.n 79, .arr 79 l9 (Int.toNat (Z4 r4.2)) false]:Z3 DD)) (fun r=>match r with|l16=> .exit 0) (fun r=>match r with|l16=> [(4, .os 0 0),(7, .os 1 (Int.toNat (Z4 r4.2)))]) (fun r=>match r with|l16=> [.n 79, .arr 79 l16 (Int.toNat (Z4 r4.2)) false]):=by
 refine Zy (fun s q h=> ?_) (fun r=> ?_)
 ·obtain⟨l9,v10⟩:=s;replace h:Z5f r4 l9 v10=some q:=h
  unfold Z5f at h
  obtain⟨h11,h⟩|⟨h11,h⟩:=Z1 h
  ·obtain⟨h12,h⟩|⟨h12,h⟩:=Z1 h
   ·obtain⟨h13,h⟩|⟨h13,h⟩:=Z1 h
    ·obtain rfl:=oi h;exact rl [4,7,8] [0,1] [.t, .sum [7] [] .nor [] [.n 79, .arr 79 (List.take v10.toNat l9++(List.take (min (List.length (List.drop (Int.toNat 0) (List.take v10.toNat l9))) ((Int.toNat (l9.length:Int)) -v10.toNat)) (List.drop (Int.toNat 0) (List.take v10.toNat l9))++List.drop (v10.toNat+(min (List.length (List.drop (Int.toNat 0) (List.take v10.toNat l9))) ((Int.toNat (l9.length:Int)) -v10.toNat))) l9)) (Int.toNat (Z4 r4.2)) false], .obj [] (.arr 79 (List.take v10.toNat l9++(List.take (min (List.length (List.drop (Int.toNat 0) (List.take v10.toNat l9))) ((Int.toNat (l9.length:Int)) -v10.toNat)) (List.drop (Int.toNat 0) (List.take v10.toNat l9))++List.drop (v10.toNat+(min (List.length (List.drop (Int.toNat 0) (List.take v10.toNat l9))) ((Int.toNat (l9.length:Int)) -v10.toNat))) l9)) (Int.toNat (Z4 r4.2)) false)] (pc (rn (Int.toNat (Z4 r4.2)))<|pc h11<|pc (rr (.j v10))<|pc (rn (Int.toNat (Z4 r4.2)))<|pc (Z4T h12)<|pc (rn (Int.toNat (Z4 r4.2)))<|pc (Z4T h13)<|pc (rh [.n 79, .arr 79 (List.take v10.toNat l9++(List.take (min (List.length (List.drop (Int.toNat 0) (List.take v10.toNat l9))) ((Int.toNat (l9.length:Int)) -v10.toNat)) (List.drop (Int.toNat 0) (List.take v10.toNat l9))++List.drop (v10.toNat+(min (List.length (List.drop (Int.toNat 0) (List.take v10.toNat l9))) ((Int.toNat (l9.length:Int)) -v10.toNat))) l9)) (Int.toNat (Z4 r4.2)) false])<|pc (Z9H (e:=79) (n:=(Int.toNat (Z4 r4.2))) (l:=l9) (l2:=List.drop (Int.toNat 0) (List.take v10.toNat l9)) (a:=v10.toNat) (b:=(Int.toNat (l9.length:Int))))<|pc (rn (Int.toNat (Z4 r4.2)))<|pn)
    ·cases h
   ·cases h
  ·obtain rfl:=oi h;exact rl [4,7] [0,1] [.f] (pc (rn (Int.toNat (Z4 r4.2)))<|pc h11<|pn)
 ·exact Ex.noConfusion

theorem Zf4 {a1:List Z6} {a2:Int} {r:((List Z6)×Nat)} (h:Wp a1 a2=some r):
  Z7 Tryz.prog UU 73 [.sl 79 a1, .j a2] [] ((fun r=>match r with|(l19,n20)=> .os 0 n20) r) ((fun r=>match r with|(l19,n20)=> [.arr 79 l19 n20 false]) r):=by
 unfold Wp at h
 obtain⟨h3,h⟩|⟨h3,h⟩:=Z1 h
 ·cases h
 ·obtain⟨r4,h5,h⟩:=bo h
  obtain⟨h6,h⟩|⟨h6,h⟩:=Z1 h
  ·cases h
  ·obtain⟨h7,h⟩|⟨h7,h⟩:=Z1 h
   ·cases h
   ·obtain⟨h8,h⟩|⟨h8,h⟩:=Z1 h
    ·obtain⟨l16,h17,h⟩:=bo h
     obtain rfl:=oi h;exact rf Tryz.func73 (some [1]) [.f, .callv (.tup [.v (.int .u64 r4.1), .v (.int .u64 r4.2)]), .f, .f, .obj [] (.arr 79 (List.replicate (Int.toNat (Z4 r4.2)) (⟨0,0,0⟩:Z6)) (Int.toNat (Z4 r4.2)) false), .obj [] (.arr 79 (List.take 0 (List.replicate (Int.toNat (Z4 r4.2)) (⟨0,0,0⟩:Z6))++(List.take (min a1.length ((List.length (List.replicate (Int.toNat (Z4 r4.2)) (⟨0,0,0⟩:Z6))) -0)) a1++List.drop (0+(min a1.length ((List.length (List.replicate (Int.toNat (Z4 r4.2)) (⟨0,0,0⟩:Z6))) -0))) (List.replicate (Int.toNat (Z4 r4.2)) (⟨0,0,0⟩:Z6)))) (Int.toNat (Z4 r4.2)) false), .sum [4,7,8] [0,1] (.exit 0) [(4, .os 0 0),(7, .os 1 (Int.toNat (Z4 r4.2)))] [.n 79, .arr 79 l16 (Int.toNat (Z4 r4.2)) false]] (pc h3<|pc (Zf2 h5)<|pc h6<|pc h7<|pc (Tk 79 (⟨0,0,0⟩:Z6) h8)<|pc (rn (Int.toNat (Z4 r4.2)))<|pc (Z9H (e:=79) (n:=(Int.toNat (Z4 r4.2))) (l:=List.replicate (Int.toNat (Z4 r4.2)) (⟨0,0,0⟩:Z6)) (l2:=a1) (a:=0) (b:=(List.length (List.replicate (Int.toNat (Z4 r4.2)) (⟨0,0,0⟩:Z6)))))<|pc (Zf3 _ _ h17)<|pn)
    ·cases h

theorem VR {a1:Int} {a2:Int} {r:Bool} (h:UO a1 a2=some r):
  Z7 Tryz.prog UU 156 [.j a1, .j a2] [] (.y r) []:=by
 unfold UO at h
 obtain⟨h3,h⟩|⟨h3,h⟩:=Z1 h
 ·obtain⟨h4,h⟩|⟨h4,h⟩:=Z1 h
  ·obtain⟨h5,h⟩|⟨h5,h⟩:=Z1 h
   ·obtain rfl:=oi h;exact rf Tryz.func156 none [.t, .t] (pc h3<|pc h4<|pc (of_decide_eq_true h5)<|pn)
   ·cases h
  ·obtain rfl:=oi h;exact rf Tryz.func156 none [.t, .f] (pc h3<|pc h4<|pn)
 ·obtain rfl:=oi h;exact rf Tryz.func156 none [.f] (pc h3<|pn)

theorem Zf5 {a1:Int} :Zx Tryz.prog UU 0 17 (Zs (Zt Tryz.f75) [1,1,0,1,0,0]) (fun s:(List Int)×Int=>match s with|(l2,v3)=>UP a1 l2 v3)
  (fun s:(List Int)×Int=>(match s with|(l2,v3)=> [(0, .j a1),(2, .os 0 0),(3, .os 1 l2.length),(5, .j v3)]:Fr DD)) (fun s:(List Int)×Int=>(match s with|(l2,v3)=> [.n 3, .w 3 l2]:Z3 DD)) (fun r=>match r with|l11=> .exit 0) (fun r=>match r with|l11=> [(2, .os 0 0),(3, .os 1 l11.length)]) (fun r=>match r with|l11=> [.n 3, .w 3 l11]):=by
 refine Zy (fun s q h=> ?_) (fun r=> ?_)
 ·obtain⟨l2,v3⟩:=s;replace h:UP a1 l2 v3=some q:=h
  unfold UP at h
  obtain⟨h4,h⟩|⟨h4,h⟩:=Z1 h
  ·obtain⟨r5,h6,h⟩:=bo h
   obtain⟨h7,h⟩|⟨h7,h⟩:=Z1 h
   ·obtain⟨h8,h⟩|⟨h8,h⟩:=Z1 h
    ·obtain rfl:=oi h;exact rl [0,2,3,5] [0,1] [.t, .b r5, .t, .obj [] (.w 3 [v3]), .obj [] (.w 3 (l2++ [v3]))] (pc h4<|pc (VR h6)<|pc h7<|pc (Yk 3 [v3])<|pc (YR 3 (n:=l2.length) (l:=l2) (xs:= [v3]) h8)<|pc (rn (List.length [v3]))<|pn)
    ·cases h
   ·obtain rfl:=oi h;exact rl [0,2,3,5] [0,1] [.t, .b r5, .f] (pc h4<|pc (VR h6)<|pc h7<|pn)
  ·obtain rfl:=oi h;exact rl [2,3] [0,1] [.f] (pc h4<|pn)
 ·exact Ex.noConfusion

theorem Zf6 {a1:Int} {r:((List Int))} (h:Z34 a1=some r):
  Z7 Tryz.prog UU 75 [.j a1] [] ((fun r=>match r with|l14=> .os 0 l14.length) r) ((fun r=>match r with|l14=> [.w 3 l14]) r):=by
 unfold Z34 at h
 obtain⟨l11,h12,h⟩:=bo h
 obtain rfl:=oi h;exact rf Tryz.func75 (some [1]) [.sum [0,2,3,5] [0,1] (.exit 0) [(2, .os 0 0),(3, .os 1 l11.length)] [.n 3, .w 3 l11]] (pc (Zf5 _ _ h12)<|pn)

theorem Zf7 {a2:List Int} {a3:Int} {l9:List Int} {n10:Nat} :Zx Tryz.prog UU 0 93 (Zs (Zt Tryz.f24) [1,1,1,1,0,1,0,0]) (fun s:(List (List Z6))×(List Bool)×Int=>match s with|(l13,p14,v15)=>UQ a2 a3 l9 n10 l13 p14 v15)
  (fun s:(List (List Z6))×(List Bool)×Int=>(match s with|(l13,p14,v15)=> [(1, .sl 3 a2),(2, .j a3),(6, .os 0 0),(7, .y false),(8, .os 1 n10),(10, .os 2 a3.toNat),(31, .j (a3.toNat:Int)),(32, .j v15)]:Fr DD)) (fun s:(List (List Z6))×(List Bool)×Int=>(match s with|(l13,p14,v15)=> [.n 70, .arr 3 l9 n10 false, .dp 70 l13 p14 none a3.toNat]:Z3 DD)) (fun r=>match r with|(l37,p38)=> .exit 0) (fun r=>match r with|(l37,p38)=> [(1, .sl 3 a2),(6, .os 0 0),(7, .y false),(8, .os 1 n10),(10, .os 2 a3.toNat)]) (fun r=>match r with|(l37,p38)=> [.n 70, .arr 3 l9 n10 false, .dp 70 l37 p38 none a3.toNat]):=by
 refine Zy (fun s q h=> ?_) (fun r=> ?_)
 ·obtain⟨l13,p14,v15⟩:=s;replace h:UQ a2 a3 l9 n10 l13 p14 v15=some q:=h
  unfold UQ at h
  obtain⟨h16,h⟩|⟨h16,h⟩:=Z1 h
  ·obtain⟨x17,h18,h⟩:=bo h
   obtain⟨h19,h⟩|⟨h19,h⟩:=Z1 h
   ·obtain⟨r20,h21,h⟩:=bo h
    obtain⟨r22,h23,h⟩:=bo h
    obtain⟨l24,n25⟩:=r22
    obtain⟨h26,h⟩|⟨h26,h⟩:=Z1 h
    ·obtain rfl:=oi h;exact rl [1,2,6,7,8,10,31,32] [0,1,2] [.t, .gop 2 v15.toNat false (c70 x17), .callv (.agg (c79 r20)), .obj [] (.w 79 [r20]), .callo (.os 0 n25) [.arr 79 l24 n25 false], .gcl 2 true (.dp 70 (List.set l13 v15.toNat l24) (List.set p14 v15.toNat true) none a3.toNat)] (pc h16<|pc (And.intro (Z7x h18) (Z70 h19))<|pc (Z7L h21)<|pc (Yk 79 [r20])<|pc (Zf4 h23)<|pc (Zec l24)<|pc (rn (List.length [r20]))<|pc (an a3.toNat (Zz h26))<|pc (an a3.toNat (rn v15.toNat))<|pc (Z7z (e:=70) (n:=a3.toNat) (l:=l13) (pm:=p14) (i:=v15.toNat) l24 [.sl 79 l24] rfl)<|pc (rn n25)<|pn)
    ·cases h
   ·cases h
  ·obtain rfl:=oi h;exact rl [1,6,7,8,10] [0,1,2] [.f] (pc h16<|pn)
 ·exact Ex.noConfusion

theorem Zf8 {a2:List Int} {a3:Int} {l9:List Int} {n10:Nat} {v43:Int} {x45:Int} {l53:List Int} :Zx Tryz.prog UU 0 93 (Zs (Zt Tryz.f24) [1,1,1,1,1,0,1,0,0,1,1,0,0,1,1,1,0,0]) (fun s:(List (List Z6))×(List Bool)×Int=>match s with|(l54,p55,v56)=>UR a2 a3 l9 n10 v43 x45 l53 l54 p55 v56)
  (fun s:(List (List Z6))×(List Bool)×Int=>(match s with|(l54,p55,v56)=> [(1, .sl 3 a2),(6, .os 0 0),(7, .y false),(8, .os 1 n10),(10, .os 2 a3.toNat),(12, .j v43),(13, .j x45),(43, .sl 3 a2),(44, .j (a2.length:Int)),(45, .j v43),(56, .os 3 l53.length),(57, .j (l53.length:Int)),(58, .j v56)]:Fr DD)) (fun s:(List (List Z6))×(List Bool)×Int=>(match s with|(l54,p55,v56)=> [.n 70, .arr 3 l9 n10 false, .dp 70 l54 p55 none a3.toNat, .w 3 l53]:Z3 DD)) (fun r=>match r with|(l101,p102)=> .exit 4) (fun r=>match r with|(l101,p102)=> [(1, .sl 3 a2),(6, .os 0 0),(7, .y false),(8, .os 1 n10),(10, .os 2 a3.toNat),(43, .sl 3 a2),(44, .j (a2.length:Int)),(45, .j v43)]) (fun r=>match r with|(l101,p102)=> [.n 70, .arr 3 l9 n10 false, .dp 70 l101 p102 none a3.toNat]):=by
 refine Zy (fun s q h=> ?_) (fun r=> ?_)
 ·obtain⟨l54,p55,v56⟩:=s;replace h:UR a2 a3 l9 n10 v43 x45 l53 l54 p55 v56=some q:=h
  unfold UR at h
  obtain⟨h57,h⟩|⟨h57,h⟩:=Z1 h
  ·obtain⟨h58,h⟩|⟨h58,h⟩:=Z1 h
   ·obtain⟨x59,h60,h⟩:=bo h
    obtain⟨x61,h62,h⟩:=bo h
    obtain⟨h63,h⟩|⟨h63,h⟩:=Z1 h
    ·obtain⟨h64,h⟩|⟨h64,h⟩:=Z1 h
     ·obtain⟨h65,h⟩|⟨h65,h⟩:=Z1 h
      ·obtain⟨x66,h67,h⟩:=bo h
       obtain⟨r68,h69,h⟩:=bo h
       obtain⟨h70,h⟩|⟨h70,h⟩:=Z1 h
       ·obtain⟨r71,h72,h⟩:=bo h
        obtain⟨x73,h74,h⟩:=bo h
        obtain⟨x75,h76,h⟩:=bo h
        obtain⟨x77,h78,h⟩:=bo h
        obtain⟨x79,h80,h⟩:=bo h
        obtain rfl:=oi h;exact rl [1,6,7,8,10,12,13,43,44,45,56,57,58] [0,1,2,3] [.t, .row (c3 x59), .gop 2 x59.toNat true (c70 x61), .row (c79 x66), .callv (.agg (c79 r68)), .t, .callv (.j r71), .row (c79 x73), .obj [] (.arr 79 (List.set x61 x45.toNat (⟨x73.ports,r71,x73.to⟩:Z6)) x61.length false), .row (c79 x75), .obj [] (.arr 79 (List.set (List.set x61 x45.toNat (⟨x73.ports,r71,x73.to⟩:Z6)) x45.toNat (⟨x75.ports,x75.from_,v43⟩:Z6)) x61.length false), .row (c79 x77), .row (c79 x79), .obj [] (.arr 79 (List.set (List.set (List.set x61 x45.toNat (⟨x73.ports,r71,x73.to⟩:Z6)) x45.toNat (⟨x75.ports,x75.from_,v43⟩:Z6)) x45.toNat (⟨Z4 (x77.ports+1),x79.from_,x79.to⟩:Z6)) x61.length false), .gcl 2 true (.dp 70 (List.set l54 x59.toNat (List.set (List.set (List.set x61 x45.toNat (⟨x73.ports,r71,x73.to⟩:Z6)) x45.toNat (⟨x75.ports,x75.from_,v43⟩:Z6)) x45.toNat (⟨Z4 (x77.ports+1),x79.from_,x79.to⟩:Z6))) (List.set p55 x59.toNat true) none a3.toNat)] (pc h57<|pc (an l53.length (Zz h58))<|pc (an l53.length (YV h60))<|pc (And.intro (Z7x h62) (Z70 h63))<|pc (an a3.toNat (Zz h64))<|pc (an a3.toNat (rn x59.toNat))<|pc (an x61.length (Zz h65))<|pc (rn x61.length)<|pc (an x61.length (Ti h67))<|pc (Z7L h69)<|pc h70<|pc (Z7C h72)<|pd (rn x61.length)<|pc (XR (e:=79) (n:=x61.length) (l:=x61) (i:=x45.toNat) (⟨x73.ports,r71,x73.to⟩:Z6) [.j x73.ports, .j r71, .j x73.to] (Ti h74) rfl)<|pd (rn x61.length)<|pc (XR (e:=79) (n:=x61.length) (l:=List.set x61 x45.toNat (⟨x73.ports,r71,x73.to⟩:Z6)) (i:=x45.toNat) (⟨x75.ports,x75.from_,v43⟩:Z6) [.j x75.ports, .j x75.from_, .j v43] (Ti h76) rfl)<|pd (rn x61.length)<|pc (an x61.length (Ti h78))<|pd (rn x61.length)<|pc (XR (e:=79) (n:=x61.length) (l:=List.set (List.set x61 x45.toNat (⟨x73.ports,r71,x73.to⟩:Z6)) x45.toNat (⟨x75.ports,x75.from_,v43⟩:Z6)) (i:=x45.toNat) (⟨Z4 (x77.ports+1),x79.from_,x79.to⟩:Z6) [.j (Z4 (x77.ports+1)), .j x79.from_, .j x79.to] (Ti h80) rfl)<|pc (Z7z (e:=70) (n:=a3.toNat) (l:=l54) (pm:=p55) (i:=x59.toNat) (List.set (List.set (List.set x61 x45.toNat (⟨x73.ports,r71,x73.to⟩:Z6)) x45.toNat (⟨x75.ports,x75.from_,v43⟩:Z6)) x45.toNat (⟨Z4 (x77.ports+1),x79.from_,x79.to⟩:Z6)) [.sl 79 (List.set (List.set (List.set x61 x45.toNat (⟨x73.ports,r71,x73.to⟩:Z6)) x45.toNat (⟨x75.ports,x75.from_,v43⟩:Z6)) x45.toNat (⟨Z4 (x77.ports+1),x79.from_,x79.to⟩:Z6))] rfl)<|pc (rn x61.length)<|pn)
       ·obtain⟨x81,h82,h⟩:=bo h
        obtain⟨x83,h84,h⟩:=bo h
        obtain rfl:=oi h;exact rl [1,6,7,8,10,12,13,43,44,45,56,57,58] [0,1,2,3] [.t, .row (c3 x59), .gop 2 x59.toNat true (c70 x61), .row (c79 x66), .callv (.agg (c79 r68)), .f, .row (c79 x81), .row (c79 x83), .obj [] (.arr 79 (List.set x61 x45.toNat (⟨Z4 (x81.ports+1),x83.from_,x83.to⟩:Z6)) x61.length false), .gcl 2 true (.dp 70 (List.set l54 x59.toNat (List.set x61 x45.toNat (⟨Z4 (x81.ports+1),x83.from_,x83.to⟩:Z6))) (List.set p55 x59.toNat true) none a3.toNat)] (pc h57<|pc (an l53.length (Zz h58))<|pc (an l53.length (YV h60))<|pc (And.intro (Z7x h62) (Z70 h63))<|pc (an a3.toNat (Zz h64))<|pc (an a3.toNat (rn x59.toNat))<|pc (an x61.length (Zz h65))<|pc (rn x61.length)<|pc (an x61.length (Ti h67))<|pc (Z7L h69)<|pc h70<|pd (rn x61.length)<|pc (an x61.length (Ti h82))<|pd (rn x61.length)<|pc (XR (e:=79) (n:=x61.length) (l:=x61) (i:=x45.toNat) (⟨Z4 (x81.ports+1),x83.from_,x83.to⟩:Z6) [.j (Z4 (x81.ports+1)), .j x83.from_, .j x83.to] (Ti h84) rfl)<|pc (Z7z (e:=70) (n:=a3.toNat) (l:=l54) (pm:=p55) (i:=x59.toNat) (List.set x61 x45.toNat (⟨Z4 (x81.ports+1),x83.from_,x83.to⟩:Z6)) [.sl 79 (List.set x61 x45.toNat (⟨Z4 (x81.ports+1),x83.from_,x83.to⟩:Z6))] rfl)<|pc (rn x61.length)<|pn)
      ·cases h
     ·cases h
    ·cases h
   ·cases h
  ·obtain rfl:=oi h;exact rl [1,6,7,8,10,43,44,45] [0,1,2] [.f] (pc h57<|pn)
 ·exact Ex.noConfusion

theorem Zf9 {a2:List Int} {a3:Int} {l9:List Int} {n10:Nat} :Zx Tryz.prog UU 0 93 (Zs (Zt Tryz.f24) [1,1,1,1,1,0,1,0,0]) (fun s:(List (List Z6))×(List Bool)×Int=>match s with|(l41,p42,v43)=>US a2 a3 l9 n10 l41 p42 v43)
  (fun s:(List (List Z6))×(List Bool)×Int=>(match s with|(l41,p42,v43)=> [(1, .sl 3 a2),(6, .os 0 0),(7, .y false),(8, .os 1 n10),(10, .os 2 a3.toNat),(43, .sl 3 a2),(44, .j (a2.length:Int)),(45, .j v43)]:Fr DD)) (fun s:(List (List Z6))×(List Bool)×Int=>(match s with|(l41,p42,v43)=> [.n 70, .arr 3 l9 n10 false, .dp 70 l41 p42 none a3.toNat]:Z3 DD)) (fun r=>match r with|(l111,p112)=> .exit 2) (fun r=>match r with|(l111,p112)=> [(6, .os 0 0),(7, .y false),(10, .os 1 a3.toNat)]) (fun r=>match r with|(l111,p112)=> [.n 70, .dp 70 l111 p112 none a3.toNat]):=by
 refine Zy (fun s q h=> ?_) (fun r=> ?_)
 ·obtain⟨l41,p42,v43⟩:=s;replace h:US a2 a3 l9 n10 l41 p42 v43=some q:=h
  unfold US at h
  obtain⟨h44,h⟩|⟨h44,h⟩:=Z1 h
  ·obtain⟨x45,h46,h⟩:=bo h
   obtain⟨h47,h⟩|⟨h47,h⟩:=Z1 h
   ·obtain rfl:=oi h;exact rl [1,6,7,8,10,43,44,45] [0,1,2] [.t, .row (c3 x45), .t] (pc h44<|pc (ob3 h46)<|pc h47<|pn)
   ·obtain⟨h48,h⟩|⟨h48,h⟩:=Z1 h
    ·obtain⟨x49,h50,h⟩:=bo h
     obtain⟨l53,h52,h⟩:=bo h
     obtain⟨r104,h103,h⟩:=bo h
     obtain⟨l101,p102⟩:=r104
     obtain rfl:=oi h;exact rl [1,6,7,8,10,43,44,45] [0,1,2] [.t, .row (c3 x45), .f, .row (c3 x49), .callo (.os 0 l53.length) [.w 3 l53], .sum [1,6,7,8,10,12,13,43,44,45,56,57,58] [0,1,2,3] (.exit 4) [(1, .sl 3 a2),(6, .os 0 0),(7, .y false),(8, .os 1 n10),(10, .os 2 a3.toNat),(43, .sl 3 a2),(44, .j (a2.length:Int)),(45, .j v43)] [.n 70, .arr 3 l9 n10 false, .dp 70 l101 p102 none a3.toNat]] (pc h44<|pc (ob3 h46)<|pc h47<|pc (an n10 (Zz h48))<|pc (an n10 (YV h50))<|pc (Zf6 h52)<|pc (im3 l53)<|pc (rn l53.length)<|pc (Zf8 _ _ h103)<|pn)
    ·cases h
  ·obtain rfl:=oi h;exact rl [6,7,10] [0,2] [.f] (pc h44<|pn)
 ·exact Ex.noConfusion

theorem Z1v {a1:Z2} {a2:List Int} {a3:Int} {r:((List (List Z6))×Nat×Bool)} (h:Z10 a1 a2 a3=some r):
  Z7 Tryz.prog UU 24 [.agg (c31 a1), .sl 3 a2, .j a3] [] ((fun r=>match r with|(l115,n116,v117)=> .tup [.os 0 n116, .y v117]) r) ((fun r=>match r with|(l115,n116,v117)=> [.arr 70 l115 n116 false]) r):=by
 unfold Z10 at h
 obtain⟨r4,h5,h⟩:=bo h
 obtain⟨h6,h⟩|⟨h6,h⟩:=Z1 h
 ·obtain rfl:=oi h;exact rf Tryz.func24 (some [2]) [.b r4, .t] (pc (Zaa h5)<|pc h6<|pn)
 ·obtain⟨r7,h8,h⟩:=bo h
  obtain⟨l9,n10,v11⟩:=r7
  obtain⟨h12,h⟩|⟨h12,h⟩:=Z1 h
  ·obtain⟨r40,h39,h⟩:=bo h
   obtain⟨l37,p38⟩:=r40
   obtain⟨r114,h113,h⟩:=bo h
   obtain⟨l111,p112⟩:=r114
   obtain rfl:=oi h;exact rf Tryz.func24 (some [1]) [.b r4, .f, .callo (.tup [.os 0 n10, .y v11]) [.arr 3 l9 n10 false], .obj [] (.arr 70 (List.replicate a3.toNat []) a3.toNat false), .gdp 3, .sum [1,2,6,7,8,10,31,32] [1,2,3] (.exit 0) [(1, .sl 3 a2),(6, .os 0 0),(7, .y false),(8, .os 1 n10),(10, .os 2 a3.toNat)] [.n 70, .arr 3 l9 n10 false, .dp 70 l37 p38 none a3.toNat], .sum [1,6,7,8,10,43,44,45] [0,1,2] (.exit 2) [(6, .os 0 0),(7, .y false),(10, .os 1 a3.toNat)] [.n 70, .dp 70 l111 p112 none a3.toNat], .gfz 1] (pc (Zaa h5)<|pc h6<|pc (Zf0 h8)<|pc (im3 l9)<|pc (Tk 70 [] h12)<|pd (rn a3.toNat)<|pc (Zf7 _ _ h39)<|pc (Zf9 _ _ h113)<|pn)
  ·cases h

theorem Zav {a1:List Z6} {a2:List (List Z6)} {r:Bool} (h:Z7m a1 a2=some r):
  Z7 Tryz.prog UU 91 [.sl 79 a1, .rp (c57 a2) 0] [] (.y r) []:=by
 unfold Z7m at h
 obtain rfl:=oi h;exact rf Tryz.func91 none [] (pn)

theorem Zaw {a1:List (List Z6)} {a2:List (List Z6)} :Zx Tryz.prog UU 0 19 (Zs (Zt Tryz.f170) [1,0,1,0,0]) (ρ:=Int⊕Unit) (Z5g a1 a2)
  (fun v3:Int=>([(0, .sl 70 a1),(1, .fn (.func 91) [] [.rp (c57 a2) 0]),(4, .z),(7, .j (a1.length:Int)),(8, .j v3)]:Fr DD)) (fun v3:Int=>([]:Z3 DD)) (fun r=>match r with|Sum.inl v11=> .ret|Sum.inr _=> .exit 0) (fun r=>match r with|Sum.inl v11=> [(4, .j v11)]|Sum.inr _=> [(4, .z)]) (fun r=>match r with|Sum.inl v11=> []|Sum.inr _=> []):=by
 refine Zy (fun s q h=> ?_) (fun r=> ?_)
 ·replace h:Z5g a1 a2 s=some q:=h;revert h;revert s;intro v3 h
  unfold Z5g at h
  obtain⟨h4,h⟩|⟨h4,h⟩:=Z1 h
  ·obtain⟨x5,h6,h⟩:=bo h
   obtain⟨r7,h8,h⟩:=bo h
   obtain⟨h9,h⟩|⟨h9,h⟩:=Z1 h
   ·obtain rfl:=oi h;exact rl [4] [] [.t, .row (c70 x5), .b r7, .t] (pc h4<|pc (QR h6)<|pc (Zav h8)<|pc h9<|pn)
   ·obtain rfl:=oi h;exact rl [0,1,4,7,8] [] [.t, .row (c70 x5), .b r7, .f] (pc h4<|pc (QR h6)<|pc (Zav h8)<|pc h9<|pn)
  ·obtain rfl:=oi h;exact rl [4] [] [.f] (pc h4<|pn)
 ·rcases r with _|_ <;> exact Ex.noConfusion

theorem Zfa {a1:List (List Z6)} {a2:List (List Z6)} {r:Int} (h:Z7n a1 a2=some r):
  Z7 Tryz.prog UU 170 [.sl 70 a1, .fn (.func 91) [] [.rp (c57 a2) 0]] [] (.j r) []:=by
 unfold Z7n at h
 obtain⟨r13,h12,h⟩:=bo h
 rcases r13 with v11|_
 ·obtain rfl:=oi h;exact rf Tryz.func170 none [.sum [0,1,4,7,8] [] .ret [(4, .j v11)] []] (pc (Zaw _ _ h12)<|pn)
 ·obtain rfl:=oi h;exact rf Tryz.func170 none [.sum [0,1,4,7,8] [] (.exit 0) [(4, .z)] []] (pc (Zaw _ _ h12)<|pn)

theorem Z1w {a1:List (List Z6)} {a2:List (List Z6)} {r:Bool} (h:Z7o a1 a2=some r):
  Z7 Tryz.prog UU 90 [.sl 70 a1, .fn (.func 91) [] [.rp (c57 a2) 0]] [] (.y r) []:=by
 unfold Z7o at h
 obtain⟨r3,h4,h⟩:=bo h
 obtain rfl:=oi h;exact rf Tryz.func90 none [.callv (.j r3)] (pc (Zfa h4)<|pn)

theorem Z7M {a1:ByteArray} :Zx Tryz.prog UU 0 50 (Zs (Zt Tryz.f166) [1,0,1,0,0]) (ρ:=Unit⊕Unit) (Qi a1)
  (fun v2:Int=>([(0, .x a1),(2, .y false),(7, .j (a1.size:Int)),(8, .j v2)]:Fr DD)) (fun v2:Int=>([]:Z3 DD)) (fun r=>match r with|Sum.inl _=> .ret|Sum.inr _=> .exit 0) (fun r=>match r with|Sum.inl _=> [(2, .y false)]|Sum.inr _=> [(0, .x a1),(2, .y false)]) (fun r=>match r with|Sum.inl _=> []|Sum.inr _=> []):=by
 refine Zy (fun s q h=> ?_) (fun r=> ?_)
 ·replace h:Qi a1 s=some q:=h;revert h;revert s;intro v2 h
  unfold Qi at h
  obtain⟨h3,h⟩|⟨h3,h⟩:=Z1 h
  ·obtain⟨h4,h⟩|⟨h4,h⟩:=Z1 h
   ·obtain⟨h5,h⟩|⟨h5,h⟩:=Z1 h
    ·obtain⟨h6,h⟩|⟨h6,h⟩:=Z1 h
     ·obtain⟨h7,h⟩|⟨h7,h⟩:=Z1 h
      ·obtain⟨h8,h⟩|⟨h8,h⟩:=Z1 h
       ·obtain rfl:=oi h;exact rl [2] [] [.t, .t, .t, .t, .t] (pc h3<|pc (of_decide_eq_true h4)<|pc h5<|pd (of_decide_eq_true h4)<|pc h6<|pc (of_decide_eq_true h4)<|pc h7<|pc h8<|pn)
       ·obtain⟨h9,h⟩|⟨h9,h⟩:=Z1 h
        ·obtain rfl:=oi h;exact rl [2] [] [.t, .t, .t, .t, .f, .t] (pc h3<|pc (of_decide_eq_true h4)<|pc h5<|pd (of_decide_eq_true h4)<|pc h6<|pc (of_decide_eq_true h4)<|pc h7<|pc h8<|pc h9<|pn)
        ·obtain rfl:=oi h;exact rl [0,2,7,8] [] [.t, .t, .t, .t, .f, .f] (pc h3<|pc (of_decide_eq_true h4)<|pc h5<|pd (of_decide_eq_true h4)<|pc h6<|pc (of_decide_eq_true h4)<|pc h7<|pc h8<|pc h9<|pn)
      ·obtain rfl:=oi h;exact rl [0,2,7,8] [] [.t, .t, .t, .f] (pc h3<|pc (of_decide_eq_true h4)<|pc h5<|pd (of_decide_eq_true h4)<|pc h6<|pc (of_decide_eq_true h4)<|pc h7<|pn)
     ·obtain⟨h10,h⟩|⟨h10,h⟩:=Z1 h
      ·obtain rfl:=oi h;exact rl [2] [] [.t, .t, .f, .t, .t] (pc h3<|pc (of_decide_eq_true h4)<|pc h5<|pd (of_decide_eq_true h4)<|pc h6<|pc h10<|pc (rfl:(!false)=true)<|pn)
      ·obtain rfl:=oi h;exact rl [0,2,7,8] [] [.t, .t, .f, .f] (pc h3<|pc (of_decide_eq_true h4)<|pc h5<|pd (of_decide_eq_true h4)<|pc h6<|pc h10<|pn)
    ·obtain⟨h11,h⟩|⟨h11,h⟩:=Z1 h
     ·obtain⟨h12,h⟩|⟨h12,h⟩:=Z1 h
      ·obtain rfl:=oi h;exact rl [2] [] [.t, .f, .t, .t, .t] (pc h3<|pc (of_decide_eq_true h4)<|pc h5<|pc (of_decide_eq_true h4)<|pc h11<|pc (of_decide_eq_true h4)<|pc (rfl:(!false)=true)<|pc h12<|pn)
      ·obtain⟨h13,h⟩|⟨h13,h⟩:=Z1 h
       ·obtain rfl:=oi h;exact rl [2] [] [.t, .f, .t, .t, .f, .t] (pc h3<|pc (of_decide_eq_true h4)<|pc h5<|pc (of_decide_eq_true h4)<|pc h11<|pc (of_decide_eq_true h4)<|pc (rfl:(!false)=true)<|pc h12<|pc h13<|pn)
       ·obtain rfl:=oi h;exact rl [0,2,7,8] [] [.t, .f, .t, .t, .f, .f] (pc h3<|pc (of_decide_eq_true h4)<|pc h5<|pc (of_decide_eq_true h4)<|pc h11<|pc (of_decide_eq_true h4)<|pc (rfl:(!false)=true)<|pc h12<|pc h13<|pn)
     ·obtain rfl:=oi h;exact rl [2] [] [.t, .f, .f, .t, .t] (pc h3<|pc (of_decide_eq_true h4)<|pc h5<|pc (of_decide_eq_true h4)<|pc h11<|pd (rfl:(!false)=true)<|pn)
   ·cases h
  ·obtain rfl:=oi h;exact rl [0,2] [] [.f] (pc h3<|pn)
 ·rcases r with _|_ <;> exact Ex.noConfusion

theorem Zfb {a1:ByteArray} {r:Bool} (h:Z35 a1=some r):
  Z7 Tryz.prog UU 166 [.x a1] [] (.y r) []:=by
 unfold Z35 at h
 obtain⟨r15,h14,h⟩:=bo h
 rcases r15 with _|_
 ·obtain rfl:=oi h;exact rf Tryz.func166 none [.sum [0,2,7,8] [] .ret [(2, .y false)] []] (pc (Z7M _ _ h14)<|pn)
 ·obtain⟨h16,h⟩|⟨h16,h⟩:=Z1 h
  ·obtain rfl:=oi h;exact rf Tryz.func166 none [.sum [0,2,7,8] [] (.exit 0) [(0, .x a1),(2, .y false)] [], .t] (pc (Z7M _ _ h14)<|pc h16<|pn)
  ·obtain rfl:=oi h;exact rf Tryz.func166 none [.sum [0,2,7,8] [] (.exit 0) [(0, .x a1),(2, .y false)] [], .f] (pc (Z7M _ _ h14)<|pc h16<|pn)

theorem Zax {a1:ByteArray} {r:Bool} (h:Z5h a1=some r):
  Z7 Tryz.prog UU 165 [.x a1] [] (.y r) []:=by
 unfold Z5h at h
 obtain⟨r2,h3,h⟩:=bo h
 obtain rfl:=oi h;exact rf Tryz.func165 none [.b r2] (pc (Zfb h3)<|pn)

theorem Zay {a1:List ByteArray} :Zx Tryz.prog UU 0 19 (Zs (Zt Tryz.f209) [1,0,1,0,0]) (ρ:=Int⊕Unit) (Qj a1)
  (fun v2:Int=>([(0, .sl 9 a1),(1, .fn (.func 165) [] []),(4, .z),(7, .j (a1.length:Int)),(8, .j v2)]:Fr DD)) (fun v2:Int=>([]:Z3 DD)) (fun r=>match r with|Sum.inl v10=> .ret|Sum.inr _=> .exit 0) (fun r=>match r with|Sum.inl v10=> [(4, .j v10)]|Sum.inr _=> [(4, .z)]) (fun r=>match r with|Sum.inl v10=> []|Sum.inr _=> []):=by
 refine Zy (fun s q h=> ?_) (fun r=> ?_)
 ·replace h:Qj a1 s=some q:=h;revert h;revert s;intro v2 h
  unfold Qj at h
  obtain⟨h3,h⟩|⟨h3,h⟩:=Z1 h
  ·obtain⟨x4,h5,h⟩:=bo h
   obtain⟨r6,h7,h⟩:=bo h
   obtain⟨h8,h⟩|⟨h8,h⟩:=Z1 h
   ·obtain rfl:=oi h;exact rl [4] [] [.t, .row (c9 x4), .b r6, .t] (pc h3<|pc (ob9 h5)<|pc (Zax h7)<|pc h8<|pn)
   ·obtain rfl:=oi h;exact rl [0,1,4,7,8] [] [.t, .row (c9 x4), .b r6, .f] (pc h3<|pc (ob9 h5)<|pc (Zax h7)<|pc h8<|pn)
  ·obtain rfl:=oi h;exact rl [4] [] [.f] (pc h3<|pn)
 ·rcases r with _|_ <;> exact Ex.noConfusion

theorem Zfc {a1:List ByteArray} {r:Int} (h:Z5i a1=some r):
  Z7 Tryz.prog UU 209 [.sl 9 a1, .fn (.func 165) [] []] [] (.j r) []:=by
 unfold Z5i at h
 obtain⟨r12,h11,h⟩:=bo h
 rcases r12 with v10|_
 ·obtain rfl:=oi h;exact rf Tryz.func209 none [.sum [0,1,4,7,8] [] .ret [(4, .j v10)] []] (pc (Zay _ _ h11)<|pn)
 ·obtain rfl:=oi h;exact rf Tryz.func209 none [.sum [0,1,4,7,8] [] (.exit 0) [(4, .z)] []] (pc (Zay _ _ h11)<|pn)

theorem Zfd {a1:List ByteArray} {r:Bool} (h:Z5j a1=some r):
  Z7 Tryz.prog UU 164 [.sl 9 a1, .fn (.func 165) [] []] [] (.y r) []:=by
 unfold Z5j at h
 obtain⟨r2,h3,h⟩:=bo h
 obtain rfl:=oi h;exact rf Tryz.func164 none [.callv (.j r2)] (pc (Zfc h3)<|pn)

theorem QV {a1:List ByteArray} {r:Bool} (h:Z11 a1=some r):
  Z7 Tryz.prog UU 81 [.sl 9 a1] [] (.y r) []:=by
 unfold Z11 at h
 obtain⟨r2,h3,h⟩:=bo h
 obtain rfl:=oi h;exact rf Tryz.func81 none [.b r2] (pc (Zfd h3)<|pn)

theorem Zfe {r:(Unit)} (h:Z5k=some r):
  Z7 Tryz.prog UU 167 [.o 0] [.box 134 [.v (.pointer none), .v (.slice none 0 0)] false] ((fun r=>match r with|_=> .tup []) r) ((fun r=>match r with|_=> [.box 134 [.o 0, .v (.slice none 0 0)] false]) r):=by
 unfold Z5k at h
 obtain rfl:=oi h;exact rf Tryz.func167 (some [0]) [.t, .t] (pc (rfl:(true)=true)<|pc Zeb<|pn)

theorem Z7N {a1:ByteArray} {r:(Unit)} (h:Z12 a1=some r):
  Z7 Tryz.prog UU 83 [.o 0, .x a1] [.box 134 [.v (.pointer none), .v (.slice none 0 0)] false] ((fun r=>match r with|_=> .tup [.j (a1.size:Int), .v .nilIface]) r) ((fun r=>match r with|_=> [.box 134 [.o 0, .os 1 (List.length (bts a1))] false, .w 5 (bts a1)]) r):=by
 unfold Z12 at h
 obtain⟨r2,h3,h⟩:=bo h
 obtain⟨h4,h⟩|⟨h4,h⟩:=Z1 h
 ·obtain⟨h5,h⟩|⟨h5,h⟩:=Z1 h
  ·obtain rfl:=oi h;exact rf Tryz.func83 (some [0,1]) [.callm [0] (.tup []) [.box 134 [.o 0, .v (.slice none 0 0)] false], .obj [] (.w 5 (bts a1))] (pc (Zfe h3)<|pc (Zek a1 h4 h5)<|pn)
  ·cases h
 ·cases h

theorem Zff {a1:Int} {r:Int} (h:Z36 a1=some r):
  YE Tryz.prog UU 0 57 (Zs (Zt Tryz.f92) [1,1,1,0]) [(0, .j a1),(2, .e),(3, .os 0 0),(4, .v (.int .u64 (Y0 a1)))] [.n 5] ((fun r=>match r with|v4=> .nor) r) ((fun r=>match r with|v4=> [(0, .j a1),(2, .e),(3, .os 0 0),(4, .v (.int .u64 v4))]) r) ((fun r=>match r with|v4=> [.n 5]) r):=by
 unfold Z36 at h
 obtain⟨h2,h⟩|⟨h2,h⟩:=Z1 h
 ·obtain rfl:=oi h;exact rl [0,2,3,4] [0] [.t] (pc h2<|pn)
 ·obtain rfl:=oi h;exact rl [0,2,3,4] [0] [.f] (pc h2<|pn)

theorem Zfg {a1:Int} :Zx Tryz.prog UU 0 57 (Zs (Zt Tryz.f92) [1,1,1,1,0,1,0,0]) (fun s:(List Int)×Int×Bool=>match s with|(l7,v8,v9)=>VJ a1 l7 v8 v9)
  (fun s:(List Int)×Int×Bool=>(match s with|(l7,v8,v9)=> [(0, .j a1),(2, .e),(3, .os 0 l7.length),(4, .v (.int .u64 v8)),(5, .y v9)]:Fr DD)) (fun s:(List Int)×Int×Bool=>(match s with|(l7,v8,v9)=> [.w 5 l7]:Z3 DD)) (fun r=>match r with|l15=> .exit 0) (fun r=>match r with|l15=> [(0, .j a1),(2, .e),(3, .os 0 l15.length)]) (fun r=>match r with|l15=> [.w 5 l15]):=by
 refine Zy (fun s q h=> ?_) (fun r=> ?_)
 ·obtain⟨l7,v8,v9⟩:=s;replace h:VJ a1 l7 v8 v9=some q:=h
  unfold VJ at h
  obtain⟨h10,h⟩|⟨h10,h⟩:=Z1 h
  ·obtain⟨h11,h⟩|⟨h11,h⟩:=Z1 h
   ·obtain rfl:=oi h;exact rl [0,2,3,4,5] [0] [.t, .obj [] (.w 5 [(Xc (Y0 (48+(Int.tmod v8 10))):Int)]), .obj [] (.w 5 (l7++ [(Xc (Y0 (48+(Int.tmod v8 10))):Int)]))] (pc h10<|pc (show(10:Int)≠0 from by decide)<|pc (Yk 5 [(Xc (Y0 (48+(Int.tmod v8 10))):Int)])<|pc (YR 5 (n:=l7.length) (l:=l7) (xs:= [(Xc (Y0 (48+(Int.tmod v8 10))):Int)]) h11)<|pc (rn (List.length [(Xc (Y0 (48+(Int.tmod v8 10))):Int)]))<|pc (show(10:Int)≠0 from by decide)<|pn)
   ·cases h
  ·obtain rfl:=oi h;exact rl [0,2,3] [0] [.f] (pc h10<|pn)
 ·exact Ex.noConfusion

theorem Zfh {a1:Int} {l15:List Int} {r:(List Int)} (h:Z37 a1 l15=some r):
  YE Tryz.prog UU 0 57 (Zs (Zt Tryz.f92) [1,1,1,1,1,0]) [(0, .j a1),(2, .e),(3, .os 0 l15.length)] [.w 5 l15] ((fun r=>match r with|l22=> .nor) r) ((fun r=>match r with|l22=> [(2, .e),(3, .os 0 l22.length)]) r) ((fun r=>match r with|l22=> [.w 5 l22]) r):=by
 unfold Z37 at h
 obtain⟨h18,h⟩|⟨h18,h⟩:=Z1 h
 ·obtain⟨h19,h⟩|⟨h19,h⟩:=Z1 h
  ·obtain rfl:=oi h;exact rl [2,3] [0] [.t, .obj [] (.w 5 [(45:Int)]), .obj [] (.w 5 (l15++ [(45:Int)]))] (pc h18<|pc (Yk 5 [(45:Int)])<|pc (YR 5 (n:=l15.length) (l:=l15) (xs:= [(45:Int)]) h19)<|pc (rn (List.length [(45:Int)]))<|pn)
  ·cases h
 ·obtain rfl:=oi h;exact rl [2,3] [0] [.f] (pc h18<|pn)

theorem Zfi {l22:List Int} :Zx Tryz.prog UU 0 57 (Zs (Zt Tryz.f92) [1,1,1,1,1,1,0,1,0,0]) (fun s:(List Int)×Int×Int=>match s with|(l25,v26,v27)=>VK l22 l25 v26 v27)
  (fun s:(List Int)×Int×Int=>(match s with|(l25,v26,v27)=> [(2, .e),(3, .os 0 l22.length),(6, .j v26),(7, .j v27)]:Fr DD)) (fun s:(List Int)×Int×Int=>(match s with|(l25,v26,v27)=> [.arr 5 l25 l22.length false]:Z3 DD)) (fun r=>match r with|l42=> .exit 2) (fun r=>match r with|l42=> [(2, .e),(3, .os 0 l22.length)]) (fun r=>match r with|l42=> [.arr 5 l42 l22.length false]):=by
 refine Zy (fun s q h=> ?_) (fun r=> ?_)
 ·obtain⟨l25,v26,v27⟩:=s;replace h:VK l22 l25 v26 v27=some q:=h
  unfold VK at h
  obtain⟨h28,h⟩|⟨h28,h⟩:=Z1 h
  ·obtain⟨h29,h⟩|⟨h29,h⟩:=Z1 h
   ·obtain⟨x30,h31,h⟩:=bo h
    obtain⟨h32,h⟩|⟨h32,h⟩:=Z1 h
    ·obtain⟨x33,h34,h⟩:=bo h
     obtain⟨x35,h36,h⟩:=bo h
     obtain⟨h37,h⟩|⟨h37,h⟩:=Z1 h
     ·obtain⟨x38,h39,h⟩:=bo h
      obtain rfl:=oi h;exact rl [2,3,6,7] [0] [.t, .sum [13] [] .nor [] [.arr 5 (List.set l25 v26.toNat x30) l22.length false], .row (c5 x30), .row (c5 x33), .row (c5 x35), .obj [] (.arr 5 (List.set l25 v26.toNat x30) l22.length false), .row (c5 x38), .obj [] (.arr 5 (List.set (List.set l25 v26.toNat x30) v27.toNat x33) l22.length false)] (pc h28<|pc (rr (.os 0 l22.length))<|pc (rr (.j v27))<|pc (an l22.length (Zz h29))<|pc (an l22.length (Z5y h31))<|pc (an l22.length (Zz h32))<|pc (an l22.length (Z5y h34))<|pc (an l22.length (Zz h32))<|pc (rh [.arr 5 (List.set l25 v26.toNat x30) l22.length false])<|pc (XR (e:=5) (n:=l22.length) (l:=l25) (i:=v26.toNat) x30 [.v (.int .u8 x30)] (Z5y h36) rfl)<|pc (an l22.length (Zz h37))<|pc (XR (e:=5) (n:=l22.length) (l:=List.set l25 v26.toNat x30) (i:=v27.toNat) x33 [.v (.int .u8 x33)] (Z5y h39) rfl)<|pn)
     ·cases h
    ·cases h
   ·cases h
  ·obtain rfl:=oi h;exact rl [2,3] [0] [.f] (pc h28<|pn)
 ·exact Ex.noConfusion

theorem Z7O {a1:Int} {r:ByteArray} (h:Qk a1=some r):
  Z7 Tryz.prog UU 92 [.j a1] [] (.x r) []:=by
 unfold Qk at h
 obtain⟨v4,h5,h⟩:=bo h
 obtain⟨l15,h16,h⟩:=bo h
 obtain⟨l22,h23,h⟩:=bo h
 obtain⟨l42,h43,h⟩:=bo h
 obtain rfl:=oi h;exact rf Tryz.func92 none [.skp, .skp, .skp, .cut [0,2,3,4] [0] .nor [(0, .j a1),(2, .e),(3, .os 0 0),(4, .v (.int .u64 v4))] [.n 5], .sum [0,2,3,4,5] [0] (.exit 0) [(0, .j a1),(2, .e),(3, .os 0 l15.length)] [.w 5 l15], .cut [0,2,3] [0] .nor [(2, .e),(3, .os 0 l22.length)] [.w 5 l22], .sum [2,3,6,7] [0] (.exit 2) [(2, .e),(3, .os 0 l22.length)] [.arr 5 l42 l22.length false], .callv (.v (.string (Yu l42)))] (pc (Zff h5)<|pc (Zfg _ _ h16)<|pc (Zfh h23)<|pc (rn l22.length)<|pc (Zfi _ _ h43)<|pc (Z7y l42)<|pc (rn l22.length)<|pn)

theorem Zaz {a1:List Int} {r:(Unit)} (h:Z13 a1=some r):
  Z7 Tryz.prog UU 167 [.o 0] [.box 134 [.o 0, .os 1 a1.length] false, .w 5 a1] ((fun r=>match r with|_=> .tup []) r) ((fun r=>match r with|_=> [.box 134 [.o 0, .os 1 a1.length] false, .w 5 a1]) r):=by
 unfold Z13 at h
 obtain rfl:=oi h;exact rf Tryz.func167 (some [0,1]) [] (pn)

theorem QW {a1:List Int} {a2:ByteArray} {r:(Unit)} (h:VL a1 a2=some r):
  Z7 Tryz.prog UU 83 [.o 0, .x a2] [.box 134 [.o 0, .os 1 a1.length] false, .w 5 a1] ((fun r=>match r with|_=> .tup [.j (a2.size:Int), .v .nilIface]) r) ((fun r=>match r with|_=> [.box 134 [.o 0, .os 1 (List.length (a1++bts a2))] false, .w 5 (a1++bts a2)]) r):=by
 unfold VL at h
 obtain⟨r3,h4,h⟩:=bo h
 obtain⟨h5,h⟩|⟨h5,h⟩:=Z1 h
 ·obtain rfl:=oi h;exact rf Tryz.func83 (some [0,1]) [.callm [0,1] (.tup []) [.box 134 [.o 0, .os 1 a1.length] false, .w 5 a1], .obj [] (.w 5 (a1++bts a2))] (pc (Zaz h4)<|pc (Zej (n:=a1.length) (l:=a1) a2 h5)<|pn)
 ·cases h

theorem Z1x {a1:List Int} {a2:Int} {r:(Unit)} (h:VM a1 a2=some r):
  Z7 Tryz.prog UU 85 [.o 0, .v (.int .u8 a2)] [.box 134 [.o 0, .os 1 a1.length] false, .w 5 a1] ((fun r=>match r with|_=> .v .nilIface) r) ((fun r=>match r with|_=> [.box 134 [.o 0, .os 1 (List.length (a1++ [a2]))] false, .w 5 (a1++ [a2])]) r):=by
 unfold VM at h
 obtain⟨r3,h4,h⟩:=bo h
 obtain⟨h5,h⟩|⟨h5,h⟩:=Z1 h
 ·obtain rfl:=oi h;exact rf Tryz.func85 (some [0,1]) [.callm [0,1] (.tup []) [.box 134 [.o 0, .os 1 a1.length] false, .w 5 a1], .obj [] (.w 5 [a2]), .obj [] (.w 5 (a1++ [a2]))] (pc (Zaz h4)<|pc (Yk 5 [a2])<|pc (YR 5 (n:=a1.length) (l:=a1) (xs:= [a2]) h5)<|pc (rn (List.length [a2]))<|pn)
 ·cases h

theorem ZaA {r:(Unit)} (h:Z38=some r):
  Z7 Tryz.prog UU 86 [.o 0] [.box 134 [.v (.pointer none), .v (.slice none 0 0)] false] ((fun r=>match r with|_=> .e) r) ((fun r=>match r with|_=> [.box 134 [.v (.pointer none), .v (.slice none 0 0)] false]) r):=by
 unfold Z38 at h
 obtain rfl:=oi h;exact rf Tryz.func86 (some [0]) [] (pn)

theorem ZaB {a1:List Int} {r:(Unit)} (h:Z39 a1=some r):
  Z7 Tryz.prog UU 86 [.o 0] [.box 134 [.o 0, .os 1 a1.length] false, .w 5 a1] ((fun r=>match r with|_=> .v (.string (Yu a1))) r) ((fun r=>match r with|_=> [.box 134 [.o 0, .os 1 a1.length] false, .dead (a1.length+1) 5]) r):=by
 unfold Z39 at h
 obtain⟨h2,h⟩|⟨h2,h⟩:=Z1 h
 ·obtain⟨h3,h⟩|⟨h3,h⟩:=Z1 h
  ·obtain rfl:=oi h;exact rf Tryz.func86 (some [0,1]) [.callv (.v (.string (Yu a1)))] (pc (an a1.length (of_decide_eq_true h2))<|pc (rn a1.length)<|pc (Zel (n:=a1.length) (l:=a1) h2 h3)<|pn)
  ·cases h
 ·cases h

theorem Zfj {a1:List ByteArray} {a2:List (List Z6)} {x14:List Z6} :Zx Tryz.prog UU 0 64 (Zs (Zt Tryz.f30) [1,1,1,1,0,1,0,0,1,1,0,0,1,1,0,1,0,0]) (fun s:(List Int)×Int=>match s with|(l21,v22)=>Z5l a1 a2 x14 l21 v22)
  (fun s:(List Int)×Int=>(match s with|(l21,v22)=> [(0, .sl 9 a1),(4, .e),(5, .z),(7, .o 0),(9, .sl 79 x14),(34, .sl 70 a2),(35, .j (a2.length:Int)),(36, .z),(48, .j (x14.length:Int)),(49, .j v22)]:Fr DD)) (fun s:(List Int)×Int=>(match s with|(l21,v22)=> [.box 134 [.o 0, .os 1 l21.length] false, .w 5 l21]:Z3 DD)) (fun r=>match r with|l38=> .exit 3) (fun r=>match r with|l38=> [(0, .sl 9 a1),(4, .e),(5, .z),(7, .o 0),(34, .sl 70 a2),(35, .j (a2.length:Int)),(36, .z)]) (fun r=>match r with|l38=> [.box 134 [.o 0, .os 1 l38.length] false, .w 5 l38]):=by
 refine Zy (fun s q h=> ?_) (fun r=> ?_)
 ·obtain⟨l21,v22⟩:=s;replace h:Z5l a1 a2 x14 l21 v22=some q:=h
  unfold Z5l at h
  obtain⟨h23,h⟩|⟨h23,h⟩:=Z1 h
  ·obtain⟨x24,h25,h⟩:=bo h
   obtain⟨r26,h27,h⟩:=bo h
   obtain⟨h28,h⟩|⟨h28,h⟩:=Z1 h
   ·obtain⟨r29,h30,h⟩:=bo h
    obtain rfl:=oi h;exact rl [0,4,5,7,9,34,35,36,48,49] [0,1] [.t, .row (c79 x24), .callv (.x r26), .callm [0,1] (.tup [.j (((⟨#[32]⟩:ByteArray)++r26).size:Int), .v .nilIface]) [.box 134 [.o 0, .os 1 (List.length (l21++bts ((⟨#[32]⟩:ByteArray)++r26)))] false, .w 5 (l21++bts ((⟨#[32]⟩:ByteArray)++r26))]] (pc h23<|pc (Z1p h25)<|pc (Z7O h27)<|pc (of_decide_eq_true h28)<|pc (QW h30)<|pn)
   ·cases h
  ·obtain rfl:=oi h;exact rl [0,4,5,7,34,35,36] [0,1] [.f] (pc h23<|pn)
 ·exact Ex.noConfusion

theorem Zfk {a1:List ByteArray} {a2:List (List Z6)} {v12:Int} {x44:List Z6} :Zx Tryz.prog UU 0 64 (Zs (Zt Tryz.f30) [1,1,1,1,0,1,0,0,1,1,0,0,1,1,0,1,0,0]) (fun s:(List Int)×Int=>match s with|(l51,v52)=>Z5m a1 a2 v12 x44 l51 v52)
  (fun s:(List Int)×Int=>(match s with|(l51,v52)=> [(0, .sl 9 a1),(4, .e),(5, .z),(7, .o 0),(9, .sl 79 x44),(34, .sl 70 a2),(35, .j (a2.length:Int)),(36, .j v12),(48, .j (x44.length:Int)),(49, .j v52)]:Fr DD)) (fun s:(List Int)×Int=>(match s with|(l51,v52)=> [.box 134 [.o 0, .os 1 l51.length] false, .w 5 l51]:Z3 DD)) (fun r=>match r with|l68=> .exit 3) (fun r=>match r with|l68=> [(0, .sl 9 a1),(4, .e),(5, .z),(7, .o 0),(34, .sl 70 a2),(35, .j (a2.length:Int)),(36, .j v12)]) (fun r=>match r with|l68=> [.box 134 [.o 0, .os 1 l68.length] false, .w 5 l68]):=by
 refine Zy (fun s q h=> ?_) (fun r=> ?_)
 ·obtain⟨l51,v52⟩:=s;replace h:Z5m a1 a2 v12 x44 l51 v52=some q:=h
  unfold Z5m at h
  obtain⟨h53,h⟩|⟨h53,h⟩:=Z1 h
  ·obtain⟨x54,h55,h⟩:=bo h
   obtain⟨r56,h57,h⟩:=bo h
   obtain⟨h58,h⟩|⟨h58,h⟩:=Z1 h
   ·obtain⟨r59,h60,h⟩:=bo h
    obtain rfl:=oi h;exact rl [0,4,5,7,9,34,35,36,48,49] [0,1] [.t, .row (c79 x54), .callv (.x r56), .callm [0,1] (.tup [.j (((⟨#[32]⟩:ByteArray)++r56).size:Int), .v .nilIface]) [.box 134 [.o 0, .os 1 (List.length (l51++bts ((⟨#[32]⟩:ByteArray)++r56)))] false, .w 5 (l51++bts ((⟨#[32]⟩:ByteArray)++r56))]] (pc h53<|pc (Z1p h55)<|pc (Z7O h57)<|pc (of_decide_eq_true h58)<|pc (QW h60)<|pn)
   ·cases h
  ·obtain rfl:=oi h;exact rl [0,4,5,7,34,35,36] [0,1] [.f] (pc h53<|pn)
 ·exact Ex.noConfusion

theorem ZaC {a1:List ByteArray} {a2:List (List Z6)} :Z7b Tryz.prog UU 0 64 (Zs (Zt Tryz.f30) [1,1,1,1,0,1,0,0]) (Z7p a1 a2) (fun s:(List Int)×Int=>match s with|(l11,v12)=>Z5n a1 a2 l11 v12) ([(0, .sl 9 a1),(4, .e),(5, .z),(7, .o 0),(34, .sl 70 a2),(35, .j (a2.length:Int)),(36, .z)]:Fr DD) ([.box 134 [.v (.pointer none), .v (.slice none 0 0)] false]:Z3 DD)
  (fun r=>match r with|Sum.inl _=> .exit 1|Sum.inr l76=> .exit 1) (fun r=>match r with|Sum.inl _=> [(4, .e),(5, .z),(7, .o 0)]|Sum.inr l76=> [(4, .e),(5, .z),(7, .o 0)]) (fun r=>match r with|Sum.inl _=> [.box 134 [.v (.pointer none), .v (.slice none 0 0)] false]|Sum.inr l76=> [.box 134 [.o 0, .os 1 l76.length] false, .w 5 l76]):=by
 refine Z9v (F:=(fun s:(List Int)×Int=>(match s with|(l11,v12)=> [(0, .sl 9 a1),(4, .e),(5, .z),(7, .o 0),(34, .sl 70 a2),(35, .j (a2.length:Int)),(36, .j v12)]:Fr DD))) (H:=(fun s:(List Int)×Int=>(match s with|(l11,v12)=> [.box 134 [.o 0, .os 1 l11.length] false, .w 5 l11]:Z3 DD))) (fun q h=> ?_) (fun s q h=> ?_) (fun r=> ?_)
 ·unfold Z7p at h
  obtain⟨h13,h⟩|⟨h13,h⟩:=Z1 h
  ·obtain⟨x14,h15,h⟩:=bo h
   obtain⟨x16,h17,h⟩:=bo h
   obtain⟨h18,h⟩|⟨h18,h⟩:=Z1 h
   ·obtain⟨r19,h20,h⟩:=bo h
    obtain⟨l38,h39,h⟩:=bo h
    obtain⟨r41,h42,h⟩:=bo h
    obtain rfl:=oi h;exact rl [0,4,5,7,34,35,36] [0,1] [.t, .row (c70 x14), .row (c9 x16), .callm [0] (.tup [.j ((x16++(⟨#[58]⟩:ByteArray)).size:Int), .v .nilIface]) [.box 134 [.o 0, .os 1 (List.length (bts (x16++(⟨#[58]⟩:ByteArray))))] false, .w 5 (bts (x16++(⟨#[58]⟩:ByteArray)))], .sum [0,4,5,7,9,34,35,36,48,49] [0,1] (.exit 3) [(0, .sl 9 a1),(4, .e),(5, .z),(7, .o 0),(34, .sl 70 a2),(35, .j (a2.length:Int)),(36, .z)] [.box 134 [.o 0, .os 1 l38.length] false, .w 5 l38], .callm [0,1] (.v .nilIface) [.box 134 [.o 0, .os 1 (List.length (l38++ [10]))] false, .w 5 (l38++ [10])]] (pc h13<|pc (QR h15)<|pc (ob9 h17)<|pc (of_decide_eq_true h18)<|pc (Z7N h20)<|pc (Zfj _ _ h39)<|pc (Z1x h42)<|pn)
   ·cases h
  ·obtain rfl:=oi h;exact rl [4,5,7] [0] [.f] (pc h13<|pn)
 ·obtain⟨l11,v12⟩:=s;replace h:Z5n a1 a2 l11 v12=some q:=h
  unfold Z5n at h
  obtain⟨h43,h⟩|⟨h43,h⟩:=Z1 h
  ·obtain⟨x44,h45,h⟩:=bo h
   obtain⟨x46,h47,h⟩:=bo h
   obtain⟨h48,h⟩|⟨h48,h⟩:=Z1 h
   ·obtain⟨r49,h50,h⟩:=bo h
    obtain⟨l68,h69,h⟩:=bo h
    obtain⟨r71,h72,h⟩:=bo h
    obtain rfl:=oi h;exact rl [0,4,5,7,34,35,36] [0,1] [.t, .row (c70 x44), .row (c9 x46), .callm [0,1] (.tup [.j ((x46++(⟨#[58]⟩:ByteArray)).size:Int), .v .nilIface]) [.box 134 [.o 0, .os 1 (List.length (l11++bts (x46++(⟨#[58]⟩:ByteArray))))] false, .w 5 (l11++bts (x46++(⟨#[58]⟩:ByteArray)))], .sum [0,4,5,7,9,34,35,36,48,49] [0,1] (.exit 3) [(0, .sl 9 a1),(4, .e),(5, .z),(7, .o 0),(34, .sl 70 a2),(35, .j (a2.length:Int)),(36, .j v12)] [.box 134 [.o 0, .os 1 l68.length] false, .w 5 l68], .callm [0,1] (.v .nilIface) [.box 134 [.o 0, .os 1 (List.length (l68++ [10]))] false, .w 5 (l68++ [10])]] (pc h43<|pc (QR h45)<|pc (ob9 h47)<|pc (of_decide_eq_true h48)<|pc (QW h50)<|pc (Zfk _ _ h69)<|pc (Z1x h72)<|pn)
   ·cases h
  ·obtain rfl:=oi h;exact rl [4,5,7] [0,1] [.f] (pc h43<|pn)
 ·rcases r with _|_ <;> exact Ex.noConfusion

theorem Zfl {a1:List ByteArray} {a2:List (List Z6)} {r:ByteArray×Int} (h:Z7q a1 a2=some r):
  Z7 Tryz.prog UU 30 [.sl 9 a1, .sl 70 a2] [] (.tup [.x r.1, .j r.2]) []:=by
 unfold Z7q at h
 obtain⟨r3,h4,h⟩:=bo h
 obtain⟨h5,h⟩|⟨h5,h⟩:=Z1 h
 ·obtain rfl:=oi h;exact rf Tryz.func30 none [.b r3, .t] (pc (Z1w h4)<|pc h5<|pn)
 ·obtain⟨h6,h⟩|⟨h6,h⟩:=Z1 h
  ·obtain rfl:=oi h;exact rf Tryz.func30 none [.b r3, .f, .t] (pc (Z1w h4)<|pc h5<|pc h6<|pn)
  ·obtain⟨r7,h8,h⟩:=bo h
   obtain⟨h9,h⟩|⟨h9,h⟩:=Z1 h
   ·obtain rfl:=oi h;exact rf Tryz.func30 none [.b r3, .f, .f, .b r7, .t] (pc (Z1w h4)<|pc h5<|pc h6<|pc (QV h8)<|pc h9<|pn)
   ·obtain⟨h10,h⟩|⟨h10,h⟩:=Z1 h
    ·obtain rfl:=oi h;exact rf Tryz.func30 none [.b r3, .f, .f, .b r7, .f, .t] (pc (Z1w h4)<|pc h5<|pc h6<|pc (QV h8)<|pc h9<|pc h10<|pn)
    ·obtain⟨r78,h77,h⟩:=bo h
     rcases r78 with _|l76
     ·obtain⟨r79,h80,h⟩:=bo h
      obtain rfl:=oi h;exact rf Tryz.func30 none [.b r3, .f, .f, .b r7, .f, .f, .frz [7,7], .sum [0,4,5,7,34,35,36] [1] (.exit 1) [(4, .e),(5, .z),(7, .o 0)] [.box 134 [.v (.pointer none), .v (.slice none 0 0)] false], .callm [0] (.e) [.box 134 [.v (.pointer none), .v (.slice none 0 0)] false]] (pc (Z1w h4)<|pc h5<|pc h6<|pc (QV h8)<|pc h9<|pc h10<|pc (ZaC _ h77)<|pc (ZaA h80)<|pn)
     ·obtain⟨r81,h82,h⟩:=bo h
      obtain rfl:=oi h;exact rf Tryz.func30 none [.b r3, .f, .f, .b r7, .f, .f, .frz [7,7], .sum [0,4,5,7,34,35,36] [1] (.exit 1) [(4, .e),(5, .z),(7, .o 0)] [.box 134 [.o 0, .os 1 l76.length] false, .w 5 l76], .callm [0,1] (.v (.string (Yu l76))) [.box 134 [.o 0, .os 1 l76.length] false, .dead (l76.length+1) 5]] (pc (Z1w h4)<|pc h5<|pc h6<|pc (QV h8)<|pc h9<|pc h10<|pc (ZaC _ h77)<|pc (ZaB h82)<|pn)

theorem Zfm {a3:Int} {l6:List Z9} {n7:Nat} :Zx Tryz.prog UU 0 44 (Zs (Zt Tryz.f82) [1,1,0,1,0,0]) (fun s:(List Int)×(List Int)×Int=>match s with|(l9,l10,v11)=>UT a3 l6 n7 l9 l10 v11)
  (fun s:(List Int)×(List Int)×Int=>(match s with|(l9,l10,v11)=> [(2, .j a3),(6, .os 0 l9.length),(7, .os 1 l10.length),(18, .os 2 n7),(19, .j (n7:Int)),(20, .j v11)]:Fr DD)) (fun s:(List Int)×(List Int)×Int=>(match s with|(l9,l10,v11)=> [.w 3 l9, .w 3 l10, .arr 214 l6 n7 false]:Z3 DD)) (fun r=>match r with|(l32,l33)=> .exit 0) (fun r=>match r with|(l32,l33)=> [(6, .os 0 l32.length),(7, .os 1 l33.length)]) (fun r=>match r with|(l32,l33)=> [.w 3 l32, .w 3 l33]):=by
 refine Zy (fun s q h=> ?_) (fun r=> ?_)
 ·obtain⟨l9,l10,v11⟩:=s;replace h:UT a3 l6 n7 l9 l10 v11=some q:=h
  unfold UT at h
  obtain⟨h12,h⟩|⟨h12,h⟩:=Z1 h
  ·obtain⟨h13,h⟩|⟨h13,h⟩:=Z1 h
   ·obtain⟨x14,h15,h⟩:=bo h
    obtain⟨r16,h17,h⟩:=bo h
    obtain⟨h18,h⟩|⟨h18,h⟩:=Z1 h
    ·obtain⟨h19,h⟩|⟨h19,h⟩:=Z1 h
     ·obtain⟨r20,h21,h⟩:=bo h
      obtain⟨h22,h⟩|⟨h22,h⟩:=Z1 h
      ·obtain⟨h23,h⟩|⟨h23,h⟩:=Z1 h
       ·obtain rfl:=oi h;exact rl [2,6,7,18,19,20] [0,1,2] [.t, .row (XD x14), .b r16, .t, .obj [] (.w 3 [v11]), .obj [] (.w 3 (l9++ [v11])), .b r20, .t, .obj [] (.w 3 [v11]), .obj [] (.w 3 (l10++ [v11]))] (pc h12<|pc (an n7 (Zz h13))<|pc (an n7 (V3 h15))<|pc (VR h17)<|pc h18<|pc (Yk 3 [v11])<|pc (YR 3 (n:=l9.length) (l:=l9) (xs:= [v11]) h19)<|pc (rn (List.length [v11]))<|pc (VR h21)<|pc h22<|pc (Yk 3 [v11])<|pc (YR 3 (n:=l10.length) (l:=l10) (xs:= [v11]) h23)<|pc (rn (List.length [v11]))<|pn)
       ·cases h
      ·obtain rfl:=oi h;exact rl [2,6,7,18,19,20] [0,1,2] [.t, .row (XD x14), .b r16, .t, .obj [] (.w 3 [v11]), .obj [] (.w 3 (l9++ [v11])), .b r20, .f] (pc h12<|pc (an n7 (Zz h13))<|pc (an n7 (V3 h15))<|pc (VR h17)<|pc h18<|pc (Yk 3 [v11])<|pc (YR 3 (n:=l9.length) (l:=l9) (xs:= [v11]) h19)<|pc (rn (List.length [v11]))<|pc (VR h21)<|pc h22<|pn)
     ·cases h
    ·obtain⟨r24,h25,h⟩:=bo h
     obtain⟨h26,h⟩|⟨h26,h⟩:=Z1 h
     ·obtain⟨h27,h⟩|⟨h27,h⟩:=Z1 h
      ·obtain rfl:=oi h;exact rl [2,6,7,18,19,20] [0,1,2] [.t, .row (XD x14), .b r16, .f, .b r24, .t, .obj [] (.w 3 [v11]), .obj [] (.w 3 (l10++ [v11]))] (pc h12<|pc (an n7 (Zz h13))<|pc (an n7 (V3 h15))<|pc (VR h17)<|pc h18<|pc (VR h25)<|pc h26<|pc (Yk 3 [v11])<|pc (YR 3 (n:=l10.length) (l:=l10) (xs:= [v11]) h27)<|pc (rn (List.length [v11]))<|pn)
      ·cases h
     ·obtain rfl:=oi h;exact rl [2,6,7,18,19,20] [0,1,2] [.t, .row (XD x14), .b r16, .f, .b r24, .f] (pc h12<|pc (an n7 (Zz h13))<|pc (an n7 (V3 h15))<|pc (VR h17)<|pc h18<|pc (VR h25)<|pc h26<|pn)
   ·cases h
  ·obtain rfl:=oi h;exact rl [6,7] [0,1] [.f] (pc h12<|pn)
 ·exact Ex.noConfusion

theorem Z5G {a1:Z2} {a2:List Int} {a3:Int} {r:((List Int)×(List Int))} (h:UV a1 a2 a3=some r):
  Z7 Tryz.prog UU 82 [.agg (c31 a1), .sl 3 a2, .j a3] [] ((fun r=>match r with|(l36,l37)=> .tup [.os 0 l36.length, .os 1 l37.length]) r) ((fun r=>match r with|(l36,l37)=> [.w 3 l36, .w 3 l37]) r):=by
 unfold UV at h
 obtain⟨r4,h5,h⟩:=bo h
 obtain⟨l6,n7,v8⟩:=r4
 obtain⟨r35,h34,h⟩:=bo h
 obtain⟨l32,l33⟩:=r35
 obtain rfl:=oi h;exact rf Tryz.func82 (some [0,1]) [.callo (.tup [.os 0 n7, .y v8]) [.arr 214 l6 n7 false], .sum [2,6,7,18,19,20] [1,2,3] (.exit 0) [(6, .os 0 l32.length),(7, .os 1 l33.length)] [.w 3 l32, .w 3 l33]] (pc (To h5)<|pc (Th l6)<|pc (rn n7)<|pc (Zfm _ _ h34)<|pn)

theorem Zfn {a1:List ByteArray} {a2:ByteArray} {r:ByteArray} (h:strings_Join a1 a2=some r):
  Z7 Tryz.prog UU 237 [.sl 9 a1, .x a2] [] (.x r) []:=by
 unfold strings_Join at h
 obtain⟨h1,h⟩|⟨h1,h⟩:=Z1 h
 ·obtain rfl:=oi h;exact Zea Zem Zen (t:=9) (Ze9 fun _=>rfl) rfl rfl rfl h1
 ·cases h

theorem Zfo {a1:List ByteArray} {r:ByteArray} (h:Z5o a1=some r):
  Z7 Tryz.prog UU 211 [.sl 9 a1] [] (.x r) []:=by
 unfold Z5o at h
 obtain⟨r2,h3,h⟩:=bo h
 obtain rfl:=oi h;exact rf Tryz.func211 none [.callv (.x r2)] (pc (Zfn h3)<|pn)

theorem Zfp {a1:Z2} {a2:Int} {r:ByteArray} (h:Z3a a1 a2=some r):
  Z7 Tryz.prog UU 168 [.agg (c31 a1), .j a2] [] (.x r) []:=by
 unfold Z3a at h
 obtain⟨h3,h⟩|⟨h3,h⟩:=Z1 h
 ·obtain rfl:=oi h;exact rf Tryz.func168 none [.t] (pc h3<|pn)
 ·obtain⟨h4,h⟩|⟨h4,h⟩:=Z1 h
  ·obtain rfl:=oi h;exact rf Tryz.func168 none [.f, .t] (pc h3<|pc h4<|pn)
  ·obtain⟨r5,h6,h⟩:=bo h
   obtain⟨h7,h⟩|⟨h7,h⟩:=Z1 h
   ·obtain rfl:=oi h;exact rf Tryz.func168 none [.f, .f, .b r5, .t] (pc h3<|pc h4<|pc (Xi h6)<|pc h7<|pn)
   ·obtain⟨x8,h9,h⟩:=bo h
    obtain⟨x10,h11,h⟩:=bo h
    obtain⟨r12,h13,h⟩:=bo h
    obtain⟨r14,h15,h⟩:=bo h
    obtain rfl:=oi h;exact rf Tryz.func168 none [.f, .f, .b r5, .f, .row (c90 x8), .row (c56 x10), .callv (.x r12), .obj [] (.w 9 [x10.name,(⟨#[47]⟩:ByteArray),r12]), .callv (.x r14)] (pc h3<|pc h4<|pc (Xi h6)<|pc h7<|pc (ZI h9)<|pc (VO h11)<|pc (Z7O h13)<|pc (Yk 9 [x10.name,(⟨#[47]⟩:ByteArray),r12])<|pc (Zfo h15)<|pc (rn (List.length [x10.name,(⟨#[47]⟩:ByteArray),r12]))<|pn)

theorem Zfq {a1:Z2} {a2:List Int} :Zx Tryz.prog UU 0 22 (Zs (Zt Tryz.f84) [1,1,0,1,0,0]) (fun s:ByteArray×Int=>match s with|(v3,v4)=>Ql a1 a2 v3 v4)
  (fun s:ByteArray×Int=>(match s with|(v3,v4)=> [(2, .o 0),(4, .e),(5, .x v3),(8, .sl 3 a2),(9, .j (a2.length:Int)),(10, .j v4)]:Fr DD)) (fun s:ByteArray×Int=>(match s with|(v3,v4)=> [.box 31 (c31 a1) false]:Z3 DD)) (fun r=>match r with|v13=> .exit 0) (fun r=>match r with|v13=> [(4, .e),(5, .x v13)]) (fun r=>match r with|v13=> []):=by
 refine Zy (fun s q h=> ?_) (fun r=> ?_)
 ·obtain⟨v3,v4⟩:=s;replace h:Ql a1 a2 v3 v4=some q:=h
  unfold Ql at h
  obtain⟨h5,h⟩|⟨h5,h⟩:=Z1 h
  ·obtain⟨x6,h7,h⟩:=bo h
   obtain⟨r8,h9,h⟩:=bo h
   obtain⟨h10,h⟩|⟨h10,h⟩:=Z1 h
   ·obtain⟨h11,h⟩|⟨h11,h⟩:=Z1 h
    ·obtain rfl:=oi h;exact rl [2,4,5,8,9,10] [0] [.t, .row (c3 x6), .callv (.x r8)] (pc h5<|pc (ob3 h7)<|pc (Zfp h9)<|pc (of_decide_eq_true h10)<|pc (of_decide_eq_true h11)<|pn)
    ·cases h
   ·cases h
  ·obtain rfl:=oi h;exact rl [4,5] [] [.f] (pc h5<|pn)
 ·exact Ex.noConfusion

theorem Z1y {a1:Z2} {a2:List Int} {r:ByteArray} (h:UW a1 a2=some r):
  Z7 Tryz.prog UU 84 [.agg (c31 a1), .sl 3 a2] [] (.x r) []:=by
 unfold UW at h
 obtain⟨v13,h14,h⟩:=bo h
 obtain rfl:=oi h;exact rf Tryz.func84 none [.sum [2,4,5,8,9,10] [0] (.exit 0) [(4, .e),(5, .x v13)] []] (pc (Zfq _ _ h14)<|pn)

theorem ZaD {a1:Z2} {a2:List Int} {a3:List ByteArray} :Z7b Tryz.prog UU 0 65 (Zs (Zt Tryz.f26) [1,1,1,0,1,0,0]) (Qm a1 a2 a3) (fun s:(List Int)×Int=>match s with|(l14,v15)=>WK a1 a2 a3 l14 v15) ([(1, .sl 3 a2),(3, .o 0),(6, .e),(7, .z),(10, .o 1),(33, .sl 9 a3),(34, .j (a3.length:Int)),(35, .z)]:Fr DD) ([.box 31 (c31 a1) false, .box 134 [.v (.pointer none), .v (.slice none 0 0)] false]:Z3 DD)
  (fun r=>match r with|Sum.inl _=> .exit 0|Sum.inr l65=> .exit 0) (fun r=>match r with|Sum.inl _=> [(6, .e),(7, .z),(10, .o 0)]|Sum.inr l65=> [(6, .e),(7, .z),(10, .o 0)]) (fun r=>match r with|Sum.inl _=> [.box 134 [.v (.pointer none), .v (.slice none 0 0)] false]|Sum.inr l65=> [.box 134 [.o 0, .os 1 l65.length] false, .w 5 l65]):=by
 refine Z9v (F:=(fun s:(List Int)×Int=>(match s with|(l14,v15)=> [(1, .sl 3 a2),(3, .o 0),(6, .e),(7, .z),(10, .o 1),(33, .sl 9 a3),(34, .j (a3.length:Int)),(35, .j v15)]:Fr DD))) (H:=(fun s:(List Int)×Int=>(match s with|(l14,v15)=> [.box 31 (c31 a1) false, .box 134 [.o 1, .os 2 l14.length] false, .w 5 l14]:Z3 DD))) (fun q h=> ?_) (fun s q h=> ?_) (fun r=> ?_)
 ·unfold Qm at h
  obtain⟨h16,h⟩|⟨h16,h⟩:=Z1 h
  ·obtain⟨x17,h18,h⟩:=bo h
   obtain⟨r19,h20,h⟩:=bo h
   obtain⟨l21,l22⟩:=r19
   obtain⟨h23,h⟩|⟨h23,h⟩:=Z1 h
   ·obtain⟨r24,h25,h⟩:=bo h
    obtain⟨h26,h⟩|⟨h26,h⟩:=Z1 h
    ·obtain⟨r27,h28,h⟩:=bo h
     obtain⟨h29,h⟩|⟨h29,h⟩:=Z1 h
     ·obtain⟨r30,h31,h⟩:=bo h
      obtain⟨h32,h⟩|⟨h32,h⟩:=Z1 h
      ·obtain⟨r33,h34,h⟩:=bo h
       obtain⟨r35,h36,h⟩:=bo h
       obtain rfl:=oi h;exact rl [1,3,6,7,10,33,34,35] [0,1,4] [.t, .row (c9 x17), .callo (.tup [.os 0 l21.length, .os 1 l22.length]) [.w 3 l21, .w 3 l22], .callv (.x r24), .callm [1] (.tup [.j (((x17++(⟨#[58]⟩:ByteArray))++r24).size:Int), .v .nilIface]) [.box 134 [.o 0, .os 1 (List.length (bts ((x17++(⟨#[58]⟩:ByteArray))++r24)))] false, .w 5 (bts ((x17++(⟨#[58]⟩:ByteArray))++r24))], .t, .callv (.x r30), .callm [1,4] (.tup [.j (((⟨#[32,124]⟩:ByteArray)++r30).size:Int), .v .nilIface]) [.box 134 [.o 0, .os 1 (List.length ((bts ((x17++(⟨#[58]⟩:ByteArray))++r24))++bts ((⟨#[32,124]⟩:ByteArray)++r30)))] false, .w 5 ((bts ((x17++(⟨#[58]⟩:ByteArray))++r24))++bts ((⟨#[32,124]⟩:ByteArray)++r30))], .callm [1,4] (.v .nilIface) [.box 134 [.o 0, .os 1 (List.length (((bts ((x17++(⟨#[58]⟩:ByteArray))++r24))++bts ((⟨#[32,124]⟩:ByteArray)++r30))++ [10]))] false, .w 5 (((bts ((x17++(⟨#[58]⟩:ByteArray))++r24))++bts ((⟨#[32,124]⟩:ByteArray)++r30))++ [10])]] (pc h16<|pc (ob9 h18)<|pc (Z5G h20)<|pc (im3 l21)<|pc (im3 l22)<|pc (of_decide_eq_true h23)<|pc (Z1y h25)<|pc (rn l21.length)<|pc (of_decide_eq_true h26)<|pc (Z7N h28)<|pc (rn l22.length)<|pc h29<|pc (Z1y h31)<|pc (rn l22.length)<|pc (of_decide_eq_true h32)<|pc (QW h34)<|pc (Z1x h36)<|pn)
      ·cases h
     ·obtain⟨r37,h38,h⟩:=bo h
      obtain rfl:=oi h;exact rl [1,3,6,7,10,33,34,35] [0,1,4] [.t, .row (c9 x17), .callo (.tup [.os 0 l21.length, .os 1 l22.length]) [.w 3 l21, .w 3 l22], .callv (.x r24), .callm [1] (.tup [.j (((x17++(⟨#[58]⟩:ByteArray))++r24).size:Int), .v .nilIface]) [.box 134 [.o 0, .os 1 (List.length (bts ((x17++(⟨#[58]⟩:ByteArray))++r24)))] false, .w 5 (bts ((x17++(⟨#[58]⟩:ByteArray))++r24))], .f, .callm [1,4] (.v .nilIface) [.box 134 [.o 0, .os 1 (List.length ((bts ((x17++(⟨#[58]⟩:ByteArray))++r24))++ [10]))] false, .w 5 ((bts ((x17++(⟨#[58]⟩:ByteArray))++r24))++ [10])]] (pc h16<|pc (ob9 h18)<|pc (Z5G h20)<|pc (im3 l21)<|pc (im3 l22)<|pc (of_decide_eq_true h23)<|pc (Z1y h25)<|pc (rn l21.length)<|pc (of_decide_eq_true h26)<|pc (Z7N h28)<|pc (rn l22.length)<|pc h29<|pc (Z1x h38)<|pn)
    ·cases h
   ·cases h
  ·obtain rfl:=oi h;exact rl [6,7,10] [1] [.f] (pc h16<|pn)
 ·obtain⟨l14,v15⟩:=s;replace h:WK a1 a2 a3 l14 v15=some q:=h
  unfold WK at h
  obtain⟨h39,h⟩|⟨h39,h⟩:=Z1 h
  ·obtain⟨x40,h41,h⟩:=bo h
   obtain⟨r42,h43,h⟩:=bo h
   obtain⟨l44,l45⟩:=r42
   obtain⟨h46,h⟩|⟨h46,h⟩:=Z1 h
   ·obtain⟨r47,h48,h⟩:=bo h
    obtain⟨h49,h⟩|⟨h49,h⟩:=Z1 h
    ·obtain⟨r50,h51,h⟩:=bo h
     obtain⟨h52,h⟩|⟨h52,h⟩:=Z1 h
     ·obtain⟨r53,h54,h⟩:=bo h
      obtain⟨h55,h⟩|⟨h55,h⟩:=Z1 h
      ·obtain⟨r56,h57,h⟩:=bo h
       obtain⟨r58,h59,h⟩:=bo h
       obtain rfl:=oi h;exact rl [1,3,6,7,10,33,34,35] [0,1,2] [.t, .row (c9 x40), .callo (.tup [.os 0 l44.length, .os 1 l45.length]) [.w 3 l44, .w 3 l45], .callv (.x r47), .callm [1,2] (.tup [.j (((x40++(⟨#[58]⟩:ByteArray))++r47).size:Int), .v .nilIface]) [.box 134 [.o 0, .os 1 (List.length (l14++bts ((x40++(⟨#[58]⟩:ByteArray))++r47)))] false, .w 5 (l14++bts ((x40++(⟨#[58]⟩:ByteArray))++r47))], .t, .callv (.x r53), .callm [1,2] (.tup [.j (((⟨#[32,124]⟩:ByteArray)++r53).size:Int), .v .nilIface]) [.box 134 [.o 0, .os 1 (List.length ((l14++bts ((x40++(⟨#[58]⟩:ByteArray))++r47))++bts ((⟨#[32,124]⟩:ByteArray)++r53)))] false, .w 5 ((l14++bts ((x40++(⟨#[58]⟩:ByteArray))++r47))++bts ((⟨#[32,124]⟩:ByteArray)++r53))], .callm [1,2] (.v .nilIface) [.box 134 [.o 0, .os 1 (List.length (((l14++bts ((x40++(⟨#[58]⟩:ByteArray))++r47))++bts ((⟨#[32,124]⟩:ByteArray)++r53))++ [10]))] false, .w 5 (((l14++bts ((x40++(⟨#[58]⟩:ByteArray))++r47))++bts ((⟨#[32,124]⟩:ByteArray)++r53))++ [10])]] (pc h39<|pc (ob9 h41)<|pc (Z5G h43)<|pc (im3 l44)<|pc (im3 l45)<|pc (of_decide_eq_true h46)<|pc (Z1y h48)<|pc (rn l44.length)<|pc (of_decide_eq_true h49)<|pc (QW h51)<|pc (rn l45.length)<|pc h52<|pc (Z1y h54)<|pc (rn l45.length)<|pc (of_decide_eq_true h55)<|pc (QW h57)<|pc (Z1x h59)<|pn)
      ·cases h
     ·obtain⟨r60,h61,h⟩:=bo h
      obtain rfl:=oi h;exact rl [1,3,6,7,10,33,34,35] [0,1,2] [.t, .row (c9 x40), .callo (.tup [.os 0 l44.length, .os 1 l45.length]) [.w 3 l44, .w 3 l45], .callv (.x r47), .callm [1,2] (.tup [.j (((x40++(⟨#[58]⟩:ByteArray))++r47).size:Int), .v .nilIface]) [.box 134 [.o 0, .os 1 (List.length (l14++bts ((x40++(⟨#[58]⟩:ByteArray))++r47)))] false, .w 5 (l14++bts ((x40++(⟨#[58]⟩:ByteArray))++r47))], .f, .callm [1,2] (.v .nilIface) [.box 134 [.o 0, .os 1 (List.length ((l14++bts ((x40++(⟨#[58]⟩:ByteArray))++r47))++ [10]))] false, .w 5 ((l14++bts ((x40++(⟨#[58]⟩:ByteArray))++r47))++ [10])]] (pc h39<|pc (ob9 h41)<|pc (Z5G h43)<|pc (im3 l44)<|pc (im3 l45)<|pc (of_decide_eq_true h46)<|pc (Z1y h48)<|pc (rn l44.length)<|pc (of_decide_eq_true h49)<|pc (QW h51)<|pc (rn l45.length)<|pc h52<|pc (Z1x h61)<|pn)
    ·cases h
   ·cases h
  ·obtain rfl:=oi h;exact rl [6,7,10] [1,2] [.f] (pc h39<|pn)
 ·rcases r with _|_ <;> exact Ex.noConfusion

theorem Z1z {a1:Z2} {a2:List Int} {a3:List ByteArray} {r:ByteArray×Int} (h:Z14 a1 a2 a3=some r):
  Z7 Tryz.prog UU 26 [.agg (c31 a1), .sl 3 a2, .sl 9 a3] [] (.tup [.x r.1, .j r.2]) []:=by
 unfold Z14 at h
 obtain⟨r4,h5,h⟩:=bo h
 obtain⟨l6,n7,v8⟩:=r4
 obtain⟨h9,h⟩|⟨h9,h⟩:=Z1 h
 ·obtain rfl:=oi h;exact rf Tryz.func26 none [.callo (.tup [.os 0 n7, .y v8]) [.arr 214 l6 n7 false], .t] (pc (To h5)<|pc (Th l6)<|pc h9<|pn)
 ·obtain⟨h10,h⟩|⟨h10,h⟩:=Z1 h
  ·obtain rfl:=oi h;exact rf Tryz.func26 none [.callo (.tup [.os 0 n7, .y v8]) [.arr 214 l6 n7 false], .f, .t] (pc (To h5)<|pc (Th l6)<|pc h9<|pc h10<|pn)
  ·obtain⟨r11,h12,h⟩:=bo h
   obtain⟨h13,h⟩|⟨h13,h⟩:=Z1 h
   ·obtain rfl:=oi h;exact rf Tryz.func26 none [.callo (.tup [.os 0 n7, .y v8]) [.arr 214 l6 n7 false], .f, .f, .b r11, .t] (pc (To h5)<|pc (Th l6)<|pc h9<|pc h10<|pc (QV h12)<|pc h13<|pn)
   ·obtain⟨r67,h66,h⟩:=bo h
    rcases r67 with _|l65
    ·obtain⟨r68,h69,h⟩:=bo h
     obtain rfl:=oi h;exact rf Tryz.func26 none [.callo (.tup [.os 0 n7, .y v8]) [.arr 214 l6 n7 false], .f, .f, .b r11, .f, .frz [7,7], .sum [1,3,6,7,10,33,34,35] [0,2] (.exit 0) [(6, .e),(7, .z),(10, .o 0)] [.box 134 [.v (.pointer none), .v (.slice none 0 0)] false], .callm [0] (.e) [.box 134 [.v (.pointer none), .v (.slice none 0 0)] false]] (pc (To h5)<|pc (Th l6)<|pc h9<|pc h10<|pc (QV h12)<|pc h13<|pc (ZaD _ h66)<|pc (ZaA h69)<|pn)
    ·obtain⟨r70,h71,h⟩:=bo h
     obtain rfl:=oi h;exact rf Tryz.func26 none [.callo (.tup [.os 0 n7, .y v8]) [.arr 214 l6 n7 false], .f, .f, .b r11, .f, .frz [7,7], .sum [1,3,6,7,10,33,34,35] [0,2] (.exit 0) [(6, .e),(7, .z),(10, .o 0)] [.box 134 [.o 0, .os 1 l65.length] false, .w 5 l65], .callm [0,1] (.v (.string (Yu l65))) [.box 134 [.o 0, .os 1 l65.length] false, .dead (l65.length+1) 5]] (pc (To h5)<|pc (Th l6)<|pc h9<|pc h10<|pc (QV h12)<|pc h13<|pc (ZaD _ h66)<|pc (ZaB h71)<|pn)

theorem ZaE {a1:List (List Z6)} {v2:Int} {x4:List Z6} :Zx Tryz.prog UU 0 31 (Zs (Zt Tryz.f32) [1,0,1,0,0,1,1,0,0,1,1,0,0]) (ρ:=Unit⊕Unit) (Z5p a1 v2 x4)
  (fun v6:Int=>([(2, .y false),(3, .j v2),(7, .sl 70 a1),(8, .j (a1.length:Int)),(9, .j v2),(14, .sl 79 x4),(15, .j (x4.length:Int)),(16, .j v6)]:Fr DD)) (fun v6:Int=>([]:Z3 DD)) (fun r=>match r with|Sum.inl _=> .ret|Sum.inr _=> .exit 2) (fun r=>match r with|Sum.inl _=> [(2, .y false)]|Sum.inr _=> [(2, .y false),(7, .sl 70 a1),(8, .j (a1.length:Int)),(9, .j v2)]) (fun r=>match r with|Sum.inl _=> []|Sum.inr _=> []):=by
 refine Zy (fun s q h=> ?_) (fun r=> ?_)
 ·replace h:Z5p a1 v2 x4 s=some q:=h;revert h;revert s;intro v6 h
  unfold Z5p at h
  obtain⟨h7,h⟩|⟨h7,h⟩:=Z1 h
  ·obtain⟨x8,h9,h⟩:=bo h
   obtain⟨h10,h⟩|⟨h10,h⟩:=Z1 h
   ·obtain⟨h11,h⟩|⟨h11,h⟩:=Z1 h
    ·obtain rfl:=oi h;exact rl [2] [] [.t, .row (c79 x8), .t, .t] (pc h7<|pc (Z1p h9)<|pc h10<|pc h11<|pn)
    ·obtain rfl:=oi h;exact rl [2,3,7,8,9,14,15,16] [] [.t, .row (c79 x8), .t, .f] (pc h7<|pc (Z1p h9)<|pc h10<|pc h11<|pn)
   ·obtain rfl:=oi h;exact rl [2,3,7,8,9,14,15,16] [] [.t, .row (c79 x8), .f] (pc h7<|pc (Z1p h9)<|pc h10<|pn)
  ·obtain rfl:=oi h;exact rl [2,7,8,9] [] [.f] (pc h7<|pn)
 ·rcases r with _|_ <;> exact Ex.noConfusion

theorem ZaF {a1:List (List Z6)} :Zx Tryz.prog UU 0 31 (Zs (Zt Tryz.f32) [1,0,1,0,0]) (ρ:=Unit⊕Unit) (Z5q a1)
  (fun v2:Int=>([(2, .y false),(7, .sl 70 a1),(8, .j (a1.length:Int)),(9, .j v2)]:Fr DD)) (fun v2:Int=>([]:Z3 DD)) (fun r=>match r with|Sum.inl _=> .ret|Sum.inr _=> .exit 0) (fun r=>match r with|Sum.inl _=> [(2, .y false)]|Sum.inr _=> [(2, .y false)]) (fun r=>match r with|Sum.inl _=> []|Sum.inr _=> []):=by
 refine Zy (fun s q h=> ?_) (fun r=> ?_)
 ·replace h:Z5q a1 s=some q:=h;revert h;revert s;intro v2 h
  unfold Z5q at h
  obtain⟨h3,h⟩|⟨h3,h⟩:=Z1 h
  ·obtain⟨x4,h5,h⟩:=bo h
   obtain⟨r13,h12,h⟩:=bo h
   rcases r13 with _|_
   ·obtain rfl:=oi h;exact rl [2] [] [.t, .row (c70 x4), .sum [2,3,7,8,9,14,15,16] [] .ret [(2, .y false)] []] (pc h3<|pc (QR h5)<|pc (ZaE _ _ h12)<|pn)
   ·obtain rfl:=oi h;exact rl [2,7,8,9] [] [.t, .row (c70 x4), .sum [2,3,7,8,9,14,15,16] [] (.exit 2) [(2, .y false),(7, .sl 70 a1),(8, .j (a1.length:Int)),(9, .j v2)] []] (pc h3<|pc (QR h5)<|pc (ZaE _ _ h12)<|pn)
  ·obtain rfl:=oi h;exact rl [2] [] [.f] (pc h3<|pn)
 ·rcases r with _|_ <;> exact Ex.noConfusion

theorem Zfr {a1:List (List Z6)} {r:Bool} (h:Z7r a1=some r):
  Z7 Tryz.prog UU 32 [.sl 70 a1] [] (.y r) []:=by
 unfold Z7r at h
 obtain⟨r15,h14,h⟩:=bo h
 rcases r15 with _|_
 ·obtain rfl:=oi h;exact rf Tryz.func32 none [.sum [2,7,8,9] [] .ret [(2, .y false)] []] (pc (ZaF _ _ h14)<|pn)
 ·obtain rfl:=oi h;exact rf Tryz.func32 none [.sum [2,7,8,9] [] (.exit 0) [(2, .y false)] []] (pc (ZaF _ _ h14)<|pn)

end Go.Eng
