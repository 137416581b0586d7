/- Part of the proof of MatrixTells: printed mirrors of the functions, or their contracts. No conditions. -/
import Derived.Test.YtcclngfmkodgjaaGreatMAK5
set_option linter.unusedVariables false
set_option maxRecDepth 100000
namespace Go.Eng
open Go Go.Proofs
theorem VS {a1:Int} {a2:Int} {r:Bool} (h:Ug a1 a2=some r):
  Z7 Tryz.prog UU 159 [.j a1, .j a2] [] (.y r) []:=by
 unfold Ug at h
 obtain⟨h3,h⟩|⟨h3,h⟩:=Z1 h
 ·obtain rfl:=oi h;exact rf Tryz.func159 none [.t] (pc h3<|pn)
 ·obtain⟨h4,h⟩|⟨h4,h⟩:=Z1 h
  ·obtain rfl:=oi h;exact rf Tryz.func159 none [.f, .t] (pc h3<|pc h4<|pn)
  ·obtain⟨h5,h⟩|⟨h5,h⟩:=Z1 h
   ·obtain⟨r6,h7,h⟩:=bo h
    obtain⟨h8,h⟩|⟨h8,h⟩:=Z1 h
    ·obtain⟨x9,h10,h⟩:=bo h
     obtain⟨h11,h⟩|⟨h11,h⟩:=Z1 h
     ·obtain rfl:=oi h;exact rf Tryz.func159 none [.f, .f, .t, .callo (.os 0 (List.length [(1:Int),(2:Int),(4:Int),(8:Int),(16:Int),(32:Int),(64:Int),(128:Int),(256:Int),(512:Int)])) [.w 3 [(1:Int),(2:Int),(4:Int),(8:Int),(16:Int),(32:Int),(64:Int),(128:Int),(256:Int),(512:Int)]], .row (c3 x9)] (pc h3<|pc h4<|pc h5<|pc (show(1024:Int)≠0 from by decide)<|pc (Z3Q h7)<|pc (im3 [(1:Int),(2:Int),(4:Int),(8:Int),(16:Int),(32:Int),(64:Int),(128:Int),(256:Int),(512:Int)])<|pc (an (List.length [(1:Int),(2:Int),(4:Int),(8:Int),(16:Int),(32:Int),(64:Int),(128:Int),(256:Int),(512:Int)]) (Zz h8))<|pc (an (List.length [(1:Int),(2:Int),(4:Int),(8:Int),(16:Int),(32:Int),(64:Int),(128:Int),(256:Int),(512:Int)]) (YV h10))<|pc (Z7f h11)<|pc (show(2:Int)≠0 from by decide)<|pn)
     ·cases h
    ·cases h
   ·obtain⟨r12,h13,h⟩:=bo h
    obtain⟨h14,h⟩|⟨h14,h⟩:=Z1 h
    ·obtain⟨x15,h16,h⟩:=bo h
     obtain⟨h17,h⟩|⟨h17,h⟩:=Z1 h
     ·obtain rfl:=oi h;exact rf Tryz.func159 none [.f, .f, .f, .callo (.os 0 (List.length [(1:Int),(2:Int),(4:Int),(8:Int),(16:Int),(32:Int),(64:Int),(128:Int),(256:Int),(512:Int)])) [.w 3 [(1:Int),(2:Int),(4:Int),(8:Int),(16:Int),(32:Int),(64:Int),(128:Int),(256:Int),(512:Int)]], .row (c3 x15)] (pc h3<|pc h4<|pc h5<|pc (Z3Q h13)<|pc (im3 [(1:Int),(2:Int),(4:Int),(8:Int),(16:Int),(32:Int),(64:Int),(128:Int),(256:Int),(512:Int)])<|pc (an (List.length [(1:Int),(2:Int),(4:Int),(8:Int),(16:Int),(32:Int),(64:Int),(128:Int),(256:Int),(512:Int)]) (Zz h14))<|pc (an (List.length [(1:Int),(2:Int),(4:Int),(8:Int),(16:Int),(32:Int),(64:Int),(128:Int),(256:Int),(512:Int)]) (YV h16))<|pc (Z7f h17)<|pc (show(2:Int)≠0 from by decide)<|pn)
     ·cases h
    ·cases h

theorem Zb4 {a1:Z2} {l5:List Y1} {n6:Nat} {v11:Int} {l13:List Int} {v14:Int} :Zx Tryz.prog UU 0 93 (Zs (Zt Tryz.f78) [1,1,1,1,0,1,0,0,1,0,0,1,0,0,1,0,0,1,0,1,0,0]) (fun s:Bool×Int=>match s with|(v19,v20)=>T9 a1 l5 n6 v11 l13 v14 v19 v20)
  (fun s:Bool×Int=>(match s with|(v19,v20)=> [(2, .o 0),(4, .os 1 0),(5, .y false),(6, .os 2 n6),(8, .os 3 (Int.toNat (a1.ports.length:Int))),(9, .j v11),(10, .j v14),(11, .y v19),(12, .j v20)]:Fr DD)) (fun s:Bool×Int=>(match s with|(v19,v20)=> [.box 31 (c31 a1) false, .n 3, .arr 221 l5 n6 false, .arr 3 l13 (Int.toNat (a1.ports.length:Int)) false]:Z3 DD)) (fun r=>match r with|v40=> .exit 4) (fun r=>match r with|v40=> [(2, .o 0),(4, .os 1 0),(5, .y false),(6, .os 2 n6),(8, .os 3 (Int.toNat (a1.ports.length:Int))),(9, .j v11),(10, .j v14),(11, .y v40)]) (fun r=>match r with|v40=> [.box 31 (c31 a1) false, .n 3, .arr 221 l5 n6 false, .arr 3 l13 (Int.toNat (a1.ports.length:Int)) false]):=by
 refine Zy (fun s q h=> ?_) (fun r=> ?_)
 ·obtain⟨v19,v20⟩:=s;replace h:T9 a1 l5 n6 v11 l13 v14 v19 v20=some q:=h
  unfold T9 at h
  obtain⟨h21,h⟩|⟨h21,h⟩:=Z1 h
  ·obtain⟨l24,h23,h⟩:=bo h
   obtain⟨r25,h26,h⟩:=bo h
   obtain⟨h27,h⟩|⟨h27,h⟩:=Z1 h
   ·obtain rfl:=oi h;exact rl [2,4,5,6,8,9,10,11,12] [0,1,2,3] [.t, .callo (.os 0 l24.length) [.w 3 l24], .b r25, .t] (pc (rn n6)<|pc h21<|pc (Z1B h23)<|pc (im3 l24)<|pc (Xt h26)<|pc (rn l24.length)<|pc h27<|pn)
   ·obtain⟨h28,h⟩|⟨h28,h⟩:=Z1 h
    ·obtain⟨h29,h⟩|⟨h29,h⟩:=Z1 h
     ·obtain⟨x30,h31,h⟩:=bo h
      obtain⟨r32,h33,h⟩:=bo h
      obtain⟨h34,h⟩|⟨h34,h⟩:=Z1 h
      ·obtain rfl:=oi h;exact rl [2,4,5,6,8,9,10,11,12] [0,1,2,3] [.t, .callo (.os 0 l24.length) [.w 3 l24], .b r25, .f, .t, .row (WD x30), .b r32, .t] (pc (rn n6)<|pc h21<|pc (Z1B h23)<|pc (im3 l24)<|pc (Xt h26)<|pc (rn l24.length)<|pc h27<|pc h28<|pc (an n6 (Zz h29))<|pc (rn n6)<|pc (an n6 (Vo h31))<|pc (VS h33)<|pc h34<|pn)
      ·obtain⟨x35,h36,h⟩:=bo h
       obtain⟨r37,h38,h⟩:=bo h
       obtain rfl:=oi h;exact rl [2,4,5,6,8,9,10,11,12] [0,1,2,3] [.t, .callo (.os 0 l24.length) [.w 3 l24], .b r25, .f, .t, .row (WD x30), .b r32, .f, .row (WD x35), .b r37] (pc (rn n6)<|pc h21<|pc (Z1B h23)<|pc (im3 l24)<|pc (Xt h26)<|pc (rn l24.length)<|pc h27<|pc h28<|pc (an n6 (Zz h29))<|pc (rn n6)<|pc (an n6 (Vo h31))<|pc (VS h33)<|pc h34<|pc (an n6 (Zz h29))<|pc (rn n6)<|pc (an n6 (Vo h36))<|pc (VS h38)<|pn)
     ·cases h
    ·obtain rfl:=oi h;exact rl [2,4,5,6,8,9,10,11,12] [0,1,2,3] [.t, .callo (.os 0 l24.length) [.w 3 l24], .b r25, .f, .f] (pc (rn n6)<|pc h21<|pc (Z1B h23)<|pc (im3 l24)<|pc (Xt h26)<|pc (rn l24.length)<|pc h27<|pc h28<|pn)
  ·obtain rfl:=oi h;exact rl [2,4,5,6,8,9,10,11] [0,1,2,3] [.f] (pc (rn n6)<|pc h21<|pn)
 ·exact Ex.noConfusion

theorem ZfN {a1:Z2} {l5:List Y1} {n6:Nat} {v11:Int} :Zx Tryz.prog UU 0 93 (Zs (Zt Tryz.f78) [1,1,1,1,0,1,0,0,1,0,0,1,0,0]) (fun s:(List Int)×Int=>match s with|(l13,v14)=>Vl a1 l5 n6 v11 l13 v14)
  (fun s:(List Int)×Int=>(match s with|(l13,v14)=> [(2, .o 0),(4, .os 1 0),(5, .y false),(6, .os 2 n6),(8, .os 3 (Int.toNat (a1.ports.length:Int))),(9, .j v11),(10, .j v14)]:Fr DD)) (fun s:(List Int)×Int=>(match s with|(l13,v14)=> [.box 31 (c31 a1) false, .n 3, .arr 221 l5 n6 false, .arr 3 l13 (Int.toNat (a1.ports.length:Int)) false]:Z3 DD)) (fun r=>match r with|l60=> .exit 2) (fun r=>match r with|l60=> [(2, .o 0),(4, .os 1 0),(5, .y false),(6, .os 2 n6),(8, .os 3 (Int.toNat (a1.ports.length:Int))),(9, .j v11)]) (fun r=>match r with|l60=> [.box 31 (c31 a1) false, .n 3, .arr 221 l5 n6 false, .arr 3 l60 (Int.toNat (a1.ports.length:Int)) false]):=by
 refine Zy (fun s q h=> ?_) (fun r=> ?_)
 ·obtain⟨l13,v14⟩:=s;replace h:Vl a1 l5 n6 v11 l13 v14=some q:=h
  unfold Vl at h
  obtain⟨h15,h⟩|⟨h15,h⟩:=Z1 h
  ·obtain⟨x16,h17,h⟩:=bo h
   obtain⟨h18,h⟩|⟨h18,h⟩:=Z1 h
   ·obtain⟨v40,h41,h⟩:=bo h
    obtain⟨h43,h⟩|⟨h43,h⟩:=Z1 h
    ·obtain⟨h44,h⟩|⟨h44,h⟩:=Z1 h
     ·obtain⟨x45,h46,h⟩:=bo h
      obtain⟨r47,h48,h⟩:=bo h
      obtain⟨h49,h⟩|⟨h49,h⟩:=Z1 h
      ·obtain⟨x50,h51,h⟩:=bo h
       obtain⟨x52,h53,h⟩:=bo h
       obtain rfl:=oi h;exact rl [2,4,5,6,8,9,10] [0,1,2,3] [.t, .row (Za x16), .t, .sum [2,4,5,6,8,9,10,11,12] [0,1,2,3] (.exit 4) [(2, .o 0),(4, .os 1 0),(5, .y false),(6, .os 2 n6),(8, .os 3 (Int.toNat (a1.ports.length:Int))),(9, .j v11),(10, .j v14),(11, .y v40)] [.box 31 (c31 a1) false, .n 3, .arr 221 l5 n6 false, .arr 3 l13 (Int.toNat (a1.ports.length:Int)) false], .t, .sum [6] [] .nor [] [.box 31 (c31 a1) false, .n 3, .arr 221 l5 n6 false, .arr 3 l13 (Int.toNat (a1.ports.length:Int)) false, .w 3 [(1:Int),(2:Int),(4:Int),(8:Int),(16:Int),(32:Int),(64:Int),(128:Int),(256:Int),(512:Int)]], .row (c3 x45), .callo (.os 0 (List.length [(1:Int),(2:Int),(4:Int),(8:Int),(16:Int),(32:Int),(64:Int),(128:Int),(256:Int),(512:Int)])) [.w 3 [(1:Int),(2:Int),(4:Int),(8:Int),(16:Int),(32:Int),(64:Int),(128:Int),(256:Int),(512:Int)]], .row (c3 x50), .row (c3 x52), .obj [] (.arr 3 (List.set l13 v11.toNat (Z4 (x45+x50):Int)) (Int.toNat (a1.ports.length:Int)) false)] (pc h15<|pc (ZA h17)<|pc h18<|pc (Zb4 _ _ h41)<|pc h43<|pc (rr (.os 3 (Int.toNat (a1.ports.length:Int))))<|pc (rr (.j v11))<|pc (rr (.os 3 (Int.toNat (a1.ports.length:Int))))<|pc (rr (.j v11))<|pd (an (Int.toNat (a1.ports.length:Int)) (Zz h44))<|pc (rr (.op 3 (Int.toNat (a1.ports.length:Int)) v11.toNat 0))<|pd (an (Int.toNat (a1.ports.length:Int)) (YV h46))<|pc (rr (.j x45))<|pc (rh [.box 31 (c31 a1) false, .n 3, .arr 221 l5 n6 false, .arr 3 l13 (Int.toNat (a1.ports.length:Int)) false, .w 3 [(1:Int),(2:Int),(4:Int),(8:Int),(16:Int),(32:Int),(64:Int),(128:Int),(256:Int),(512:Int)]])<|pc (Z3Q h48)<|pc (im3 [(1:Int),(2:Int),(4:Int),(8:Int),(16:Int),(32:Int),(64:Int),(128:Int),(256:Int),(512:Int)])<|pc (rr (.j v14))<|pc (an (List.length [(1:Int),(2:Int),(4:Int),(8:Int),(16:Int),(32:Int),(64:Int),(128:Int),(256:Int),(512:Int)]) (Zz h49))<|pc (an (List.length [(1:Int),(2:Int),(4:Int),(8:Int),(16:Int),(32:Int),(64:Int),(128:Int),(256:Int),(512:Int)]) (YV h51))<|pc (an (Int.toNat (a1.ports.length:Int)) (Zz h44))<|pc (XR (e:=3) (n:=(Int.toNat (a1.ports.length:Int))) (l:=l13) (i:=v11.toNat) (Z4 (x45+x50):Int) [.j (Z4 (x45+x50))] (YV h53) rfl)<|pn)
      ·cases h
     ·cases h
    ·obtain rfl:=oi h;exact rl [2,4,5,6,8,9,10] [0,1,2,3] [.t, .row (Za x16), .t, .sum [2,4,5,6,8,9,10,11,12] [0,1,2,3] (.exit 4) [(2, .o 0),(4, .os 1 0),(5, .y false),(6, .os 2 n6),(8, .os 3 (Int.toNat (a1.ports.length:Int))),(9, .j v11),(10, .j v14),(11, .y v40)] [.box 31 (c31 a1) false, .n 3, .arr 221 l5 n6 false, .arr 3 l13 (Int.toNat (a1.ports.length:Int)) false], .f] (pc h15<|pc (ZA h17)<|pc h18<|pc (Zb4 _ _ h41)<|pc h43<|pn)
   ·obtain rfl:=oi h;exact rl [2,4,5,6,8,9] [0,1,2,3] [.t, .row (Za x16), .f] (pc h15<|pc (ZA h17)<|pc h18<|pn)
  ·obtain rfl:=oi h;exact rl [2,4,5,6,8,9] [0,1,2,3] [.f] (pc h15<|pn)
 ·exact Ex.noConfusion

theorem ZfO {a1:Z2} {l5:List Y1} {n6:Nat} :Zx Tryz.prog UU 0 93 (Zs (Zt Tryz.f78) [1,1,1,1,0,1,0,0]) (fun s:(List Int)×Int=>match s with|(l10,v11)=>QI a1 l5 n6 l10 v11)
  (fun s:(List Int)×Int=>(match s with|(l10,v11)=> [(2, .o 0),(4, .os 1 0),(5, .y false),(6, .os 2 n6),(8, .os 3 (Int.toNat (a1.ports.length:Int))),(9, .j v11)]:Fr DD)) (fun s:(List Int)×Int=>(match s with|(l10,v11)=> [.box 31 (c31 a1) false, .n 3, .arr 221 l5 n6 false, .arr 3 l10 (Int.toNat (a1.ports.length:Int)) false]:Z3 DD)) (fun r=>match r with|l66=> .exit 0) (fun r=>match r with|l66=> [(4, .os 0 0),(5, .y false),(8, .os 1 (Int.toNat (a1.ports.length:Int)))]) (fun r=>match r with|l66=> [.n 3, .arr 3 l66 (Int.toNat (a1.ports.length:Int)) false]):=by
 refine Zy (fun s q h=> ?_) (fun r=> ?_)
 ·obtain⟨l10,v11⟩:=s;replace h:QI a1 l5 n6 l10 v11=some q:=h
  unfold QI at h
  obtain⟨h12,h⟩|⟨h12,h⟩:=Z1 h
  ·obtain⟨l60,h61,h⟩:=bo h
   obtain rfl:=oi h;exact rl [2,4,5,6,8,9] [0,1,2,3] [.t, .sum [2,4,5,6,8,9,10] [0,1,2,3] (.exit 2) [(2, .o 0),(4, .os 1 0),(5, .y false),(6, .os 2 n6),(8, .os 3 (Int.toNat (a1.ports.length:Int))),(9, .j v11)] [.box 31 (c31 a1) false, .n 3, .arr 221 l5 n6 false, .arr 3 l60 (Int.toNat (a1.ports.length:Int)) false]] (pc h12<|pc (ZfN _ _ h61)<|pn)
  ·obtain rfl:=oi h;exact rl [4,5,8] [1,3] [.f] (pc h12<|pn)
 ·exact Ex.noConfusion

theorem ZfP {a1:Z2} {a2:List Int} {r:((List Int)×Nat×Bool)} (h:Z3v a1 a2=some r):
  Z7 Tryz.prog UU 78 [.agg (c31 a1), .sl 3 a2] [] ((fun r=>match r with|(l69,n70,v71)=> .tup [.os 0 n70, .y v71]) r) ((fun r=>match r with|(l69,n70,v71)=> [.arr 3 l69 n70 false]) r):=by
 unfold Z3v at h
 obtain⟨r3,h4,h⟩:=bo h
 obtain⟨l5,n6,v7⟩:=r3
 obtain⟨h8,h⟩|⟨h8,h⟩:=Z1 h
 ·obtain rfl:=oi h;exact rf Tryz.func78 (some [3]) [.callo (.tup [.os 0 n6, .y v7]) [.arr 221 l5 n6 false], .t] (pc (Z7X h4)<|pc (Z7w l5)<|pc h8<|pn)
 ·obtain⟨h9,h⟩|⟨h9,h⟩:=Z1 h
  ·obtain⟨l66,h67,h⟩:=bo h
   obtain rfl:=oi h;exact rf Tryz.func78 (some [1]) [.callo (.tup [.os 0 n6, .y v7]) [.arr 221 l5 n6 false], .f, .obj [] (.arr 3 (List.replicate (Int.toNat (a1.ports.length:Int)) (0:Int)) (Int.toNat (a1.ports.length:Int)) false), .sum [2,4,5,6,8,9] [0,1,2,3] (.exit 0) [(4, .os 0 0),(5, .y false),(8, .os 1 (Int.toNat (a1.ports.length:Int)))] [.n 3, .arr 3 l66 (Int.toNat (a1.ports.length:Int)) false]] (pc (Z7X h4)<|pc (Z7w l5)<|pc h8<|pc (Tk 3 (0:Int) h9)<|pc (rn (Int.toNat (a1.ports.length:Int)))<|pc (ZfO _ _ h67)<|pn)
  ·cases h

theorem ZfQ {a1:List Int} {a2:List Int} {a3:Int} {a4:Int} :Zx Tryz.prog UU 0 68 (Zs (Zt Tryz.f79) [1,1,0,1,0,0]) (fun s:Int×Int×Int=>match s with|(v5,v6,v7)=>Ta a1 a2 a3 a4 v5 v6 v7)
  (fun s:Int×Int×Int=>(match s with|(v5,v6,v7)=> [(0, .sl 3 a1),(1, .sl 3 a2),(2, .j a3),(3, .j a4),(8, .o 0),(9, .o 1),(10, .j v7)]:Fr DD)) (fun s:Int×Int×Int=>(match s with|(v5,v6,v7)=> [.box 126 [.z, .z, .z] false, .box 126 [.j v5, .j (-1), .j v6] false]:Z3 DD)) (fun r=>match r with|(v26,v27)=> .exit 0) (fun r=>match r with|(v26,v27)=> [(0, .sl 3 a1),(2, .j a3),(8, .o 0),(9, .o 1)]) (fun r=>match r with|(v26,v27)=> [.box 126 [.z, .z, .z] false, .box 126 [.j v26, .j (-1), .j v27] false]):=by
 refine Zy (fun s q h=> ?_) (fun r=> ?_)
 ·obtain⟨v5,v6,v7⟩:=s;replace h:Ta a1 a2 a3 a4 v5 v6 v7=some q:=h
  unfold Ta at h
  obtain⟨h8,h⟩|⟨h8,h⟩:=Z1 h
  ·obtain⟨x9,h10,h⟩:=bo h
   obtain⟨h11,h⟩|⟨h11,h⟩:=Z1 h
   ·obtain rfl:=oi h;exact rl [0,1,2,3,8,9,10] [0,1] [.t, .row (c3 x9), .t] (pc h8<|pc (ob3 h10)<|pc h11<|pn)
   ·obtain⟨x12,h13,h⟩:=bo h
    obtain⟨r14,h15,h⟩:=bo h
    obtain⟨h16,h⟩|⟨h16,h⟩:=Z1 h
    ·obtain rfl:=oi h;exact rl [0,1,2,3,8,9,10] [0,1] [.t, .row (c3 x9), .f, .row (c3 x12), .b r14, .t] (pc h8<|pc (ob3 h10)<|pc h11<|pc (ob3 h13)<|pc (VS h15)<|pc h16<|pn)
    ·obtain⟨h17,h⟩|⟨h17,h⟩:=Z1 h
     ·obtain rfl:=oi h;exact rl [0,1,2,3,8,9,10] [0,1] [.t, .row (c3 x9), .f, .row (c3 x12), .b r14, .f, .t] (pc h8<|pc (ob3 h10)<|pc h11<|pc (ob3 h13)<|pc (VS h15)<|pc h16<|pc h17<|pn)
     ·obtain rfl:=oi h;exact rl [0,1,2,3,8,9,10] [0,1] [.t, .row (c3 x9), .f, .row (c3 x12), .b r14, .f, .f] (pc h8<|pc (ob3 h10)<|pc h11<|pc (ob3 h13)<|pc (VS h15)<|pc h16<|pc h17<|pn)
  ·obtain rfl:=oi h;exact rl [0,2,8,9] [0,1] [.f] (pc h8<|pn)
 ·exact Ex.noConfusion

theorem ZfR {a1:List Int} {a3:Int} {v26:Int} {v27:Int} :Zx Tryz.prog UU 0 68 (Zs (Zt Tryz.f79) [1,1,1,0,1,0,0]) (fun s:Int×Int=>match s with|(v30,v31)=>VN a1 a3 v26 v27 v30 v31)
  (fun s:Int×Int=>(match s with|(v30,v31)=> [(0, .sl 3 a1),(2, .j a3),(8, .o 0),(9, .o 1),(11, .j v31)]:Fr DD)) (fun s:Int×Int=>(match s with|(v30,v31)=> [.box 126 [.z, .z, .z] false, .box 126 [.j v26, .j v30, .j v27] false]:Z3 DD)) (fun r=>match r with|v40=> .exit 2) (fun r=>match r with|v40=> [(8, .o 0),(9, .o 1)]) (fun r=>match r with|v40=> [.box 126 [.z, .z, .z] false, .box 126 [.j v26, .j v40, .j v27] false]):=by
 refine Zy (fun s q h=> ?_) (fun r=> ?_)
 ·obtain⟨v30,v31⟩:=s;replace h:VN a1 a3 v26 v27 v30 v31=some q:=h
  unfold VN at h
  obtain⟨h32,h⟩|⟨h32,h⟩:=Z1 h
  ·obtain⟨h33,h⟩|⟨h33,h⟩:=Z1 h
   ·obtain⟨x34,h35,h⟩:=bo h
    obtain⟨h36,h⟩|⟨h36,h⟩:=Z1 h
    ·obtain⟨h37,h⟩|⟨h37,h⟩:=Z1 h
     ·obtain rfl:=oi h;exact rl [0,2,8,9,11] [0,1] [.t, .t, .row (c3 x34), .t, .t] (pc h32<|pc h33<|pc (ob3 h35)<|pc h36<|pc h37<|pn)
     ·obtain rfl:=oi h;exact rl [0,2,8,9,11] [0,1] [.t, .t, .row (c3 x34), .t, .f] (pc h32<|pc h33<|pc (ob3 h35)<|pc h36<|pc h37<|pn)
    ·obtain rfl:=oi h;exact rl [0,2,8,9,11] [0,1] [.t, .t, .row (c3 x34), .f] (pc h32<|pc h33<|pc (ob3 h35)<|pc h36<|pn)
   ·obtain rfl:=oi h;exact rl [8,9] [0,1] [.t, .f] (pc h32<|pc h33<|pn)
  ·obtain rfl:=oi h;exact rl [8,9] [0,1] [.f] (pc h32<|pn)
 ·exact Ex.noConfusion

theorem ZfS {a1:List Int} {a2:List Int} {a3:Int} {a4:Int} {r:ZJ} (h:Z3w a1 a2 a3 a4=some r):
  Z7 Tryz.prog UU 79 [.sl 3 a1, .sl 3 a2, .j a3, .j a4] [] (.agg (Ui r)) []:=by
 unfold Z3w at h
 obtain⟨r29,h28,h⟩:=bo h
 obtain⟨v26,v27⟩:=r29
 obtain⟨v40,h41,h⟩:=bo h
 obtain rfl:=oi h;exact rf Tryz.func79 none [.sum [0,1,2,3,8,9,10] [0,1] (.exit 0) [(0, .sl 3 a1),(2, .j a3),(8, .o 0),(9, .o 1)] [.box 126 [.z, .z, .z] false, .box 126 [.j v26, .j (-1), .j v27] false], .sum [0,2,8,9,11] [0,1] (.exit 2) [(8, .o 0),(9, .o 1)] [.box 126 [.z, .z, .z] false, .box 126 [.j v26, .j v40, .j v27] false]] (pc (ZfQ _ _ h28)<|pc (ZfR _ _ h41)<|pn)

theorem Zb5 {a1:Z2} {a2:List Int} {a3:Int} :Zx Tryz.prog UU 0 68 (Zs (Zt Tryz.f25) [1,1,0,1,0,0]) (ρ:=Unit⊕Unit) (Tb a1 a2 a3)
  (fun v9:Int=>([(1, .sl 3 a2),(2, .j a3),(3, .o 0),(6, .os 1 0),(7, .y false),(8, .j v9)]:Fr DD)) (fun v9:Int=>([.box 31 (c31 a1) false, .n 125]:Z3 DD)) (fun r=>match r with|Sum.inl _=> .ret|Sum.inr _=> .exit 0) (fun r=>match r with|Sum.inl _=> [(6, .os 0 0),(7, .y false)]|Sum.inr _=> [(1, .sl 3 a2),(2, .j a3),(3, .o 0),(6, .os 1 0),(7, .y false)]) (fun r=>match r with|Sum.inl _=> [.n 125]|Sum.inr _=> [.box 31 (c31 a1) false, .n 125]):=by
 refine Zy (fun s q h=> ?_) (fun r=> ?_)
 ·replace h:Tb a1 a2 a3 s=some q:=h;revert h;revert s;intro v9 h
  unfold Tb at h
  obtain⟨h10,h⟩|⟨h10,h⟩:=Z1 h
  ·obtain⟨x11,h12,h⟩:=bo h
   obtain⟨h13,h⟩|⟨h13,h⟩:=Z1 h
   ·obtain rfl:=oi h;exact rl [6,7] [2] [.t, .row (c3 x11), .t] (pc h10<|pc (ob3 h12)<|pc h13<|pn)
   ·obtain rfl:=oi h;exact rl [1,2,3,6,7,8] [0,1] [.t, .row (c3 x11), .f] (pc h10<|pc (ob3 h12)<|pc h13<|pn)
  ·obtain rfl:=oi h;exact rl [1,2,3,6,7] [0,1] [.f] (pc h10<|pn)
 ·rcases r with _|_ <;> exact Ex.noConfusion

theorem ZfT {a2:List Int} {a3:Int} {l18:List Int} {n19:Nat} {l21:List (List ZJ)} {v22:Int} :Zx Tryz.prog UU 0 68 (Zs (Zt Tryz.f25) [1,1,1,1,1,0,1,0,0,1,0,0,1,0,1,0,0]) (fun s:(List ZJ)×Int=>match s with|(l24,v25)=>Tc a2 a3 l18 n19 l21 v22 l24 v25)
  (fun s:(List ZJ)×Int=>(match s with|(l24,v25)=> [(1, .sl 3 a2),(2, .j a3),(6, .os 0 0),(7, .y false),(9, .os 1 n19),(11, .os 2 l21.length),(12, .j v22),(13, .os 3 l24.length),(14, .j v25)]:Fr DD)) (fun s:(List ZJ)×Int=>(match s with|(l24,v25)=> [.n 125, .arr 3 l18 n19 false, .w 125 l21, .w 126 l24]:Z3 DD)) (fun r=>match r with|l38=> .exit 4) (fun r=>match r with|l38=> [(1, .sl 3 a2),(2, .j a3),(6, .os 0 0),(7, .y false),(9, .os 1 n19),(11, .os 2 l21.length),(12, .j v22),(13, .os 3 l38.length)]) (fun r=>match r with|l38=> [.n 125, .arr 3 l18 n19 false, .w 125 l21, .w 126 l38]):=by
 refine Zy (fun s q h=> ?_) (fun r=> ?_)
 ·obtain⟨l24,v25⟩:=s;replace h:Tc a2 a3 l18 n19 l21 v22 l24 v25=some q:=h
  unfold Tc at h
  obtain⟨h26,h⟩|⟨h26,h⟩:=Z1 h
  ·obtain⟨r27,h28,h⟩:=bo h
   obtain⟨h29,h⟩|⟨h29,h⟩:=Z1 h
   ·obtain rfl:=oi h;exact rl [1,2,6,7,9,11,12,13,14] [0,1,2,3] [.t, .callv (.agg (Ui r27)), .obj [] (.w 126 [r27]), .obj [] (.w 126 (l24++ [r27]))] (pc h26<|pc (ZfS h28)<|pc (rn n19)<|pc (Yk 126 [r27])<|pc (YR 126 (n:=l24.length) (l:=l24) (xs:= [r27]) h29)<|pc (rn (List.length [r27]))<|pn)
   ·cases h
  ·obtain rfl:=oi h;exact rl [1,2,6,7,9,11,12,13] [0,1,2,3] [.f] (pc h26<|pn)
 ·exact Ex.noConfusion

theorem ZfU {a2:List Int} {a3:Int} {l18:List Int} {n19:Nat} :Zx Tryz.prog UU 0 68 (Zs (Zt Tryz.f25) [1,1,1,1,1,0,1,0,0]) (fun s:(List (List ZJ))×Int=>match s with|(l21,v22)=>Td a2 a3 l18 n19 l21 v22)
  (fun s:(List (List ZJ))×Int=>(match s with|(l21,v22)=> [(1, .sl 3 a2),(2, .j a3),(6, .os 0 0),(7, .y false),(9, .os 1 n19),(11, .os 2 l21.length),(12, .j v22)]:Fr DD)) (fun s:(List (List ZJ))×Int=>(match s with|(l21,v22)=> [.n 125, .arr 3 l18 n19 false, .w 125 l21]:Z3 DD)) (fun r=>match r with|l45=> .exit 2) (fun r=>match r with|l45=> [(6, .os 0 0),(7, .y false),(11, .os 1 l45.length)]) (fun r=>match r with|l45=> [.n 125, .w 125 l45]):=by
 refine Zy (fun s q h=> ?_) (fun r=> ?_)
 ·obtain⟨l21,v22⟩:=s;replace h:Td a2 a3 l18 n19 l21 v22=some q:=h
  unfold Td at h
  obtain⟨h23,h⟩|⟨h23,h⟩:=Z1 h
  ·obtain⟨l38,h39,h⟩:=bo h
   obtain⟨h41,h⟩|⟨h41,h⟩:=Z1 h
   ·obtain rfl:=oi h;exact rl [1,2,6,7,9,11,12] [0,1,2] [.t, .sum [1,2,6,7,9,11,12,13,14] [0,1,2,3] (.exit 4) [(1, .sl 3 a2),(2, .j a3),(6, .os 0 0),(7, .y false),(9, .os 1 n19),(11, .os 2 l21.length),(12, .j v22),(13, .os 3 l38.length)] [.n 125, .arr 3 l18 n19 false, .w 125 l21, .w 126 l38], .obj [3] (.w 125 [l38]), .obj [] (.w 125 (l21++ [l38]))] (pc h23<|pc (ZfT _ _ h39)<|pc (Yk 125 [l38])<|pc (rn l38.length)<|pc (YR 125 (n:=l21.length) (l:=l21) (xs:= [l38]) h41)<|pc (rn (List.length [l38]))<|pn)
   ·cases h
  ·obtain rfl:=oi h;exact rl [6,7,11] [0,2] [.f] (pc h23<|pn)
 ·exact Ex.noConfusion

theorem Z3R {a1:Z2} {a2:List Int} {a3:Int} {r:((List (List ZJ))×Bool)} (h:Z3x a1 a2 a3=some r):
  Z7 Tryz.prog UU 25 [.agg (c31 a1), .sl 3 a2, .j a3] [] ((fun r=>match r with|(l48,v49)=> .tup [.os 0 l48.length, .y v49]) r) ((fun r=>match r with|(l48,v49)=> [.w 125 l48]) r):=by
 unfold Z3x at h
 obtain⟨r4,h5,h⟩:=bo h
 obtain⟨h6,h⟩|⟨h6,h⟩:=Z1 h
 ·obtain rfl:=oi h;exact rf Tryz.func25 (some [2]) [.b r4, .t] (pc (Vq h5)<|pc h6<|pn)
 ·obtain⟨h7,h⟩|⟨h7,h⟩:=Z1 h
  ·obtain rfl:=oi h;exact rf Tryz.func25 (some [2]) [.b r4, .f, .t] (pc (Vq h5)<|pc h6<|pc h7<|pn)
  ·obtain⟨h8,h⟩|⟨h8,h⟩:=Z1 h
   ·obtain rfl:=oi h;exact rf Tryz.func25 (some [2]) [.b r4, .f, .f, .t] (pc (Vq h5)<|pc h6<|pc h7<|pc h8<|pn)
   ·obtain⟨r15,h14,h⟩:=bo h
    rcases r15 with _|_
    ·obtain rfl:=oi h;exact rf Tryz.func25 (some [0]) [.b r4, .f, .f, .f, .sum [1,2,3,6,7,8] [0,1] .ret [(6, .os 0 0),(7, .y false)] [.n 125]] (pc (Vq h5)<|pc h6<|pc h7<|pc h8<|pc (Zb5 _ _ h14)<|pn)
    ·obtain⟨r16,h17,h⟩:=bo h
     obtain⟨l18,n19,v20⟩:=r16
     obtain⟨l45,h46,h⟩:=bo h
     obtain rfl:=oi h;exact rf Tryz.func25 (some [1]) [.b r4, .f, .f, .f, .sum [1,2,3,6,7,8] [0,1] (.exit 0) [(1, .sl 3 a2),(2, .j a3),(3, .o 0),(6, .os 1 0),(7, .y false)] [.box 31 (c31 a1) false, .n 125], .callo (.tup [.os 0 n19, .y v20]) [.arr 3 l18 n19 false], .sum [1,2,6,7,9,11,12] [1,2,3] (.exit 2) [(6, .os 0 0),(7, .y false),(11, .os 1 l45.length)] [.n 125, .w 125 l45]] (pc (Vq h5)<|pc h6<|pc h7<|pc h8<|pc (Zb5 _ _ h14)<|pc (ZfP h17)<|pc (im3 l18)<|pc (ZfU _ _ h46)<|pn)

theorem Zb6 {a1:ByteArray} :Zx Tryz.prog UU 0 50 (Zs (Zt Tryz.f169) [1,1,0,1,0,0]) (ρ:=Unit⊕Unit) (QJ a1)
  (fun v7:Int=>([(0, .x a1),(2, .y false),(3, .j v7)]:Fr DD)) (fun v7:Int=>([]:Z3 DD)) (fun r=>match r with|Sum.inl _=> .ret|Sum.inr _=> .exit 0) (fun r=>match r with|Sum.inl _=> [(2, .y false)]|Sum.inr _=> [(2, .y false)]) (fun r=>match r with|Sum.inl _=> []|Sum.inr _=> []):=by
 refine Zy (fun s q h=> ?_) (fun r=> ?_)
 ·replace h:QJ a1 s=some q:=h;revert h;revert s;intro v7 h
  unfold QJ at h
  obtain⟨h8,h⟩|⟨h8,h⟩:=Z1 h
  ·obtain⟨h9,h⟩|⟨h9,h⟩:=Z1 h
   ·obtain⟨h10,h⟩|⟨h10,h⟩:=Z1 h
    ·obtain⟨h11,h⟩|⟨h11,h⟩:=Z1 h
     ·obtain rfl:=oi h;exact rl [2] [] [.t, .t, .t] (pc h8<|pc (of_decide_eq_true h9)<|pc h10<|pc (of_decide_eq_true h9)<|pc h11<|pn)
     ·obtain⟨h12,h⟩|⟨h12,h⟩:=Z1 h
      ·obtain rfl:=oi h;exact rl [2] [] [.t, .t, .f, .t] (pc h8<|pc (of_decide_eq_true h9)<|pc h10<|pc (of_decide_eq_true h9)<|pc h11<|pc (of_decide_eq_true h9)<|pc h12<|pn)
      ·obtain rfl:=oi h;exact rl [0,2,3] [] [.t, .t, .f, .f] (pc h8<|pc (of_decide_eq_true h9)<|pc h10<|pc (of_decide_eq_true h9)<|pc h11<|pc (of_decide_eq_true h9)<|pc h12<|pn)
    ·obtain⟨h13,h⟩|⟨h13,h⟩:=Z1 h
     ·obtain⟨h14,h⟩|⟨h14,h⟩:=Z1 h
      ·obtain rfl:=oi h;exact rl [2] [] [.t, .f, .t, .t] (pc h8<|pc (of_decide_eq_true h9)<|pc h10<|pc (of_decide_eq_true h9)<|pc h13<|pc (of_decide_eq_true h9)<|pc h14<|pn)
      ·obtain⟨h15,h⟩|⟨h15,h⟩:=Z1 h
       ·obtain rfl:=oi h;exact rl [2] [] [.t, .f, .t, .f, .t] (pc h8<|pc (of_decide_eq_true h9)<|pc h10<|pc (of_decide_eq_true h9)<|pc h13<|pc (of_decide_eq_true h9)<|pc h14<|pc (of_decide_eq_true h9)<|pc h15<|pn)
       ·obtain rfl:=oi h;exact rl [0,2,3] [] [.t, .f, .t, .f, .f] (pc h8<|pc (of_decide_eq_true h9)<|pc h10<|pc (of_decide_eq_true h9)<|pc h13<|pc (of_decide_eq_true h9)<|pc h14<|pc (of_decide_eq_true h9)<|pc h15<|pn)
     ·obtain rfl:=oi h;exact rl [0,2,3] [] [.t, .f, .f] (pc h8<|pc (of_decide_eq_true h9)<|pc h10<|pc (of_decide_eq_true h9)<|pc h13<|pn)
   ·cases h
  ·obtain rfl:=oi h;exact rl [2] [] [.f] (pc h8<|pn)
 ·rcases r with _|_ <;> exact Ex.noConfusion

theorem Zb7 {a1:ByteArray} {r:Bool} (h:Z3y a1=some r):
  Z7 Tryz.prog UU 169 [.x a1] [] (.y r) []:=by
 unfold Z3y at h
 obtain⟨h2,h⟩|⟨h2,h⟩:=Z1 h
 ·obtain rfl:=oi h;exact rf Tryz.func169 none [.t] (pc h2<|pn)
 ·obtain⟨h3,h⟩|⟨h3,h⟩:=Z1 h
  ·obtain rfl:=oi h;exact rf Tryz.func169 none [.f, .t] (pc h2<|pc h3<|pn)
  ·obtain⟨h4,h⟩|⟨h4,h⟩:=Z1 h
   ·obtain⟨h5,h⟩|⟨h5,h⟩:=Z1 h
    ·obtain rfl:=oi h;exact rf Tryz.func169 none [.f, .f, .t] (pc h2<|pc h3<|pc (of_decide_eq_true h4)<|pc h5<|pn)
    ·obtain⟨h6,h⟩|⟨h6,h⟩:=Z1 h
     ·obtain rfl:=oi h;exact rf Tryz.func169 none [.f, .f, .f, .t] (pc h2<|pc h3<|pc (of_decide_eq_true h4)<|pc h5<|pc (of_decide_eq_true h4)<|pc h6<|pn)
     ·obtain⟨r17,h16,h⟩:=bo h
      rcases r17 with _|_
      ·obtain rfl:=oi h;exact rf Tryz.func169 none [.f, .f, .f, .f, .sum [0,2,3] [] .ret [(2, .y false)] []] (pc h2<|pc h3<|pc (of_decide_eq_true h4)<|pc h5<|pc (of_decide_eq_true h4)<|pc h6<|pc (Zb6 _ _ h16)<|pn)
      ·obtain rfl:=oi h;exact rf Tryz.func169 none [.f, .f, .f, .f, .sum [0,2,3] [] (.exit 0) [(2, .y false)] []] (pc h2<|pc h3<|pc (of_decide_eq_true h4)<|pc h5<|pc (of_decide_eq_true h4)<|pc h6<|pc (Zb6 _ _ h16)<|pn)
   ·cases h

theorem Zb8 {a1:List ByteArray} :Zx Tryz.prog UU 0 16 (Zs (Zt Tryz.f87) [1,0,1,0,0]) (ρ:=Unit⊕Unit) (QK a1)
  (fun v2:Int=>([(0, .sl 9 a1),(2, .y false),(3, .j v2)]:Fr DD)) (fun v2:Int=>([]:Z3 DD)) (fun r=>match r with|Sum.inl _=> .ret|Sum.inr _=> .exit 0) (fun r=>match r with|Sum.inl _=> [(2, .y false)]|Sum.inr _=> [(2, .y false)]) (fun r=>match r with|Sum.inl _=> []|Sum.inr _=> []):=by
 refine Zy (fun s q h=> ?_) (fun r=> ?_)
 ·replace h:QK a1 s=some q:=h;revert h;revert s;intro v2 h
  unfold QK at h
  obtain⟨h3,h⟩|⟨h3,h⟩:=Z1 h
  ·obtain⟨x4,h5,h⟩:=bo h
   obtain⟨r6,h7,h⟩:=bo h
   obtain⟨h8,h⟩|⟨h8,h⟩:=Z1 h
   ·obtain rfl:=oi h;exact rl [2] [] [.t, .row (c9 x4), .b r6, .t] (pc h3<|pc (ob9 h5)<|pc (Zb7 h7)<|pc h8<|pn)
   ·obtain rfl:=oi h;exact rl [0,2,3] [] [.t, .row (c9 x4), .b r6, .f] (pc h3<|pc (ob9 h5)<|pc (Zb7 h7)<|pc h8<|pn)
  ·obtain rfl:=oi h;exact rl [2] [] [.f] (pc h3<|pn)
 ·rcases r with _|_ <;> exact Ex.noConfusion

theorem Zb9 {a1:List ByteArray} {r:Bool} (h:Z3z a1=some r):
  Z7 Tryz.prog UU 87 [.sl 9 a1] [] (.y r) []:=by
 unfold Z3z at h
 obtain⟨r10,h9,h⟩:=bo h
 rcases r10 with _|_
 ·obtain rfl:=oi h;exact rf Tryz.func87 none [.sum [0,2,3] [] .ret [(2, .y false)] []] (pc (Zb8 _ _ h9)<|pn)
 ·obtain rfl:=oi h;exact rf Tryz.func87 none [.sum [0,2,3] [] (.exit 0) [(2, .y false)] []] (pc (Zb8 _ _ h9)<|pn)

theorem Zba {a3:Int} {l6:List Y1} {n7:Nat} {l9:List Int} {l10:List Int} {v11:Int} {r:(List Int)} (h:Z3A a3 l6 n7 l9 l10 v11=some r):
  YE Tryz.prog UU 0 49 (Zs (Zt Tryz.f88) [1,1,1,1,0,1,0,0,1,0,0,0]) [(2, .j a3),(6, .os 0 0),(7, .os 1 0),(8, .os 2 n7),(10, .os 3 l9.length),(11, .os 4 l10.length),(12, .j v11)] [.n 3, .n 3, .arr 221 l6 n7 false, .w 3 l9, .w 3 l10] ((fun r=>match r with|l27=> .nor) r) ((fun r=>match r with|l27=> [(2, .j a3),(6, .os 0 0),(7, .os 1 0),(8, .os 2 n7),(10, .os 3 l27.length),(11, .os 4 l10.length),(12, .j v11)]) r) ((fun r=>match r with|l27=> [.n 3, .n 3, .arr 221 l6 n7 false, .w 3 l27, .w 3 l10]) r):=by
 unfold Z3A at h
 obtain⟨h13,h⟩|⟨h13,h⟩:=Z1 h
 ·obtain⟨x14,h15,h⟩:=bo h
  obtain⟨r16,h17,h⟩:=bo h
  obtain⟨h18,h⟩|⟨h18,h⟩:=Z1 h
  ·obtain⟨h19,h⟩|⟨h19,h⟩:=Z1 h
   ·obtain rfl:=oi h;exact rl [2,6,7,8,10,11,12] [0,1,2,3,4] [.row (WD x14), .b r16, .t, .obj [] (.w 3 [v11]), .obj [] (.w 3 (l9++ [v11]))] (pc (an n7 (Zz h13))<|pc (rn n7)<|pc (an n7 (Vo h15))<|pc (VS h17)<|pc h18<|pc (Yk 3 [v11])<|pc (YR 3 (n:=l9.length) (l:=l9) (xs:= [v11]) h19)<|pc (rn (List.length [v11]))<|pn)
   ·cases h
  ·obtain rfl:=oi h;exact rl [2,6,7,8,10,11,12] [0,1,2,3,4] [.row (WD x14), .b r16, .f] (pc (an n7 (Zz h13))<|pc (rn n7)<|pc (an n7 (Vo h15))<|pc (VS h17)<|pc h18<|pn)
 ·cases h

theorem ZfV {a3:Int} {l6:List Y1} {n7:Nat} :Zx Tryz.prog UU 0 49 (Zs (Zt Tryz.f88) [1,1,1,1,0,1,0,0]) (fun s:(List Int)×(List Int)×Int=>match s with|(l9,l10,v11)=>Te a3 l6 n7 l9 l10 v11)
  (fun s:(List Int)×(List Int)×Int=>(match s with|(l9,l10,v11)=> [(2, .j a3),(6, .os 0 0),(7, .os 1 0),(8, .os 2 n7),(10, .os 3 l9.length),(11, .os 4 l10.length),(12, .j v11)]:Fr DD)) (fun s:(List Int)×(List Int)×Int=>(match s with|(l9,l10,v11)=> [.n 3, .n 3, .arr 221 l6 n7 false, .w 3 l9, .w 3 l10]:Z3 DD)) (fun r=>match r with|(l45,l46)=> .exit 0) (fun r=>match r with|(l45,l46)=> [(6, .os 0 0),(7, .os 1 0),(10, .os 2 l45.length),(11, .os 3 l46.length)]) (fun r=>match r with|(l45,l46)=> [.n 3, .n 3, .w 3 l45, .w 3 l46]):=by
 refine Zy (fun s q h=> ?_) (fun r=> ?_)
 ·obtain⟨l9,l10,v11⟩:=s;replace h:Te a3 l6 n7 l9 l10 v11=some q:=h
  unfold Te at h
  obtain⟨h12,h⟩|⟨h12,h⟩:=Z1 h
  ·obtain⟨l27,h28,h⟩:=bo h
   obtain⟨h30,h⟩|⟨h30,h⟩:=Z1 h
   ·obtain⟨x31,h32,h⟩:=bo h
    obtain⟨r33,h34,h⟩:=bo h
    obtain⟨h35,h⟩|⟨h35,h⟩:=Z1 h
    ·obtain⟨h36,h⟩|⟨h36,h⟩:=Z1 h
     ·obtain rfl:=oi h;exact rl [2,6,7,8,10,11,12] [0,1,2,3,4] [.t, .skp, .cut [2,6,7,8,10,11,12] [0,1,2,3,4] .nor [(2, .j a3),(6, .os 0 0),(7, .os 1 0),(8, .os 2 n7),(10, .os 3 l27.length),(11, .os 4 l10.length),(12, .j v11)] [.n 3, .n 3, .arr 221 l6 n7 false, .w 3 l27, .w 3 l10], .row (WD x31), .b r33, .t, .obj [] (.w 3 [v11]), .obj [] (.w 3 (l10++ [v11]))] (pc (rn n7)<|pc h12<|pc (Zba h28)<|pc (an n7 (Zz h30))<|pc (rn n7)<|pc (an n7 (Vo h32))<|pc (VS h34)<|pc h35<|pc (Yk 3 [v11])<|pc (YR 3 (n:=l10.length) (l:=l10) (xs:= [v11]) h36)<|pc (rn (List.length [v11]))<|pn)
     ·cases h
    ·obtain rfl:=oi h;exact rl [2,6,7,8,10,11,12] [0,1,2,3,4] [.t, .skp, .cut [2,6,7,8,10,11,12] [0,1,2,3,4] .nor [(2, .j a3),(6, .os 0 0),(7, .os 1 0),(8, .os 2 n7),(10, .os 3 l27.length),(11, .os 4 l10.length),(12, .j v11)] [.n 3, .n 3, .arr 221 l6 n7 false, .w 3 l27, .w 3 l10], .row (WD x31), .b r33, .f] (pc (rn n7)<|pc h12<|pc (Zba h28)<|pc (an n7 (Zz h30))<|pc (rn n7)<|pc (an n7 (Vo h32))<|pc (VS h34)<|pc h35<|pn)
   ·cases h
  ·obtain rfl:=oi h;exact rl [6,7,10,11] [0,1,3,4] [.f] (pc (rn n7)<|pc h12<|pn)
 ·exact Ex.noConfusion

theorem ZfW {a1:Z2} {a2:List Int} {a3:Int} {r:((List Int)×(List Int))} (h:Z1k a1 a2 a3=some r):
  Z7 Tryz.prog UU 88 [.agg (c31 a1), .sl 3 a2, .j a3] [] ((fun r=>match r with|(l49,l50)=> .tup [.os 0 l49.length, .os 1 l50.length]) r) ((fun r=>match r with|(l49,l50)=> [.w 3 l49, .w 3 l50]) r):=by
 unfold Z1k at h
 obtain⟨r4,h5,h⟩:=bo h
 obtain⟨l6,n7,v8⟩:=r4
 obtain⟨r48,h47,h⟩:=bo h
 obtain⟨l45,l46⟩:=r48
 obtain rfl:=oi h;exact rf Tryz.func88 (some [2,3]) [.callo (.tup [.os 0 n7, .y v8]) [.arr 221 l6 n7 false], .sum [2,6,7,8,10,11,12] [1,2,3,4,5] (.exit 0) [(6, .os 0 0),(7, .os 1 0),(10, .os 2 l45.length),(11, .os 3 l46.length)] [.n 3, .n 3, .w 3 l45, .w 3 l46]] (pc (Z7X h5)<|pc (Z7w l6)<|pc (ZfV _ _ h47)<|pn)

theorem ZfX:Zx Tryz.prog UU 0 23 (Zs (Zt Tryz.f171) [1,1,0,0,0]) (fun s:Int×ByteArray=>match s with|(v2,v3)=>QL v2 v3)
  (fun s:Int×ByteArray=>(match s with|(v2,v3)=> [(0, .v (.int .u64 v2)),(2, .e),(3, .x v3)]:Fr DD)) (fun s:Int×ByteArray=>(match s with|(v2,v3)=> []:Z3 DD)) (fun r=>match r with|(v8,v9)=> .exit 0) (fun r=>match r with|(v8,v9)=> [(0, .v (.int .u64 v8)),(2, .e),(3, .x v9)]) (fun r=>match r with|(v8,v9)=> []):=by
 refine Zy (fun s q h=> ?_) (fun r=> ?_)
 ·obtain⟨v2,v3⟩:=s;replace h:QL v2 v3=some q:=h
  unfold QL at h
  obtain⟨h4,h⟩|⟨h4,h⟩:=Z1 h
  ·obtain⟨h5,h⟩|⟨h5,h⟩:=Z1 h
   ·obtain rfl:=oi h;exact rl [0,2,3] [] [.t, .obj [] (.w 5 [(Xc (Y0 (48+(Int.tmod v2 10))):Int)]), .callv (.v (.string (Yu [(Xc (Y0 (48+(Int.tmod v2 10))):Int)])))] (pc h4<|pc (show(10:Int)≠0 from by decide)<|pc (Yk 5 [(Xc (Y0 (48+(Int.tmod v2 10))):Int)])<|pc (Z7y [(Xc (Y0 (48+(Int.tmod v2 10))):Int)])<|pc (rn (List.length [(Xc (Y0 (48+(Int.tmod v2 10))):Int)]))<|pc (of_decide_eq_true h5)<|pc (show(10:Int)≠0 from by decide)<|pn)
   ·cases h
  ·obtain rfl:=oi h;exact rl [0,2,3] [] [.f] (pc h4<|pn)
 ·exact Ex.noConfusion

theorem Zbb {a1:Int} {r:ByteArray} (h:Z1l a1=some r):
  Z7 Tryz.prog UU 171 [.v (.int .u64 a1)] [] (.x r) []:=by
 unfold Z1l at h
 obtain⟨r11,h10,h⟩:=bo h
 obtain⟨v8,v9⟩:=r11
 obtain⟨h12,h⟩|⟨h12,h⟩:=Z1 h
 ·obtain rfl:=oi h;exact rf Tryz.func171 none [.sum [0,2,3] [] (.exit 0) [(0, .v (.int .u64 v8)),(2, .e),(3, .x v9)] [], .obj [] (.w 5 [(Xc (Y0 (48+v8)):Int)]), .callv (.v (.string (Yu [(Xc (Y0 (48+v8)):Int)])))] (pc (ZfX _ _ h10)<|pc (Yk 5 [(Xc (Y0 (48+v8)):Int)])<|pc (Z7y [(Xc (Y0 (48+v8)):Int)])<|pc (rn (List.length [(Xc (Y0 (48+v8)):Int)]))<|pc (of_decide_eq_true h12)<|pn)
 ·cases h

theorem ZfY {a1:Int} {r:ByteArray} (h:Z3B a1=some r):
  Z7 Tryz.prog UU 93 [.j a1] [] (.x r) []:=by
 unfold Z3B at h
 obtain⟨h2,h⟩|⟨h2,h⟩:=Z1 h
 ·obtain⟨r3,h4,h⟩:=bo h
  obtain⟨h5,h⟩|⟨h5,h⟩:=Z1 h
  ·obtain rfl:=oi h;exact rf Tryz.func93 none [.t, .callv (.x r3)] (pc h2<|pc (Zbb h4)<|pc (of_decide_eq_true h5)<|pn)
  ·cases h
 ·obtain⟨r6,h7,h⟩:=bo h
  obtain rfl:=oi h;exact rf Tryz.func93 none [.f, .callv (.x r6)] (pc h2<|pc (Zbb h7)<|pn)

theorem Zbc {a1:Z2} {a2:Int} {r:ByteArray} (h:Z1m a1 a2=some r):
  Z7 Tryz.prog UU 89 [.agg (c31 a1), .j a2] [] (.x r) []:=by
 unfold Z1m at h
 obtain⟨r3,h4,h⟩:=bo h
 obtain⟨h5,h⟩|⟨h5,h⟩:=Z1 h
 ·obtain rfl:=oi h;exact rf Tryz.func89 none [.b r3, .t] (pc (ZB h4)<|pc h5<|pn)
 ·obtain⟨x6,h7,h⟩:=bo h
  obtain⟨x8,h9,h⟩:=bo h
  obtain⟨h10,h⟩|⟨h10,h⟩:=Z1 h
  ·obtain⟨r11,h12,h⟩:=bo h
   obtain⟨h13,h⟩|⟨h13,h⟩:=Z1 h
   ·obtain rfl:=oi h;exact rf Tryz.func89 none [.b r3, .f, .row (c90 x6), .row (c56 x8), .callv (.x r11)] (pc (ZB h4)<|pc h5<|pc (ZI h7)<|pc (VO h9)<|pc (of_decide_eq_true h10)<|pc (ZfY h12)<|pc (of_decide_eq_true h13)<|pn)
   ·cases h
  ·cases h

theorem ZfZ {a1:Z2} {a2:List Int} {a3:List ByteArray} {v12:Int} {l20:List Int} {l21:List Int} :Zx Tryz.prog UU 0 86 (Zs (Zt Tryz.f27) [1,1,1,0,1,0,0,1,0,0,1,1,0,1,0,0]) (fun s:ByteArray×Int=>match s with|(v22,v23)=>Tf a1 a2 a3 v12 l20 l21 v22 v23)
  (fun s:ByteArray×Int=>(match s with|(v22,v23)=> [(1, .sl 3 a2),(2, .sl 9 a3),(3, .o 0),(6, .e),(7, .z),(8, .x v22),(9, .j v12),(10, .os 1 l20.length),(11, .os 2 l21.length),(12, .j v23)]:Fr DD)) (fun s:ByteArray×Int=>(match s with|(v22,v23)=> [.box 31 (c31 a1) false, .w 3 l20, .w 3 l21]:Z3 DD)) (fun r=>match r with|v33=> .exit 2) (fun r=>match r with|v33=> [(1, .sl 3 a2),(2, .sl 9 a3),(3, .o 0),(6, .e),(7, .z),(8, .x v33),(9, .j v12),(11, .os 1 l21.length)]) (fun r=>match r with|v33=> [.box 31 (c31 a1) false, .w 3 l21]):=by
 refine Zy (fun s q h=> ?_) (fun r=> ?_)
 ·obtain⟨v22,v23⟩:=s;replace h:Tf a1 a2 a3 v12 l20 l21 v22 v23=some q:=h
  unfold Tf at h
  obtain⟨h24,h⟩|⟨h24,h⟩:=Z1 h
  ·obtain⟨h25,h⟩|⟨h25,h⟩:=Z1 h
   ·obtain⟨h26,h⟩|⟨h26,h⟩:=Z1 h
    ·obtain⟨x27,h28,h⟩:=bo h
     obtain⟨r29,h30,h⟩:=bo h
     obtain⟨h31,h⟩|⟨h31,h⟩:=Z1 h
     ·obtain rfl:=oi h;exact rl [1,2,3,6,7,8,9,10,11,12] [0,1,2] [.t, .row (c3 x27), .callv (.x r29)] (pc (rn l20.length)<|pc h24<|pc (of_decide_eq_true h25)<|pc (an l20.length (Zz h26))<|pc (an l20.length (YV h28))<|pc (Zbc h30)<|pc (of_decide_eq_true h31)<|pn)
     ·cases h
    ·cases h
   ·cases h
  ·obtain rfl:=oi h;exact rl [1,2,3,6,7,8,9,11] [0,2] [.f] (pc (rn l20.length)<|pc h24<|pn)
 ·exact Ex.noConfusion

theorem Zg0 {a1:Z2} {a2:List Int} {a3:List ByteArray} {v12:Int} {l21:List Int} {v33:ByteArray} {r:ByteArray} (h:Z3C a1 a2 a3 v12 l21 v33=some r):
  YE Tryz.prog UU 0 86 (Zs (Zt Tryz.f27) [1,1,1,0,1,0,0,1,0,0,1,1,1,0]) [(1, .sl 3 a2),(2, .sl 9 a3),(3, .o 0),(6, .e),(7, .z),(8, .x v33),(9, .j v12),(11, .os 1 l21.length)] [.box 31 (c31 a1) false, .w 3 l21] ((fun r=>match r with|v39=> .nor) r) ((fun r=>match r with|v39=> [(1, .sl 3 a2),(2, .sl 9 a3),(3, .o 0),(6, .e),(7, .z),(8, .x v39),(9, .j v12),(11, .os 1 l21.length)]) r) ((fun r=>match r with|v39=> [.box 31 (c31 a1) false, .w 3 l21]) r):=by
 unfold Z3C at h
 obtain⟨h36,h⟩|⟨h36,h⟩:=Z1 h
 ·obtain⟨h37,h⟩|⟨h37,h⟩:=Z1 h
  ·obtain rfl:=oi h;exact rl [1,2,3,6,7,8,9,11] [0,1] [.t] (pc (rn l21.length)<|pc h36<|pc (of_decide_eq_true h37)<|pn)
  ·cases h
 ·obtain rfl:=oi h;exact rl [1,2,3,6,7,8,9,11] [0,1] [.f] (pc (rn l21.length)<|pc h36<|pn)

theorem Zg1 {a1:Z2} {a2:List Int} {a3:List ByteArray} {v12:Int} {l21:List Int} :Zx Tryz.prog UU 0 86 (Zs (Zt Tryz.f27) [1,1,1,0,1,0,0,1,0,0,1,1,1,1,0,1,0,0]) (fun s:ByteArray×Int=>match s with|(v42,v43)=>Tg a1 a2 a3 v12 l21 v42 v43)
  (fun s:ByteArray×Int=>(match s with|(v42,v43)=> [(1, .sl 3 a2),(2, .sl 9 a3),(3, .o 0),(6, .e),(7, .z),(8, .x v42),(9, .j v12),(11, .os 1 l21.length),(13, .j v43)]:Fr DD)) (fun s:ByteArray×Int=>(match s with|(v42,v43)=> [.box 31 (c31 a1) false, .w 3 l21]:Z3 DD)) (fun r=>match r with|v53=> .exit 4) (fun r=>match r with|v53=> [(1, .sl 3 a2),(2, .sl 9 a3),(3, .o 0),(6, .e),(7, .z),(8, .x v53),(9, .j v12)]) (fun r=>match r with|v53=> [.box 31 (c31 a1) false]):=by
 refine Zy (fun s q h=> ?_) (fun r=> ?_)
 ·obtain⟨v42,v43⟩:=s;replace h:Tg a1 a2 a3 v12 l21 v42 v43=some q:=h
  unfold Tg at h
  obtain⟨h44,h⟩|⟨h44,h⟩:=Z1 h
  ·obtain⟨h45,h⟩|⟨h45,h⟩:=Z1 h
   ·obtain⟨h46,h⟩|⟨h46,h⟩:=Z1 h
    ·obtain⟨x47,h48,h⟩:=bo h
     obtain⟨r49,h50,h⟩:=bo h
     obtain⟨h51,h⟩|⟨h51,h⟩:=Z1 h
     ·obtain rfl:=oi h;exact rl [1,2,3,6,7,8,9,11,13] [0,1] [.t, .row (c3 x47), .callv (.x r49)] (pc (rn l21.length)<|pc h44<|pc (of_decide_eq_true h45)<|pc (an l21.length (Zz h46))<|pc (an l21.length (YV h48))<|pc (Zbc h50)<|pc (of_decide_eq_true h51)<|pn)
     ·cases h
    ·cases h
   ·cases h
  ·obtain rfl:=oi h;exact rl [1,2,3,6,7,8,9] [0] [.f] (pc (rn l21.length)<|pc h44<|pn)
 ·exact Ex.noConfusion

theorem Zg2 {a1:Z2} {a2:List Int} {a3:List ByteArray} :Zx Tryz.prog UU 0 86 (Zs (Zt Tryz.f27) [1,1,1,0,1,0,0]) (fun s:ByteArray×Int=>match s with|(v11,v12)=>Uh a1 a2 a3 v11 v12)
  (fun s:ByteArray×Int=>(match s with|(v11,v12)=> [(1, .sl 3 a2),(2, .sl 9 a3),(3, .o 0),(6, .e),(7, .z),(8, .x v11),(9, .j v12)]:Fr DD)) (fun s:ByteArray×Int=>(match s with|(v11,v12)=> [.box 31 (c31 a1) false]:Z3 DD)) (fun r=>match r with|v58=> .exit 0) (fun r=>match r with|v58=> [(6, .e),(7, .z),(8, .x v58)]) (fun r=>match r with|v58=> []):=by
 refine Zy (fun s q h=> ?_) (fun r=> ?_)
 ·obtain⟨v11,v12⟩:=s;replace h:Uh a1 a2 a3 v11 v12=some q:=h
  unfold Uh at h
  obtain⟨h13,h⟩|⟨h13,h⟩:=Z1 h
  ·obtain⟨x14,h15,h⟩:=bo h
   obtain⟨h16,h⟩|⟨h16,h⟩:=Z1 h
   ·obtain⟨h17,h⟩|⟨h17,h⟩:=Z1 h
    ·obtain⟨r18,h19,h⟩:=bo h
     obtain⟨l20,l21⟩:=r18
     obtain⟨v33,h34,h⟩:=bo h
     obtain⟨v39,h40,h⟩:=bo h
     obtain⟨v53,h54,h⟩:=bo h
     obtain⟨h56,h⟩|⟨h56,h⟩:=Z1 h
     ·obtain rfl:=oi h;exact rl [1,2,3,6,7,8,9] [0] [.t, .row (c9 x14), .callo (.tup [.os 0 l20.length, .os 1 l21.length]) [.w 3 l20, .w 3 l21], .sum [1,2,3,6,7,8,9,10,11,12] [0,1,2] (.exit 2) [(1, .sl 3 a2),(2, .sl 9 a3),(3, .o 0),(6, .e),(7, .z),(8, .x v33),(9, .j v12),(11, .os 1 l21.length)] [.box 31 (c31 a1) false, .w 3 l21], .cut [1,2,3,6,7,8,9,11] [0,1] .nor [(1, .sl 3 a2),(2, .sl 9 a3),(3, .o 0),(6, .e),(7, .z),(8, .x v39),(9, .j v12),(11, .os 1 l21.length)] [.box 31 (c31 a1) false, .w 3 l21], .sum [1,2,3,6,7,8,9,11,13] [0,1] (.exit 4) [(1, .sl 3 a2),(2, .sl 9 a3),(3, .o 0),(6, .e),(7, .z),(8, .x v53),(9, .j v12)] [.box 31 (c31 a1) false]] (pc h13<|pc (ob9 h15)<|pc (of_decide_eq_true h16)<|pc (of_decide_eq_true h17)<|pc (ZfW h19)<|pc (im3 l20)<|pc (im3 l21)<|pc (ZfZ _ _ h34)<|pc (Zg0 h40)<|pc (Zg1 _ _ h54)<|pc (of_decide_eq_true h56)<|pn)
     ·cases h
    ·cases h
   ·cases h
  ·obtain rfl:=oi h;exact rl [6,7,8] [] [.f] (pc h13<|pn)
 ·exact Ex.noConfusion

theorem Z3S {a1:Z2} {a2:List Int} {a3:List ByteArray} {r:ByteArray×Int} (h:Z3D a1 a2 a3=some r):
  Z7 Tryz.prog UU 27 [.agg (c31 a1), .sl 3 a2, .sl 9 a3] [] (.tup [.x r.1, .j r.2]) []:=by
 unfold Z3D at h
 obtain⟨r4,h5,h⟩:=bo h
 obtain⟨h6,h⟩|⟨h6,h⟩:=Z1 h
 ·obtain rfl:=oi h;exact rf Tryz.func27 none [.b r4, .t] (pc (Vq h5)<|pc h6<|pn)
 ·obtain⟨h7,h⟩|⟨h7,h⟩:=Z1 h
  ·obtain rfl:=oi h;exact rf Tryz.func27 none [.b r4, .f, .t] (pc (Vq h5)<|pc h6<|pc h7<|pn)
  ·obtain⟨r8,h9,h⟩:=bo h
   obtain⟨h10,h⟩|⟨h10,h⟩:=Z1 h
   ·obtain rfl:=oi h;exact rf Tryz.func27 none [.b r4, .f, .f, .b r8, .t] (pc (Vq h5)<|pc h6<|pc h7<|pc (Zb9 h9)<|pc h10<|pn)
   ·obtain⟨v58,h59,h⟩:=bo h
    obtain rfl:=oi h;exact rf Tryz.func27 none [.b r4, .f, .f, .b r8, .f, .sum [1,2,3,6,7,8,9] [0] (.exit 0) [(6, .e),(7, .z),(8, .x v58)] []] (pc (Vq h5)<|pc h6<|pc h7<|pc (Zb9 h9)<|pc h10<|pc (Zg2 _ _ h59)<|pn)

theorem Zg3 {a1:List (List Z6)} {l2:List (List ZJ)} {v3:Int} {x5:List Z6} :Zx Tryz.prog UU 0 32 (Zs (Zt Tryz.f29) [1,1,0,1,0,0,1,1,0,0,1,1,0,1,0,0]) (fun s:(List ZJ)×Int=>match s with|(l7,v8)=>Z1n a1 l2 v3 x5 l7 v8)
  (fun s:(List ZJ)×Int=>(match s with|(l7,v8)=> [(2, .os 0 0),(3, .os 1 l2.length),(6, .os 2 l7.length),(9, .sl 70 a1),(10, .j (a1.length:Int)),(11, .j v3),(15, .sl 79 x5),(16, .j (x5.length:Int)),(17, .j v8)]:Fr DD)) (fun s:(List ZJ)×Int=>(match s with|(l7,v8)=> [.n 125, .w 125 l2, .w 126 l7]:Z3 DD)) (fun r=>match r with|l19=> .exit 2) (fun r=>match r with|l19=> [(2, .os 0 0),(3, .os 1 l2.length),(6, .os 2 l19.length),(9, .sl 70 a1),(10, .j (a1.length:Int)),(11, .j v3)]) (fun r=>match r with|l19=> [.n 125, .w 125 l2, .w 126 l19]):=by
 refine Zy (fun s q h=> ?_) (fun r=> ?_)
 ·obtain⟨l7,v8⟩:=s;replace h:Z1n a1 l2 v3 x5 l7 v8=some q:=h
  unfold Z1n at h
  obtain⟨h9,h⟩|⟨h9,h⟩:=Z1 h
  ·obtain⟨x10,h11,h⟩:=bo h
   obtain⟨h12,h⟩|⟨h12,h⟩:=Z1 h
   ·obtain rfl:=oi h;exact rl [2,3,6,9,10,11,15,16,17] [0,1,2] [.t, .row (c79 x10), .obj [] (.w 126 [(⟨x10.ports,x10.from_,x10.to⟩:ZJ)]), .obj [] (.w 126 (l7++ [(⟨x10.ports,x10.from_,x10.to⟩:ZJ)]))] (pc h9<|pc (Z1p h11)<|pc (Yk 126 [(⟨x10.ports,x10.from_,x10.to⟩:ZJ)])<|pc (YR 126 (n:=l7.length) (l:=l7) (xs:= [(⟨x10.ports,x10.from_,x10.to⟩:ZJ)]) h12)<|pc (rn (List.length [(⟨x10.ports,x10.from_,x10.to⟩:ZJ)]))<|pn)
   ·cases h
  ·obtain rfl:=oi h;exact rl [2,3,6,9,10,11] [0,1,2] [.f] (pc h9<|pn)
 ·exact Ex.noConfusion

theorem Zg4 {a1:List (List Z6)} :Zx Tryz.prog UU 0 32 (Zs (Zt Tryz.f29) [1,1,0,1,0,0]) (fun s:(List (List ZJ))×Int=>match s with|(l2,v3)=>Z1o a1 l2 v3)
  (fun s:(List (List ZJ))×Int=>(match s with|(l2,v3)=> [(2, .os 0 0),(3, .os 1 l2.length),(9, .sl 70 a1),(10, .j (a1.length:Int)),(11, .j v3)]:Fr DD)) (fun s:(List (List ZJ))×Int=>(match s with|(l2,v3)=> [.n 125, .w 125 l2]:Z3 DD)) (fun r=>match r with|l25=> .exit 0) (fun r=>match r with|l25=> [(2, .os 0 0),(3, .os 1 l25.length)]) (fun r=>match r with|l25=> [.n 125, .w 125 l25]):=by
 refine Zy (fun s q h=> ?_) (fun r=> ?_)
 ·obtain⟨l2,v3⟩:=s;replace h:Z1o a1 l2 v3=some q:=h
  unfold Z1o at h
  obtain⟨h4,h⟩|⟨h4,h⟩:=Z1 h
  ·obtain⟨x5,h6,h⟩:=bo h
   obtain⟨l19,h20,h⟩:=bo h
   obtain⟨h22,h⟩|⟨h22,h⟩:=Z1 h
   ·obtain rfl:=oi h;exact rl [2,3,9,10,11] [0,1] [.t, .row (c70 x5), .sum [2,3,6,9,10,11,15,16,17] [0,1,2] (.exit 2) [(2, .os 0 0),(3, .os 1 l2.length),(6, .os 2 l19.length),(9, .sl 70 a1),(10, .j (a1.length:Int)),(11, .j v3)] [.n 125, .w 125 l2, .w 126 l19], .obj [2] (.w 125 [l19]), .obj [] (.w 125 (l2++ [l19]))] (pc h4<|pc (QR h6)<|pc (Zg3 _ _ h20)<|pc (Yk 125 [l19])<|pc (rn l19.length)<|pc (YR 125 (n:=l2.length) (l:=l2) (xs:= [l19]) h22)<|pc (rn (List.length [l19]))<|pn)
   ·cases h
  ·obtain rfl:=oi h;exact rl [2,3] [0,1] [.f] (pc h4<|pn)
 ·exact Ex.noConfusion

theorem Z3T {a1:List (List Z6)} {r:((List (List ZJ)))} (h:Z3E a1=some r):
  Z7 Tryz.prog UU 29 [.sl 70 a1] [] ((fun r=>match r with|l28=> .os 0 l28.length) r) ((fun r=>match r with|l28=> [.w 125 l28]) r):=by
 unfold Z3E at h
 obtain⟨l25,h26,h⟩:=bo h
 obtain rfl:=oi h;exact rf Tryz.func29 (some [1]) [.sum [2,3,9,10,11] [0,1] (.exit 0) [(2, .os 0 0),(3, .os 1 l25.length)] [.n 125, .w 125 l25]] (pc (Zg4 _ _ h26)<|pn)

theorem Zbd {a1:List (List ZJ)} {a2:List (List ZJ)} {v4:Int} {x11:List ZJ} :Zx Tryz.prog UU 0 53 (Zs (Zt Tryz.f28) [1,1,0,1,0,0,1,1,0,0,1,1,1,0,0]) (ρ:=Unit⊕Unit) (QM a1 a2 v4 x11)
  (fun v13:Int=>([(0, .sl 125 a1),(1, .sl 125 a2),(4, .y false),(5, .j v4),(13, .j (a1.length:Int)),(14, .j v4),(32, .j (x11.length:Int)),(33, .j v13)]:Fr DD)) (fun v13:Int=>([]:Z3 DD)) (fun r=>match r with|Sum.inl _=> .ret|Sum.inr _=> .exit 2) (fun r=>match r with|Sum.inl _=> [(4, .y false)]|Sum.inr _=> [(0, .sl 125 a1),(1, .sl 125 a2),(4, .y false),(13, .j (a1.length:Int)),(14, .j v4)]) (fun r=>match r with|Sum.inl _=> []|Sum.inr _=> []):=by
 refine Zy (fun s q h=> ?_) (fun r=> ?_)
 ·replace h:QM a1 a2 v4 x11 s=some q:=h;revert h;revert s;intro v13 h
  unfold QM at h
  obtain⟨h14,h⟩|⟨h14,h⟩:=Z1 h
  ·obtain⟨x15,h16,h⟩:=bo h
   obtain⟨x17,h18,h⟩:=bo h
   obtain⟨x19,h20,h⟩:=bo h
   obtain⟨x21,h22,h⟩:=bo h
   obtain⟨h23,h⟩|⟨h23,h⟩:=Z1 h
   ·obtain rfl:=oi h;exact rl [4] [] [.t, .row (Wq x15), .row (Ui x17), .row (Wq x19), .row (Ui x21), .t] (pc h14<|pc (V2 h16)<|pc (Z5z h18)<|pc (V2 h20)<|pc (Z5z h22)<|pc h23<|pn)
   ·obtain rfl:=oi h;exact rl [0,1,4,5,13,14,32,33] [] [.t, .row (Wq x15), .row (Ui x17), .row (Wq x19), .row (Ui x21), .f] (pc h14<|pc (V2 h16)<|pc (Z5z h18)<|pc (V2 h20)<|pc (Z5z h22)<|pc h23<|pn)
  ·obtain rfl:=oi h;exact rl [0,1,4,13,14] [] [.f] (pc h14<|pn)
 ·rcases r with _|_ <;> exact Ex.noConfusion

theorem Zbe {a1:List (List ZJ)} {a2:List (List ZJ)} :Zx Tryz.prog UU 0 53 (Zs (Zt Tryz.f28) [1,1,0,1,0,0]) (ρ:=Unit⊕Unit) (QN a1 a2)
  (fun v4:Int=>([(0, .sl 125 a1),(1, .sl 125 a2),(4, .y false),(13, .j (a1.length:Int)),(14, .j v4)]:Fr DD)) (fun v4:Int=>([]:Z3 DD)) (fun r=>match r with|Sum.inl _=> .ret|Sum.inr _=> .exit 0) (fun r=>match r with|Sum.inl _=> [(4, .y false)]|Sum.inr _=> [(4, .y false)]) (fun r=>match r with|Sum.inl _=> []|Sum.inr _=> []):=by
 refine Zy (fun s q h=> ?_) (fun r=> ?_)
 ·replace h:QN a1 a2 s=some q:=h;revert h;revert s;intro v4 h
  unfold QN at h
  obtain⟨h5,h⟩|⟨h5,h⟩:=Z1 h
  ·obtain⟨x6,h7,h⟩:=bo h
   obtain⟨x8,h9,h⟩:=bo h
   obtain⟨h10,h⟩|⟨h10,h⟩:=Z1 h
   ·obtain rfl:=oi h;exact rl [4] [] [.t, .row (Wq x6), .row (Wq x8), .t] (pc h5<|pc (V2 h7)<|pc (V2 h9)<|pc h10<|pn)
   ·obtain⟨x11,h12,h⟩:=bo h
    obtain⟨r25,h24,h⟩:=bo h
    rcases r25 with _|_
    ·obtain rfl:=oi h;exact rl [4] [] [.t, .row (Wq x6), .row (Wq x8), .f, .row (Wq x11), .sum [0,1,4,5,13,14,32,33] [] .ret [(4, .y false)] []] (pc h5<|pc (V2 h7)<|pc (V2 h9)<|pc h10<|pc (V2 h12)<|pc (Zbd _ _ h24)<|pn)
    ·obtain rfl:=oi h;exact rl [0,1,4,13,14] [] [.t, .row (Wq x6), .row (Wq x8), .f, .row (Wq x11), .sum [0,1,4,5,13,14,32,33] [] (.exit 2) [(0, .sl 125 a1),(1, .sl 125 a2),(4, .y false),(13, .j (a1.length:Int)),(14, .j v4)] []] (pc h5<|pc (V2 h7)<|pc (V2 h9)<|pc h10<|pc (V2 h12)<|pc (Zbd _ _ h24)<|pn)
  ·obtain rfl:=oi h;exact rl [4] [] [.f] (pc h5<|pn)
 ·rcases r with _|_ <;> exact Ex.noConfusion

theorem Z3U {a1:List (List ZJ)} {a2:List (List ZJ)} {r:Bool} (h:Z3F a1 a2=some r):
  Z7 Tryz.prog UU 28 [.sl 125 a1, .sl 125 a2] [] (.y r) []:=by
 unfold Z3F at h
 obtain⟨h3,h⟩|⟨h3,h⟩:=Z1 h
 ·obtain rfl:=oi h;exact rf Tryz.func28 none [.t] (pc h3<|pn)
 ·obtain⟨r27,h26,h⟩:=bo h
  rcases r27 with _|_
  ·obtain rfl:=oi h;exact rf Tryz.func28 none [.f, .sum [0,1,4,13,14] [] .ret [(4, .y false)] []] (pc h3<|pc (Zbe _ _ h26)<|pn)
  ·obtain rfl:=oi h;exact rf Tryz.func28 none [.f, .sum [0,1,4,13,14] [] (.exit 0) [(4, .y false)] []] (pc h3<|pc (Zbe _ _ h26)<|pn)

theorem Z1D {a1:Z2} {a2:List Int} {a3:Int} {a4:List ByteArray} :Zx Tryz.prog UU 0 96 (Zs (Zt Tryz.f5) [1,1,0,1,0,0]) (ρ:=Bool⊕Unit) (QO a1 a2 a3 a4)
  (fun v18:Int=>([(1, .sl 3 a2),(2, .j a3),(3, .sl 9 a4),(4, .o 0),(8, .y false),(9, .j v18)]:Fr DD)) (fun v18:Int=>([.box 31 (c31 a1) false]:Z3 DD)) (fun r=>match r with|Sum.inl v26=> .ret|Sum.inr _=> .exit 0) (fun r=>match r with|Sum.inl v26=> [(8, .y v26)]|Sum.inr _=> [(1, .sl 3 a2),(2, .j a3),(3, .sl 9 a4),(4, .o 0),(8, .y false)]) (fun r=>match r with|Sum.inl v26=> []|Sum.inr _=> [.box 31 (c31 a1) false]):=by
 refine Zy (fun s q h=> ?_) (fun r=> ?_)
 ·replace h:QO a1 a2 a3 a4 s=some q:=h;revert h;revert s;intro v18 h
  unfold QO at h
  obtain⟨h19,h⟩|⟨h19,h⟩:=Z1 h
  ·obtain⟨x20,h21,h⟩:=bo h
   obtain⟨h22,h⟩|⟨h22,h⟩:=Z1 h
   ·obtain⟨r23,h24,h⟩:=bo h
    obtain rfl:=oi h;exact rl [8] [] [.t, .row (c56 x20), .t, .b r23] (pc h19<|pc (VO h21)<|pc h22<|pc (Z3L h24)<|pn)
   ·obtain rfl:=oi h;exact rl [1,2,3,4,8,9] [0] [.t, .row (c56 x20), .f] (pc h19<|pc (VO h21)<|pc h22<|pn)
  ·obtain rfl:=oi h;exact rl [1,2,3,4,8] [0] [.f] (pc h19<|pn)
 ·rcases r with _|_ <;> exact Ex.noConfusion

theorem Zg5 {a1:Z2} {a2:List Int} {a3:Int} {a4:List ByteArray} {r:Bool} (h:Z5u a1 a2 a3 a4=some r):
  Z7 Tryz.prog UU 5 [.agg (c31 a1), .sl 3 a2, .j a3, .sl 9 a4] [] (.y r) []:=by
 unfold Z5u at h
 obtain⟨r5,h6,h⟩:=bo h
 obtain⟨h7,h⟩|⟨h7,h⟩:=Z1 h
 ·obtain⟨r8,h9,h⟩:=bo h
  obtain rfl:=oi h;exact rf Tryz.func5 none [.b r5, .t, .b r8] (pc (Uk h6)<|pc h7<|pc (Z3L h9)<|pn)
 ·obtain⟨h10,h⟩|⟨h10,h⟩:=Z1 h
  ·obtain⟨r11,h12,h⟩:=bo h
   obtain rfl:=oi h;exact rf Tryz.func5 none [.b r5, .f, .t, .b r11] (pc (Uk h6)<|pc h7<|pc h10<|pc (Z3L h12)<|pn)
  ·obtain⟨r13,h14,h⟩:=bo h
   obtain⟨h15,h⟩|⟨h15,h⟩:=Z1 h
   ·obtain⟨r16,h17,h⟩:=bo h
    obtain rfl:=oi h;exact rf Tryz.func5 none [.b r5, .f, .f, .b r13, .t, .b r16] (pc (Uk h6)<|pc h7<|pc h10<|pc (QX h14)<|pc h15<|pc (Z3L h17)<|pn)
   ·obtain⟨r28,h27,h⟩:=bo h
    rcases r28 with v26|_
    ·obtain rfl:=oi h;exact rf Tryz.func5 none [.b r5, .f, .f, .b r13, .f, .sum [1,2,3,4,8,9] [0] .ret [(8, .y v26)] []] (pc (Uk h6)<|pc h7<|pc h10<|pc (QX h14)<|pc h15<|pc (Z1D _ _ h27)<|pn)
    ·obtain⟨r29,h30,h⟩:=bo h
     obtain⟨l31,n32,v33⟩:=r29
     obtain⟨r34,h35,h⟩:=bo h
     obtain⟨l36,v37⟩:=r34
     obtain⟨r38,h39,h⟩:=bo h
     obtain⟨r40,h41,h⟩:=bo h
     obtain⟨l44,h43,h⟩:=bo h
     obtain⟨r45,h46,h⟩:=bo h
     obtain⟨h47,h⟩|⟨h47,h⟩:=Z1 h
     ·obtain⟨h48,h⟩|⟨h48,h⟩:=Z1 h
      ·obtain⟨h49,h⟩|⟨h49,h⟩:=Z1 h
       ·obtain⟨h50,h⟩|⟨h50,h⟩:=Z1 h
        ·obtain⟨r51,h52,h⟩:=bo h
         obtain rfl:=oi h;exact rf Tryz.func5 none [.b r5, .f, .f, .b r13, .f, .sum [1,2,3,4,8,9] [0] (.exit 0) [(1, .sl 3 a2),(2, .j a3),(3, .sl 9 a4),(4, .o 0),(8, .y false)] [.box 31 (c31 a1) false], .callm [] (.tup [.os 0 n32, .y v33]) [.arr 70 l31 n32 false], .callm [] (.tup [.os 0 l36.length, .y v37]) [.w 125 l36], .callv (.tup [.x r38.1, .j r38.2]), .callv (.tup [.x r40.1, .j r40.2]), .frz [1], .callm [] (.os 0 l44.length) [.w 125 l44], .b r45, .t, .t, .t, .t, .b r51] (pc (Uk h6)<|pc h7<|pc h10<|pc (QX h14)<|pc h15<|pc (Z1D _ _ h27)<|pc (Z1v h30)<|pc (Z3R h35)<|pc (Z1z h39)<|pc (Z3S h41)<|pc (rn n32)<|pc (Z3T h43)<|pc (Z3U h46)<|pc (rn l44.length)<|pc (rn l36.length)<|pc h47<|pc h48<|pc h49<|pc h50<|pc (Z3L h52)<|pn)
        ·obtain rfl:=oi h;exact rf Tryz.func5 none [.b r5, .f, .f, .b r13, .f, .sum [1,2,3,4,8,9] [0] (.exit 0) [(1, .sl 3 a2),(2, .j a3),(3, .sl 9 a4),(4, .o 0),(8, .y false)] [.box 31 (c31 a1) false], .callm [] (.tup [.os 0 n32, .y v33]) [.arr 70 l31 n32 false], .callm [] (.tup [.os 0 l36.length, .y v37]) [.w 125 l36], .callv (.tup [.x r38.1, .j r38.2]), .callv (.tup [.x r40.1, .j r40.2]), .frz [1], .callm [] (.os 0 l44.length) [.w 125 l44], .b r45, .t, .t, .t, .f] (pc (Uk h6)<|pc h7<|pc h10<|pc (QX h14)<|pc h15<|pc (Z1D _ _ h27)<|pc (Z1v h30)<|pc (Z3R h35)<|pc (Z1z h39)<|pc (Z3S h41)<|pc (rn n32)<|pc (Z3T h43)<|pc (Z3U h46)<|pc (rn l44.length)<|pc (rn l36.length)<|pc h47<|pc h48<|pc h49<|pc h50<|pn)
       ·obtain rfl:=oi h;exact rf Tryz.func5 none [.b r5, .f, .f, .b r13, .f, .sum [1,2,3,4,8,9] [0] (.exit 0) [(1, .sl 3 a2),(2, .j a3),(3, .sl 9 a4),(4, .o 0),(8, .y false)] [.box 31 (c31 a1) false], .callm [] (.tup [.os 0 n32, .y v33]) [.arr 70 l31 n32 false], .callm [] (.tup [.os 0 l36.length, .y v37]) [.w 125 l36], .callv (.tup [.x r38.1, .j r38.2]), .callv (.tup [.x r40.1, .j r40.2]), .frz [1], .callm [] (.os 0 l44.length) [.w 125 l44], .b r45, .t, .t, .f] (pc (Uk h6)<|pc h7<|pc h10<|pc (QX h14)<|pc h15<|pc (Z1D _ _ h27)<|pc (Z1v h30)<|pc (Z3R h35)<|pc (Z1z h39)<|pc (Z3S h41)<|pc (rn n32)<|pc (Z3T h43)<|pc (Z3U h46)<|pc (rn l44.length)<|pc (rn l36.length)<|pc h47<|pc h48<|pc h49<|pn)
      ·obtain rfl:=oi h;exact rf Tryz.func5 none [.b r5, .f, .f, .b r13, .f, .sum [1,2,3,4,8,9] [0] (.exit 0) [(1, .sl 3 a2),(2, .j a3),(3, .sl 9 a4),(4, .o 0),(8, .y false)] [.box 31 (c31 a1) false], .callm [] (.tup [.os 0 n32, .y v33]) [.arr 70 l31 n32 false], .callm [] (.tup [.os 0 l36.length, .y v37]) [.w 125 l36], .callv (.tup [.x r38.1, .j r38.2]), .callv (.tup [.x r40.1, .j r40.2]), .frz [1], .callm [] (.os 0 l44.length) [.w 125 l44], .b r45, .t, .f] (pc (Uk h6)<|pc h7<|pc h10<|pc (QX h14)<|pc h15<|pc (Z1D _ _ h27)<|pc (Z1v h30)<|pc (Z3R h35)<|pc (Z1z h39)<|pc (Z3S h41)<|pc (rn n32)<|pc (Z3T h43)<|pc (Z3U h46)<|pc (rn l44.length)<|pc (rn l36.length)<|pc h47<|pc h48<|pn)
     ·obtain rfl:=oi h;exact rf Tryz.func5 none [.b r5, .f, .f, .b r13, .f, .sum [1,2,3,4,8,9] [0] (.exit 0) [(1, .sl 3 a2),(2, .j a3),(3, .sl 9 a4),(4, .o 0),(8, .y false)] [.box 31 (c31 a1) false], .callm [] (.tup [.os 0 n32, .y v33]) [.arr 70 l31 n32 false], .callm [] (.tup [.os 0 l36.length, .y v37]) [.w 125 l36], .callv (.tup [.x r38.1, .j r38.2]), .callv (.tup [.x r40.1, .j r40.2]), .frz [1], .callm [] (.os 0 l44.length) [.w 125 l44], .b r45, .f] (pc (Uk h6)<|pc h7<|pc h10<|pc (QX h14)<|pc h15<|pc (Z1D _ _ h27)<|pc (Z1v h30)<|pc (Z3R h35)<|pc (Z1z h39)<|pc (Z3S h41)<|pc (rn n32)<|pc (Z3T h43)<|pc (Z3U h46)<|pc (rn l44.length)<|pc (rn l36.length)<|pc h47<|pn)

end Go.Eng
