/- Chapter 43 (matrix): who gets to whom: MatrixTells. -/
import Derived.Test.YtcclngfmkodgjaaGreatEngZ5
import Derived.Test.YtcclngfmkodgjaaGreatEngGV0
set_option linter.unusedVariables false
set_option linter.unusedSectionVars false
set_option linter.unusedSimpArgs false
namespace Go.Eng
open Go Classical
attribute [local congr] Yl
section
variable {of sets:List Int}
def Z1J (of sets:List Int) (s t:Int) (k:Nat):Prop:=Z0 of (k:Int)=t∧Y5 (Z0 sets (k:Int)) s
noncomputable def YP (of sets:List Int) (s t:Int):Nat→Int×Int
 |0=>(0, -1)
 |k+1=>if Z1J of sets s t k then((YP of sets s t k).1+1,if(YP of sets s t k).2<0 then(k:Int)else(YP of sets s t k).2)else YP of sets s t k
noncomputable def Z49 (of:List Int) (s:Int):Int:=Y4 of fun x=>x=s
noncomputable def XO (of sets:List Int) (s t:Int) (k:Nat):Z6:=⟨(YP of sets s t k).1,if 0<(YP of sets s t k).1 then Z49 of s else -1,(YP of sets s t k).2⟩
theorem Z67 {s t:Int} :∀k,0≤(YP of sets s t k).1∧(YP of sets s t k).1≤k∧ -1≤(YP of sets s t k).2∧(YP of sets s t k).2<k∧((YP of sets s t k).1=0↔(YP of sets s t k).2= -1)
 |0=>by simp[YP]
 |k+1=>by
  have ih:=Z67 (s:=s) (t:=t) k
  unfold YP
  by_cases h:Z1J of sets s t k
  ·rw[if_pos h]
   refine⟨by simp only;omega,by simp only;omega, ?_, ?_, ?_⟩
   ·simp only;split <;> omega
   ·simp only;split <;> omega
   ·simp only
    constructor
    ·intro q;omega
    ·intro q;split at q <;> omega
  ·rw[if_neg h]
   exact⟨ih.1,by omega,ih.2.2.1,by omega,ih.2.2.2.2⟩
theorem Z4a {s t:Int} {k:Nat} :XO of sets s t (k+1)=if Z1J of sets s t k then(if XO of sets s t k=⟨0, -1, -1⟩then⟨1,Z49 of s,(k:Int)⟩else { XO of sets s t k with ports:=(XO of sets s t k).ports+1 })else XO of sets s t k:=by
 have hb:=Z67 (of:=of) (sets:=sets) (s:=s) (t:=t) k
 by_cases h:Z1J of sets s t k
 case neg=>rw[if_neg h];unfold XO;rw[YP,if_neg h]
 rw[if_pos h]
 by_cases h0:(YP of sets s t k).1=0
 ·have h1:=hb.2.2.2.2.1 h0
  have:XO of sets s t k=⟨0, -1, -1⟩:=by unfold XO;rw[h0,h1];rfl
  rw[if_pos this]
  unfold XO
  rw[YP,if_pos h,h0,h1]
  simp
 ·have hpos:0<(YP of sets s t k).1:=by omega
  have hto:¬(YP of sets s t k).2<0:=by
   intro q
   exact h0 (hb.2.2.2.2.2 (by omega))
  have:¬XO of sets s t k=⟨0, -1, -1⟩:=by
   intro q
   have:=congrArg Z6.ports q
   exact h0 this
  rw[if_neg this]
  unfold XO
  rw[YP,if_pos h,if_neg hto]
  simp only
  rw[if_pos hpos,if_pos (by omega)]
theorem ZiH {s t:Int} (hl:sets.length=of.length) (hf:of.length≤300) (hs0:∀x∈sets,0≤x∧x<1000000000000):Z3w of sets s t=some (VV (XO of sets s t of.length)):=by
 unfold Z3w
 have hb:=Z67 (of:=of) (sets:=sets) (s:=s) (t:=t)
 have e1:Z8 (fun q:Int×Int×Int=>match q with|(v5,v6,v7)=>Ta of sets s t v5 v6 v7) (0,(-1),0)=some (YP of sets s t of.length):=
  Xu (f:=fun q:Int×Int×Int=>match q with|(v5,v6,v7)=>Ta of sets s t v5 v6 v7) (fun k=>((YP of sets s t k).1,(YP of sets s t k).2,(k:Int))) of.length (by omega) (fun k hk=>by
   have h1:inL of (k:Int):=⟨by omega,by omega⟩
   have h2:inL sets (k:Int):=⟨by omega,by omega⟩
   have hx:=hs0 _ (ZR h2)
   have hbk:=hb k
   have hw:=Zc (n:=(k:Int)+1) (by omega) (by omega)
   have hw2:=Zc (n:=(YP of sets s t k).1+1) (by omega) (by omega)
   simp only[Ta]
   rw[if_pos (decide_eq_true (by omega)),Zb h1,Option.bind_some]
   have em:YP of sets s t (k+1)=if Z1J of sets s t k then((YP of sets s t k).1+1,if(YP of sets s t k).2<0 then(k:Int)else(YP of sets s t k).2)else YP of sets s t k:=rfl
   by_cases c1:Z0 of (k:Int)=t
   case neg=>
    rw[if_pos (by simpa using c1),em,if_neg (fun q=>c1 q.1),hw];simp
   rw[if_neg (by simpa using c1),Zb h2,Option.bind_some,Z48 hx.1 hx.2,Option.bind_some]
   by_cases c2:Y5 (Z0 sets (k:Int)) s
   case neg=>
    rw[if_pos (by simpa using c2),em,if_neg (fun q=>c2 q.2),hw];simp
   rw[if_pos (show Z1J of sets s t k from⟨c1,c2⟩)]at em
   rw[if_neg (by simpa using c2),em,hw,hw2]
   by_cases c3:(YP of sets s t k).2<0
   ·rw[if_pos (decide_eq_true c3),if_pos c3];simp
   ·rw[if_neg (by simpa using c3),if_neg c3];simp) (by simp[Ta])
 rw[e1,Option.bind_some]
 generalize hM:YP of sets s t of.length=M
 obtain⟨many,to⟩:=M
 simp only
 have e2:Z8 (fun q:Int×Int=>match q with|(v30,v31)=>VN of s many to v30 v31) ((-1),0)=some (if 0<many then Z49 of s else -1):=by
  by_cases hp:0<many
  case neg=>
   rw[if_neg hp]
   exact Xu (f:=fun q:Int×Int=>match q with|(v30,v31)=>VN of s many to v30 v31) (fun _=>((-1:Int),(0:Int))) 0 (by decide) (fun i hi=>by omega) (by
    simp only[VN]
    by_cases c:0<(of.length:Int)
    ·rw[if_pos (decide_eq_true c),if_neg (by simpa using hp)]
    ·rw[if_neg (by simpa using c)])
  rw[if_pos hp]
  have key:=Xu (f:=fun q:Int×Int=>match q with|(v30,v31)=>VN of s many to v30 v31) (r:=Y4 of fun x=>x=s) (fun k=>(if Y4 of (fun x=>x=s) <(k:Int)then Y4 of (fun x=>x=s)else -1,(k:Int))) of.length (by omega) (fun k hk=>by
   have h1:inL of (k:Int):=⟨by omega,by omega⟩
   have hw:=Zc (n:=(k:Int)+1) (by omega) (by omega)
   have hge:=Z80 (l:=of) (P:=fun x=>x=s)
   simp only[VN]
   rw[if_pos (decide_eq_true (by omega)),if_pos (decide_eq_true hp),Zb h1,Option.bind_some,hw]
   by_cases c1:Z0 of (k:Int)=s
   ·rw[if_pos (by simpa using c1)]
    have hle:Y4 of (fun x=>x=s)≤k:=by
     rcases Tp (l:=of) (P:=fun x=>x=s)with⟨_,h⟩|⟨hi,_,h⟩
     ·exact absurd c1 (h _ h1)
     ·exact Int.not_lt.1 fun q=>h _ h1 q c1
    have hin:0≤Y4 of (fun x=>x=s):=by
     rcases Tp (l:=of) (P:=fun x=>x=s)with⟨_,h⟩|⟨hi,_,h⟩
     ·exact absurd c1 (h _ h1)
     ·exact hi.1
    by_cases c2:Y4 of (fun x=>x=s) <(k:Int)
    ·rw[if_pos c2,if_neg (by simp;omega),if_pos (by omega)];simp
    ·have e9:Y4 of (fun x=>x=s)=(k:Int):=by omega
     rw[if_neg c2,if_pos (by decide),if_pos (by omega),e9];simp
   ·rw[if_neg (by simpa using c1)]
    have hne:Y4 of (fun x=>x=s)≠(k:Int):=by
     intro q
     rcases Tp (l:=of) (P:=fun x=>x=s)with⟨h,_⟩|⟨_,h,_⟩
     ·omega
     ·rw[q]at h;exact c1 h
    by_cases c2:Y4 of (fun x=>x=s) <(k:Int)
    ·rw[if_pos c2,if_pos (by omega)];simp
    ·rw[if_neg c2,if_neg (by omega)];simp) (by
   have hlt:Y4 of (fun x=>x=s) <(of.length:Int):=by
    rcases Tp (l:=of) (P:=fun x=>x=s)with⟨h,_⟩|⟨h,_,_⟩
    ·omega
    ·exact h.2
   simp[VN,hlt])
  have hge:=Z80 (l:=of) (P:=fun x=>x=s)
  have e0:(if Y4 of (fun x=>x=s) <((0:Nat):Int)then Y4 of (fun x=>x=s)else(-1:Int))= -1:=by
   split
   ·omega
   ·rfl
  rw[e0]at key
  exact key
 rw[e2,Option.bind_some]
 unfold VV XO
 rw[hM]
noncomputable def YI (of sets:List Int) (T k:Nat) (s:Int):List Z6:=(List.range T).map fun(t:Nat)=>XO of sets s (t:Int) k
noncomputable def X2 (of sets:List Int) (T k:Nat):List (List Z6):=(List.range T).map fun(s:Nat)=>YI of sets T k (s:Int)
theorem ZiI:Wp [(⟨0, -1, -1⟩:Z6)] ((0:Nat):Int)=some (List.replicate 0 ⟨0, -1, -1⟩,0):=by kernel_rfl
theorem ZiJ:Wp [(⟨0, -1, -1⟩:Z6)] ((1:Nat):Int)=some (List.replicate 1 ⟨0, -1, -1⟩,1):=by kernel_rfl
theorem ZiK:Wp [(⟨0, -1, -1⟩:Z6)] ((2:Nat):Int)=some (List.replicate 2 ⟨0, -1, -1⟩,2):=by kernel_rfl
theorem ZiL:Wp [(⟨0, -1, -1⟩:Z6)] ((3:Nat):Int)=some (List.replicate 3 ⟨0, -1, -1⟩,3):=by kernel_rfl
theorem ZiM:Wp [(⟨0, -1, -1⟩:Z6)] ((4:Nat):Int)=some (List.replicate 4 ⟨0, -1, -1⟩,4):=by kernel_rfl
theorem ZiN:Wp [(⟨0, -1, -1⟩:Z6)] ((5:Nat):Int)=some (List.replicate 5 ⟨0, -1, -1⟩,5):=by kernel_rfl
theorem ZiO:Wp [(⟨0, -1, -1⟩:Z6)] ((6:Nat):Int)=some (List.replicate 6 ⟨0, -1, -1⟩,6):=by kernel_rfl
theorem ZiP:Wp [(⟨0, -1, -1⟩:Z6)] ((7:Nat):Int)=some (List.replicate 7 ⟨0, -1, -1⟩,7):=by kernel_rfl
theorem ZiQ:Wp [(⟨0, -1, -1⟩:Z6)] ((8:Nat):Int)=some (List.replicate 8 ⟨0, -1, -1⟩,8):=by kernel_rfl
theorem ZiR:Wp [(⟨0, -1, -1⟩:Z6)] ((9:Nat):Int)=some (List.replicate 9 ⟨0, -1, -1⟩,9):=by kernel_rfl
theorem ZiS:Wp [(⟨0, -1, -1⟩:Z6)] ((10:Nat):Int)=some (List.replicate 10 ⟨0, -1, -1⟩,10):=by kernel_rfl
theorem ZiT {T:Nat} (hT:T≤10):Wp [(⟨0, -1, -1⟩:Z6)] (T:Int)=some (List.replicate T ⟨0, -1, -1⟩,T):=by
 have h:T=0∨T=1∨T=2∨T=3∨T=4∨T=5∨T=6∨T=7∨T=8∨T=9∨T=10:=by omega
 rcases h with rfl|rfl|rfl|rfl|rfl|rfl|rfl|rfl|rfl|rfl|rfl
 ·exact ZiI
 ·exact ZiJ
 ·exact ZiK
 ·exact ZiL
 ·exact ZiM
 ·exact ZiN
 ·exact ZiO
 ·exact ZiP
 ·exact ZiQ
 ·exact ZiR
 ·exact ZiS
theorem Zc6 {α:Type} {f:Nat→α} {k:Nat} :(List.range (k+1)).map f=(List.range k).map f++ [f k]:=by rw[List.range_succ,List.map_append];rfl
theorem ZiU {T:Nat} {n19:Nat} (hT:T≤10) (hl:sets.length=of.length) (hf:of.length≤300) (hs0:∀x∈sets,0≤x∧x<1000000000000):
  Z8 (fun q:(List (List ZJ))×Int=>match q with|(l21,v22)=>Td of (T:Int) sets n19 l21 v22) ([],0)=some (Uv (X2 of sets T of.length)):=by
 have inner:∀(l:List (List ZJ)) (s:Int),Z8 (fun q:(List ZJ)×Int=>match q with|(l24,v25)=>Tc of (T:Int) sets n19 l s l24 v25) ([],0)=some ((YI of sets T of.length s).map VV):=by
  intro l s
  have:=Xu (f:=fun q:(List ZJ)×Int=>match q with|(l24,v25)=>Tc of (T:Int) sets n19 l s l24 v25) (r:=(YI of sets T of.length s).map VV) (fun k=>((List.range k).map fun(t:Nat)=>VV (XO of sets s (t:Int) of.length),(k:Int))) T (by omega) (fun k hk=>by
   have hw:=Zc (n:=(k:Int)+1) (by omega) (by omega)
   simp only[Tc]
   rw[if_pos (decide_eq_true (by omega)),ZiH hl hf hs0,Option.bind_some,if_pos (X5 (by simp;omega)),hw,Zc6]
   simp) (by
   simp only[Tc]
   rw[if_neg (by simp)]
   simp only[YI,List.map_map]
   rfl)
  exact this
 have:=Xu (f:=fun q:(List (List ZJ))×Int=>match q with|(l21,v22)=>Td of (T:Int) sets n19 l21 v22) (r:=Uv (X2 of sets T of.length)) (fun k=>((List.range k).map fun(s:Nat)=>(YI of sets T of.length (s:Int)).map VV,(k:Int))) T (by omega) (fun k hk=>by
  have hw:=Zc (n:=(k:Int)+1) (by omega) (by omega)
  simp only[Td]
  rw[if_pos (decide_eq_true (by omega)),inner,Option.bind_some]
  rw[if_pos (X5 (by simp;omega)),hw,Zc6]
  simp) (by
  simp only[Td]
  rw[if_neg (by simp)]
  simp only[X2,Uv,List.map_map]
  rfl)
 exact this
theorem Zc7:Z33=some ⟨0, -1, -1⟩:=by kernel_rfl
theorem ZiV {T:Nat} :X2 of sets T 0=List.replicate T (List.replicate T ⟨0, -1, -1⟩):=by
 have h:∀s:Int,YI of sets T 0 s=List.replicate T ⟨0, -1, -1⟩:=fun s=>by
  unfold YI
  rw[List.eq_replicate_iff]
  refine⟨by simp,fun c hc=> ?_⟩
  obtain⟨t,_,rfl⟩:=List.mem_map.1 hc
  rfl
 unfold X2
 rw[List.eq_replicate_iff]
 refine⟨by simp,fun c hc=> ?_⟩
 obtain⟨s,_,rfl⟩:=List.mem_map.1 hc
 exact h _
theorem Zc8 {p:List Bool} {i:Nat} {b:Bool} (h:p[i]?=some b):UG p i b=true:=by
 unfold UG;rw[h];simp
theorem ZiW {T:Nat} {l9:List Int} {n10:Nat} (hT:T≤10):
  Z8 (fun q:(List (List Z6))×(List Bool)×Int=>match q with|(l13,p14,v15)=>UQ of (T:Int) l9 n10 l13 p14 v15) (List.replicate T [],List.replicate T false,0)=some (X2 of sets T 0,List.replicate T true):=by
 have:=Xu (f:=fun q:(List (List Z6))×(List Bool)×Int=>match q with|(l13,p14,v15)=>UQ of (T:Int) l9 n10 l13 p14 v15) (r:=(X2 of sets T 0,List.replicate T true))
  (fun k=>(List.replicate k (List.replicate T (⟨0, -1, -1⟩:Z6))++List.replicate (T-k) [],List.replicate k true++List.replicate (T-k) false,(k:Int))) T (by omega) (fun k hk=>by
   have hw:=Zc (n:=(k:Int)+1) (by omega) (by omega)
   have hg:(List.replicate k (List.replicate T (⟨0, -1, -1⟩:Z6))++List.replicate (T-k) ([]:List Z6))[k]?=some []:=by
    rw[List.getElem?_append_right (by simp)]
    simp only[List.length_replicate,Nat.sub_self]
    rw[List.getElem?_replicate,if_pos (by omega)]
   have hp:UG (List.replicate k true++List.replicate (T-k) false) k false=true:=Zc8 (by
    rw[List.getElem?_append_right (by simp)]
    simp only[List.length_replicate,Nat.sub_self]
    rw[List.getElem?_replicate,if_pos (by omega)])
   have hlin:lin (List.replicate k (List.replicate T (⟨0, -1, -1⟩:Z6))++List.replicate (T-k) ([]:List Z6)) (k:Int)=true:=by
    rw[Ts];exact decide_eq_true ⟨by omega,by simp;omega⟩
   simp only[UQ,Int.toNat_natCast]
   rw[if_pos (decide_eq_true (by omega)),hg,Option.bind_some,if_pos hp,Zc7,Option.bind_some,ZiT hT,Option.bind_some]
   simp only
   rw[if_pos hlin,hw]
   have e1:∀ {α:Type} (x y:α),(List.replicate k x++List.replicate (T-k) y).set k x=List.replicate (k+1) x++List.replicate (T-(k+1)) y:=by
    intro α x y
    rw[List.set_append_right _ _ (by simp),show T-k=(T-(k+1))+1 by omega,List.replicate_succ]
    simp only[List.length_replicate,Nat.sub_self,List.set_cons_zero]
    rw[List.replicate_succ',List.append_assoc]
    rfl
   rw[e1,e1]
   simp) (by
   simp only[UQ,Int.toNat_natCast]
   rw[if_neg (by simp),ZiV]
   simp)
 simpa using this
end
end Go.Eng
