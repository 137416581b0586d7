/- Numbers as texts: the program's writing (num.Text). -/
import Derived.Test.YtcclngfmkodgjaaGreatEngT0
set_option linter.unusedVariables false
set_option linter.unusedSectionVars false
set_option linter.unusedSimpArgs false
namespace Go.Eng
open Go Classical
theorem Zh4 {n:Int} (h1: -9223372036854775808≤n) (h2:n<0):Y0 (0-Y0 n)=((-n).toNat:Nat):=by
 unfold Y0 IntKind.wrap
 simp[IntKind.signed,IntKind.bits]
 omega
theorem Zh5 {m:Nat} (hm:m≤9223372036854775808) {a:Int} :
  Z8 (fun s:(List Int)×Int×Bool=>match s with|(l7,v8,v9)=>VJ a l7 v8 v9) ([],(m:Int),true)=some ((Xv m).reverse):=by
 have hlen:=(Tx 19 m (by omega)).1
 obtain⟨r,e,hr⟩:=XE (f:=fun s:(List Int)×Int×Bool=>match s with|(l7,v8,v9)=>VJ a l7 v8 v9)
  (fun s=>∃(v:Nat) (t:List Int),s.1=t.reverse∧s.2.1=(v:Int)∧v≤m∧((s.2.2=true∧Xv m=Xv v++t)∨(s.2.2=false∧Xv m=t)))
  (fun r=>r=(Xv m).reverse) (fun s=>if s.2.2=true then s.2.1.toNat+1 else 0) (s:=([],(m:Int),true)) (fun s hI=>by
   obtain⟨l,vi,b⟩:=s
   obtain⟨v,t,h1,h2,h3,h4⟩:=hI
   simp only at h1 h2 h4
   subst h1;subst h2
   rcases h4 with⟨hb,h4⟩|⟨hb,h4⟩
   ·subst hb
    have ht:t.length+1≤20:=by
     have h5:=(Tx 19 v (by omega)).2
     have h6:=congrArg List.length h4
     rw[List.length_append]at h6
     omega
    have e1:Int.tmod (v:Int) 10=((v % 10:Nat):Int):=by rw[Int.tmod_eq_emod_of_nonneg (by omega)];simp
    have e2:Int.tdiv (v:Int) 10=((v / 10:Nat):Int):=by rw[Int.tdiv_eq_ediv_of_nonneg (by omega)];simp
    have e3:Y0 ((v / 10:Nat):Int)=((v / 10:Nat):Int):=Uu (by omega) (by omega)
    have e4:Y0 (48+((v % 10:Nat):Int))=48+((v % 10:Nat):Int):=Uu (by omega) (by omega)
    have e5:Xc (48+((v % 10:Nat):Int))=48+((v % 10:Nat):Int):=wr8 (by omega) (by omega)
    have hr:ZZ 1 (t.reverse++ [(48+((v % 10:Nat):Int))])=true:=X5 (by simp;omega)
    refine⟨.inl (t.reverse++ [(48+((v % 10:Nat):Int))],((v / 10:Nat):Int),decide (((v / 10:Nat):Int) >0)), ?_,⟨⟨v / 10,(48+((v % 10:Nat):Int))::t,by simp,rfl,by omega, ?_⟩, ?_⟩⟩
    ·show VJ a t.reverse v true=_
     unfold VJ
     rw[if_pos rfl,e1,e2,e3,e4,e5,if_pos hr]
    ·by_cases c:10≤v
     ·refine .inl ⟨by simp;omega, ?_⟩
      rw[h4,Z87 c];simp
     ·refine .inr ⟨by simp;omega, ?_⟩
      have:v % 10=v:=by omega
      rw[h4,Z5R (by omega),this];rfl
    ·show(if decide (((v / 10:Nat):Int) >0)=true then(((v / 10:Nat):Int)).toNat+1 else 0) <(if true=true then((v:Nat):Int).toNat+1 else 0)
     by_cases c:10≤v
     ·rw[if_pos (decide_eq_true (by omega)),if_pos rfl];omega
     ·rw[if_neg (by simp;omega),if_pos rfl];omega
   ·subst hb
    exact⟨.inr t.reverse,by
     show VJ a t.reverse v false=_
     unfold VJ
     rw[if_neg (by simp)],by rw[h4]⟩) ⟨m,[],rfl,rfl,Nat.le_refl _, .inl ⟨rfl,by simp⟩⟩ (by simp;omega)
 rw[e,hr]
theorem Zby {l:List Int} (hl:l.length≤1000000) {a:List Int} :
  Z8 (fun s:(List Int)×Int×Int=>match s with|(l25,v26,v27)=>VK a l25 v26 v27) (l,0,((l.length:Int) -1))=some l.reverse:=by
 obtain⟨r,e,hr⟩:=XE (f:=fun s:(List Int)×Int×Int=>match s with|(l25,v26,v27)=>VK a l25 v26 v27)
  (fun s=>∃i:Nat,s.2.1=(i:Int)∧s.2.2=(l.length:Int) -1-i∧s.1.length=l.length∧2 * i≤l.length+1∧∀j:Nat,j<l.length→s.1[j]?=if j<i∨l.length≤j+i then l[l.length-1-j]? else l[j]?)
  (fun r=>r=l.reverse) (fun s=>(s.2.2+1-s.2.1).toNat) (s:=(l,0,((l.length:Int) -1))) (fun s hI=>by
   obtain⟨b,x,y⟩:=s
   obtain⟨i,h1,h2,h3,h5,h4⟩:=hI
   simp only at h1 h2 h3 h4
   subst h1;subst h2
   by_cases c:(i:Int) <(l.length:Int) -1-i
   ·have hk0:((l.length:Int) -1-i).toNat=l.length-1-i:=by omega
    have hi:i<b.length:=by omega
    have hk:l.length-1-i<b.length:=by omega
    have g1:b[i]?=l[i]?:=by rw[h4 i (by omega),if_neg (by omega)]
    have g2:b[l.length-1-i]?=l[l.length-1-i]?:=by rw[h4 _ (by omega),if_neg (by omega)]
    obtain⟨u,hu⟩:∃u,l[i]?=some u:=⟨_,List.getElem?_eq_getElem (by omega)⟩
    obtain⟨w,hw⟩:∃w,l[l.length-1-i]?=some w:=⟨_,List.getElem?_eq_getElem (by omega)⟩
    have lk:lin b ((l.length:Int) -1-i)=true:=decide_eq_true ⟨by omega,by omega⟩
    have lx:lin b (i:Int)=true:=decide_eq_true ⟨by omega,by omega⟩
    have lk2:lin (b.set i w) ((l.length:Int) -1-i)=true:=decide_eq_true ⟨by omega,by simp;omega⟩
    have g3:(b.set i w)[l.length-1-i]?=some w:=by rw[List.getElem?_set_ne (by omega),g2,hw]
    have w1:=Zc (n:=(i:Int)+1) (by omega) (by omega)
    have w2:=Zc (n:=(l.length:Int) -1-i-1) (by omega) (by omega)
    refine⟨.inl ((b.set i w).set (l.length-1-i) u,(i:Int)+1,(l.length:Int) -1-i-1), ?_,⟨⟨i+1,by simp,by simp only;omega,by simp[h3],by omega,fun j hj=> ?_⟩,by simp only;omega⟩⟩
    ·show VK a b (i:Int) ((l.length:Int) -1-i)=_
     unfold VK
     rw[if_pos (decide_eq_true c),if_pos lk]
     simp only[Int.toNat_natCast,hk0]
     rw[g2,hw,Option.bind_some,if_pos lx,g1,hu,Option.bind_some,Option.bind_some,if_pos lk2,g3,Option.bind_some,w1,w2]
    ·simp only
     by_cases e1:j=l.length-1-i
     ·subst e1
      rw[List.getElem?_set_self (by simp;omega),if_pos (by omega),show l.length-1-(l.length-1-i)=i from by omega,hu]
     ·rw[List.getElem?_set_ne (fun h=>e1 h.symm)]
      by_cases e2:j=i
      ·subst e2
       rw[List.getElem?_set_self hi,if_pos (by omega),hw]
      ·rw[List.getElem?_set_ne (fun h=>e2 h.symm),h4 j hj]
       by_cases c3:j<i∨l.length≤j+i
       ·rw[if_pos c3,if_pos (by omega)]
       ·rw[if_neg c3,if_neg (by omega)]
   ·refine⟨.inr b, ?_, ?_⟩
    ·show VK a b (i:Int) ((l.length:Int) -1-i)=_
     unfold VK
     rw[if_neg (by simpa using c)]
    ·refine List.ext_getElem? fun j=> ?_
     by_cases hj:j<l.length
     ·rw[List.getElem?_reverse hj,h4 j hj]
      by_cases c3:j<i∨l.length≤j+i
      ·rw[if_pos c3]
      ·rw[if_neg c3,show l.length-1-j=j from by omega]
     ·rw[List.getElem?_eq_none (by omega),List.getElem?_eq_none (by simp;omega)])
  ⟨0,rfl,by simp,rfl,by omega,fun j hj=>by rw[if_neg (by omega)]⟩ (by simp only;omega)
 rw[e,hr]
theorem Zh6 {n:Int} (h1: -9223372036854775808≤n) (h2:n<9223372036854775808):Qk n=some (Ty n):=by
 unfold Qk Ty
 have hJ:Z36 n=some (((if n<0 then(-n).toNat else n.toNat:Nat)):Int):=by
  unfold Z36
  by_cases c:n<0
  ·rw[if_pos (decide_eq_true c),Zh4 h1 c,if_pos c]
  ·rw[if_neg (by simpa using c),Uu (by omega) (by omega),if_neg c];congr 1;omega
 rw[hJ]
 simp only[Option.bind_some]
 rw[Zh5 (by split <;> omega)]
 simp only[Option.bind_some]
 have hlen:(Xv (if n<0 then(-n).toNat else n.toNat)).length≤20:=(Tx 19 _ (by split <;> omega)).1
 by_cases c:n<0
 ·have hr:ZZ 1 ((Xv (-n).toNat).reverse++ [(45:Int)])=true:=by
   rw[if_pos c]at hlen
   exact X5 (by simp;omega)
  rw[if_pos c]at hlen
  unfold Z37
  rw[if_pos c,if_pos c,if_pos (decide_eq_true c),if_pos hr]
  simp only[Option.bind_some]
  rw[Zc (by omega) (by simp;omega),Zby (by simp;omega)]
  simp
 ·rw[if_neg c]at hlen
  unfold Z37
  rw[if_neg c,if_neg c,if_neg (by simpa using c)]
  simp only[Option.bind_some]
  rw[Zc (by omega) (by simp;omega),Zby (by simp;omega)]
  simp
theorem Z89 {n:Int} (h1: -9223372036854775808≤n) (h2:n<9223372036854775808):(Ty n).size≤21:=by
 unfold Ty
 split
 ·have:=(Tx 19 (-n).toNat (by omega)).1
  rw[Z02];simp;omega
 ·have:=(Tx 19 n.toNat (by omega)).1
  rw[Z02];omega
end Go.Eng
