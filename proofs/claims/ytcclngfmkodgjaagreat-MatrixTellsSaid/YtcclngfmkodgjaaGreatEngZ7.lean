/- Chapter 43 (matrix): who gets to whom: the table grows port by port. -/
import Derived.Test.YtcclngfmkodgjaaGreatEngZ6
import Derived.Test.YtcclngfmkodgjaaGreatEngV8
import Derived.Test.YtcclngfmkodgjaaGreatEngGV0
set_option linter.unusedVariables false
set_option linter.unusedSectionVars false
set_option linter.unusedSimpArgs false
namespace Go.Eng
open Go Classical
attribute [local congr] Yl
section
variable {of sets:List Int}
theorem ZiY {n i:Nat} :(List.replicate n true).set i true=List.replicate n true:=by
 apply List.ext_getElem?
 intro k
 rw[List.getElem?_set]
 split
 ·rename_i h
  subst h
  simp only[List.length_replicate,List.getElem?_replicate]
 ·rfl
theorem ZiZ {x y:Z6} :Z7i x y=decide (x=y):=by
 cases x;cases y
 rw[Bool.eq_iff_iff]
 simp[Z7i]
theorem Zj0 {k:Nat} {P:Int→Prop} :(Yx k P).Nodup:=by
 unfold Yx
 exact List.Pairwise.filter _ (List.Pairwise.map _ (fun a b h=>by
  intro e
  exact h (by omega)) List.nodup_range)
theorem Zcc {T k:Nat} {s:Int} {t:Int} (h0:0≤t) (h1:t<T):(YI of sets T k s)[t.toNat]?=some (XO of sets s t k):=by
 unfold YI
 rw[List.getElem?_map,List.getElem?_range (by omega)]
 simp only[Option.map_some]
 congr 2
 omega
theorem Z4b {T k:Nat} {s:Int} :(YI of sets T k s).length=T:=by simp[YI]
theorem Zj1 {T k:Nat} {s t:Int} (h0:0≤t) (h1:t<T) (hk:Z0 of (k:Int)=t) (hh:Y5 (Z0 sets (k:Int)) s):
  YI of sets T (k+1) s=(YI of sets T k s).set t.toNat (XO of sets s t (k+1)):=by
 apply List.ext_getElem?
 intro j
 rw[List.getElem?_set,Z4b]
 by_cases hj:j<T
 case neg=>rw[List.getElem?_eq_none (by rw[Z4b];omega),if_neg (by omega),List.getElem?_eq_none (by rw[Z4b];omega)]
 have e1:∀k,(YI of sets T k s)[j]?=some (XO of sets s (j:Int) k):=fun k=>by
  have:=Zcc (of:=of) (sets:=sets) (T:=T) (k:=k) (s:=s) (t:=(j:Int)) (by omega) (by omega)
  simpa using this
 by_cases c:t.toNat=j
 ·rw[if_pos c,if_pos (by omega),e1]
  congr 2;omega
 ·rw[if_neg c,e1,e1,Z4a,if_neg (fun q=>c (by have:=q.1;omega))]
theorem Zj2 {T k:Nat} {s:Int} (hh:¬Y5 (Z0 sets (k:Int)) s):YI of sets T (k+1) s=YI of sets T k s:=by
 unfold YI
 refine List.map_congr_left fun j hj=> ?_
 rw[Z4a,if_neg (fun q=>hh q.2)]
theorem Zj3 {T k:Nat} {s:Int} (hh:Z0 of (k:Int) <0):YI of sets T (k+1) s=YI of sets T k s:=by
 unfold YI
 refine List.map_congr_left fun j hj=> ?_
 rw[Z4a,if_neg (fun q=>by have:=q.1;omega)]
noncomputable def Wh (of sets:List Int) (T k:Nat) (D:Int→Prop):List (List Z6):=(List.range T).map fun(s:Nat)=>if D (s:Int)then YI of sets T (k+1) (s:Int)else YI of sets T k (s:Int)
theorem Z68 {T k:Nat} {D:Int→Prop} :(Wh of sets T k D).length=T:=by simp[Wh]
theorem Zcd {T k:Nat} {D:Int→Prop} {s:Int} (h0:0≤s) (h1:s<T):(Wh of sets T k D)[s.toNat]?=some (if D s then YI of sets T (k+1) s else YI of sets T k s):=by
 unfold Wh
 rw[List.getElem?_map,List.getElem?_range (by omega)]
 have e:((s.toNat:Nat):Int)=s:=by omega
 simp only[Option.map_some,e]
theorem Zj4 {T k:Nat} {D:Int→Prop} {s:Int} (h0:0≤s) (h1:s<T):(Wh of sets T k D).set s.toNat (YI of sets T (k+1) s)=Wh of sets T k (fun x=>D x∨x=s):=by
 apply List.ext_getElem?
 intro j
 rw[List.getElem?_set,Z68]
 by_cases hj:j<T
 case neg=>rw[List.getElem?_eq_none (by rw[Z68];omega),if_neg (by omega),List.getElem?_eq_none (by rw[Z68];omega)]
 have e1:∀D:Int→Prop,(Wh of sets T k D)[j]?=some (if D (j:Int)then YI of sets T (k+1) (j:Int)else YI of sets T k (j:Int)):=fun D=>by
  have:=Zcd (of:=of) (sets:=sets) (T:=T) (k:=k) (D:=D) (s:=(j:Int)) (by omega) (by omega)
  simpa using this
 by_cases c:s.toNat=j
 ·have e:s=(j:Int):=by omega
  rw[if_pos c,if_pos (by omega),e1,if_pos (.inr e.symm),e]
 ·rw[if_neg c,e1,e1]
  have:((D (j:Int)∨(j:Int)=s)↔D (j:Int)):=⟨fun q=>q.resolve_right (fun q=>c (by omega)), .inl⟩
  by_cases d:D (j:Int)
  ·rw[if_pos d,if_pos (.inl d)]
  ·rw[if_neg d,if_neg (fun q=>d (this.1 q))]
theorem Zj5 {T k:Nat} :Wh of sets T k (fun _=>False)=X2 of sets T k:=by
 unfold Wh X2
 simp
theorem Zj6 {T k:Nat} {D:Int→Prop} (h:∀s:Int,0≤s→s<T→¬D s→YI of sets T (k+1) s=YI of sets T k s):Wh of sets T k D=X2 of sets T (k+1):=by
 unfold Wh X2
 refine List.map_congr_left fun j hj=> ?_
 have hj:=List.mem_range.1 hj
 by_cases d:D (j:Int)
 ·rw[if_pos d]
 ·rw[if_neg d,h _ (by omega) (by omega) d]
theorem Zj7 {T k:Nat} {l9:List Int} {n10:Nat} {t:Int} (hT:T≤10) (hk:k<of.length) (hf:of.length≤300) (ht:Z0 of (k:Int)=t) (h0:0≤t) (h1:t<T) (hsT:∀s,Y5 (Z0 sets (k:Int)) s→s<T):
  Z8 (fun q:(List (List Z6))×(List Bool)×Int=>match q with|(l54,p55,v56)=>UR of (T:Int) l9 n10 (k:Int) t (Yx 10 (Y5 (Z0 sets (k:Int)))) l54 p55 v56) (X2 of sets T k,List.replicate T true,0)=some (X2 of sets T (k+1),List.replicate T true):=by
 generalize hL:Yx 10 (Y5 (Z0 sets (k:Int)))=L
 have hlen:L.length≤10:=by rw[←hL];exact TH
 have hnd:L.Nodup:=by rw[←hL];exact Zj0
 have hmem:∀s,s∈L↔Y5 (Z0 sets (k:Int)) s:=fun s=>by
  rw[←hL]
  unfold Yx
  simp only[List.mem_filter,List.mem_map,List.mem_range,decide_eq_true_eq]
  constructor
  ·exact fun h=>h.2
  ·intro h
   exact⟨⟨s.toNat,by have:=h.1;have:=h.2.1;omega,by have:=h.1;omega⟩,h⟩
 have main:=Xu (f:=fun q:(List (List Z6))×(List Bool)×Int=>match q with|(l54,p55,v56)=>UR of (T:Int) l9 n10 (k:Int) t L l54 p55 v56) (r:=(X2 of sets T (k+1),List.replicate T true))
  (fun j=>(Wh of sets T k (fun s=>s∈L.take j),List.replicate T true,(j:Int))) L.length (by omega) (fun j hj=>by
   have hw:=Zc (n:=(j:Int)+1) (by omega) (by omega)
   have hg:L[j]?=some L[j]:=List.getElem?_eq_getElem hj
   generalize L[j]=s at hg
   have hsm:=(hmem s).1 (List.mem_of_getElem? hg)
   have s0:=hsm.1
   have s1:=hsT s hsm
   have hnot:s ∉ L.take j:=by
    intro q
    obtain⟨i,hi⟩:=List.getElem?_of_mem q
    have hij:i<j:=by have:=(List.getElem?_eq_some_iff.1 hi).1;simp at this;omega
    rw[List.getElem?_take_of_lt hij]at hi
    have:=(List.getElem?_eq_some_iff.1 hi).2
    have e2:=(List.getElem?_eq_some_iff.1 hg).2
    have hii:=(List.getElem?_eq_some_iff.1 hi).1
    exact List.pairwise_iff_getElem.1 hnd i j hii hj hij (by
     have q1:=(List.getElem?_eq_some_iff.1 hi).2
     rw[q1,e2])
   have hrow:=Zcd (of:=of) (sets:=sets) (T:=T) (k:=k) (D:=fun s=>s∈L.take j) s0 s1
   rw[if_neg hnot]at hrow
   have hp:UG (List.replicate T true) s.toNat true=true:=Zc8 (by rw[List.getElem?_replicate,if_pos (by omega)])
   have hl1:lin (Wh of sets T k (fun s=>s∈L.take j)) s=true:=by rw[Ts];exact decide_eq_true ⟨s0,by rw[Z68];exact s1⟩
   have hl2:lin (YI of sets T k s) t=true:=by rw[Ts];exact decide_eq_true ⟨h0,by rw[Z4b];exact h1⟩
   have hlj:lin L (j:Int)=true:=by rw[Ts];exact decide_eq_true ⟨by omega,by omega⟩
   have hc:=Zcc (of:=of) (sets:=sets) (T:=T) (k:=k) (s:=s) h0 h1
   have hb:=Z67 (of:=of) (sets:=sets) (s:=s) (t:=t) k
   have hset:∀x:Z6,((YI of sets T k s).set t.toNat x)[t.toNat]?=some x:=fun x=>by
    rw[List.getElem?_set,if_pos rfl,if_pos (by rw[Z4b];omega)]
   have hpr:List.set (List.replicate T true) s.toNat true=List.replicate T true:=ZiY
   have hfin:∀c,c=XO of sets s t (k+1)→(some (.inl (List.set (Wh of sets T k (fun s=>s∈L.take j)) s.toNat ((YI of sets T k s).set t.toNat c),List.replicate T true,(j:Int)+1)):Option (((List (List Z6))×(List Bool)×Int)⊕(((List (List Z6))×(List Bool)))))=some (.inl (Wh of sets T k (fun s=>s∈L.take (j+1)),List.replicate T true,((j+1:Nat):Int))):=fun c e=>by
    rw[e, ←Zj1 h0 h1 ht hsm,Zj4 s0 s1]
    have:(fun x=>x∈L.take j∨x=s)=fun x=>x∈L.take (j+1):=by
     funext x
     rw[List.take_add_one,hg]
     simp
    rw[this]
    rfl
   simp only[UR,Int.toNat_natCast]
   rw[if_pos (decide_eq_true (by omega)),if_pos hlj,hg,Option.bind_some,hrow,Option.bind_some,if_pos hp,if_pos hl1,if_pos hl2,hc,Option.bind_some,Zc7,Option.bind_some,ZiZ]
   by_cases cn:XO of sets s t k=⟨0, -1, -1⟩
   ·rw[if_pos (decide_eq_true cn),Z83 (by unfold Few;omega),Option.bind_some]
    simp only[Option.bind_some,hset,List.set_set,hw,hpr]
    refine hfin _ ?_
    rw[Z4a,if_pos ⟨ht,hsm⟩,if_pos cn,cn]
    have ef:Y4 of (fun y=>s=y)=Z49 of s:=by unfold Z49;congr 1;funext y;exact propext eq_comm
    rw[ef,Zc (by simp only;omega) (by simp only;omega)]
    rfl
   ·rw[if_neg (by simpa using cn)]
    simp only[Option.bind_some,hw,hpr]
    refine hfin _ ?_
    rw[Z4a,if_pos ⟨ht,hsm⟩,if_neg cn,Zc (by unfold XO;simp only;omega) (by unfold XO;simp only;omega)]) (by
   simp only[UR]
   rw[if_neg (by simp)]
   rw[List.take_length,Zj6 (fun s s0 s1 hn=>Zj2 (fun q=>hn ((hmem s).2 q)))])
 have e0:Wh of sets T k (fun s=>s∈L.take 0)=X2 of sets T k:=by
  rw[←Zj5]
  congr 1
  funext s
  simp
 rw[e0]at main
 exact main
theorem Zj8 {T k:Nat} (h:Z0 of (k:Int) <0):X2 of sets T (k+1)=X2 of sets T k:=by
 unfold X2
 exact List.map_congr_left fun j _=>Zj3 h
theorem Zj9 {T:Nat} {n10:Nat} (hT:T≤10) (hl:sets.length=of.length) (hf:of.length≤300) (hs0:∀x∈sets,0≤x∧x<1000000000000) (hot:∀x∈of,x<T) (hsT:∀k:Nat,k<of.length→∀s,Y5 (Z0 sets (k:Int)) s→s<T):
  Z8 (fun q:(List (List Z6))×(List Bool)×Int=>match q with|(l41,p42,v43)=>US of (T:Int) sets n10 l41 p42 v43) (X2 of sets T 0,List.replicate T true,0)=some (X2 of sets T of.length,List.replicate T true):=
 Xu (f:=fun q:(List (List Z6))×(List Bool)×Int=>match q with|(l41,p42,v43)=>US of (T:Int) sets n10 l41 p42 v43) (r:=(X2 of sets T of.length,List.replicate T true)) (fun k=>(X2 of sets T k,List.replicate T true,(k:Int))) of.length (by omega) (fun k hk=>by
  have h1:inL of (k:Int):=⟨by omega,by omega⟩
  have h2:inL sets (k:Int):=⟨by omega,by omega⟩
  have hx:=hs0 _ (ZR h2)
  have hw:=Zc (n:=(k:Int)+1) (by omega) (by omega)
  simp only[US]
  rw[if_pos (decide_eq_true (by omega)),Zb h1,Option.bind_some]
  by_cases c:Z0 of (k:Int) <0
  ·rw[if_pos (decide_eq_true c),hw,Zj8 c];rfl
  ·rw[if_neg (by simpa using c),if_pos (by rw[Ts];exact decide_eq_true h2),Y8 h2,Option.bind_some,ZiX hx.1 hx.2,Option.bind_some]
   rw[Zj7 hT hk hf rfl (by omega) (hot _ (ZR h1)) (hsT k hk),Option.bind_some]
   simp only
   rw[hw];rfl) (by
  simp only[US]
  rw[if_neg (by simp)])
def Wv (n:Z2) (of:List Int) (T:Int):Prop:=0≤T∧T≤10∧YN n of∧∀x∈of,x<T
theorem Zja {n:Z2} {T:Int} (hs:SmN n) (hf:of.length≤300):Z2G n of T=some (decide (Wv n of T)):=by
 unfold Z2G
 by_cases h0:0≤T
 case neg=>rw[if_pos (decide_eq_true (by omega)),decide_eq_false (show ¬Wv n of T from fun q=>h0 q.1)]
 rw[if_neg (by simp;omega)]
 by_cases h1:T≤10
 case neg=>rw[if_pos (decide_eq_true (by omega)),decide_eq_false (show ¬Wv n of T from fun q=>h1 q.2.1)]
 rw[if_neg (by simp;omega),Z8p hs (by unfold Few;omega),Option.bind_some]
 by_cases h2:YN n of
 case neg=>rw[decide_eq_false h2,if_pos (by rfl),decide_eq_false (show ¬Wv n of T from fun q=>h2 q.2.2.1)]
 rw[decide_eq_true h2,if_neg (by simp)]
 unfold Z55 Z54
 rw[Uo (f:=Q4 of T) of (fun x=>T≤x) (by unfold Few;omega) (fun i i0 i1 hi=>by
  have hw:=Zc (n:=i+1) (by omega) (by omega)
  simp only[Q4,Z53,i1,Zb hi,hw,decide_true,if_true,Option.bind_some]
  by_cases c:T≤Z0 of i <;> simp[c]) (by simp[Q4])]
 by_cases c:0≤Y4 of (fun x=>T≤x)
 ·rw[if_pos c,decide_eq_false (show ¬Wv n of T from fun q=>by
   have:Y4 of (fun x=>T≤x) <0:=Tq.2 (fun x hx (q2:T≤x)=>by have:=q.2.2.2 x hx;omega)
   omega)]
  simp[c]
 ·rw[if_neg c,decide_eq_true (show Wv n of T from⟨h0,h1,h2,fun x hx=>by
   have:=Tq.1 (by omega:Y4 of (fun x=>T≤x) <0) x hx
   omega⟩)]
  rfl
theorem Zjb {n:Z2} {T:Int} (hf:of.length≤300):Z8 (Tb n of T) 0=if ∀x∈of,x<T then some (.inr ())else some (.inl ()):=by
 rw[YD (f:=Tb n of T) of (fun _ x=>x<T) (.inl ():Unit⊕Unit) (.inr ()) (by unfold Few;omega) (fun i i0 i1 hi=>by
  have hw:=Zc (n:=i+1) (by omega) (by omega)
  simp only[Tb,i1,Zb hi,hw,decide_true,if_true,Option.bind_some]
  by_cases c:Z0 of i<T
  ·rw[if_neg (by simp;omega),if_pos c]
  ·rw[if_pos (decide_eq_true (by omega)),if_neg c]) (by simp[Tb])]
 by_cases c:∀x∈of,x<T
 ·rw[if_pos c,if_pos (show Y9 of (fun _ x=>x<T)from fun i hi=>c _ (ZR hi))]
 ·rw[if_neg c,if_neg (fun h:Y9 of (fun _ x=>x<T)=>c fun r hr=>by obtain⟨i,hi,rfl⟩:=W0 hr;exact h i hi)]
noncomputable def XV (n:Z2) (of:List Int):List Int:=mkG n.ports.length (fun p=>if(Z0 n.ports p).link= -1 then Yb (X6 n of p) 10 else 0)
theorem Zjc {n:Z2} (hn:n.Ok) (hg:Ym n 200 100) (hf:Few of) (ho:YN n of):Z0Z n of=some (XV n of,n.ports.length,true):=by
 obtain⟨r,er,hr1,hr2⟩:=ZiE hn hg hf ho
 have hlist:r=XV n of:=by
  refine Z40.2 ⟨by unfold XV;rw[Vb];exact hr1,fun p hp=> ?_⟩
  have hpp:inL n.ports p:=⟨hp.1,by have:=hp.2;omega⟩
  show Z0 r p=Z0 (mkG _ _) p
  rw[Vu ⟨hpp.1,hpp.2⟩]
  obtain⟨q0,q1⟩:=hr2 p hpp
  have hown:=ho.2.2 p (TG ho hpp).1
  have hlk:=ZbQ ho.2.1 hpp
  have hhi:∀t,X6 n of p t→t<10:=fun t ⟨d,_,_,h⟩=>by
   have:∃k,ZU n of k d t:=h.elim (fun h=>⟨_,h⟩) (fun h=>⟨_,h⟩)
   obtain⟨k,h⟩:=this
   obtain⟨x,p',hp',hpt⟩:=Z66 h
   have:=(TG ho (Z04 hp')).2
   omega
  by_cases c:(Z0 n.ports p).link= -1
  ·rw[if_pos c]
   have h0:=(hown.2 (by omega)).1
   obtain⟨s0,s1,s2⟩:=Z09 (X6 n of p)
   refine Z5V q0 s0 (fun t=> ?_)
   rw[Bool.eq_iff_iff,q1 t,s2 t,decide_eq_true_eq]
   exact⟨fun h=>⟨hhi t h.2,h.2⟩,fun h=>⟨h0,h.2⟩⟩
  ·rw[if_neg c]
   have h0:Z0 of p= -1:=hown.1 (by omega)
   refine Z5V q0 (by omega) (fun t=> ?_)
   rw[Bool.eq_iff_iff,q1 t,VX]
   exact⟨fun h=>by omega,fun h=>by cases h⟩
 rw[er,hlist]
theorem Zce {n:Z2} :∀x∈XV n of,0≤x∧x<1000000000000:=by
 intro x hx
 obtain⟨p,hp,rfl⟩:=W0 hx
 have hp':inL n.ports p:=⟨hp.1,by have:=hp.2;unfold XV at this;rw[Vb]at this;exact this⟩
 unfold XV
 rw[Vu ⟨hp'.1,hp'.2⟩]
 split
 ·obtain⟨s0,s1,s2⟩:=Z09 (X6 n of p)
  exact⟨s0,by omega⟩
 ·omega
theorem Zjd {n:Z2} {T:Int} (ho:YN n of) (hT:∀x∈of,x<T) {k:Nat} (hk:k<n.ports.length) {s:Int} (h:Y5 (Z0 (XV n of) (k:Int)) s):s<T:=by
 obtain⟨h0,h1,h2⟩:=h
 unfold XV at h2
 rw[Vu ⟨by omega,by omega⟩]at h2
 split at h2
 ·obtain⟨_,_,s2⟩:=Z09 (X6 n of (k:Int))
  rw[s2,decide_eq_true_eq]at h2
  obtain⟨_,d,_,_,hd⟩:=h2
  have:∃q,ZU n of q d s.toNat:=hd.elim (fun h=>⟨_,h⟩) (fun h=>⟨_,h⟩)
  obtain⟨q,h⟩:=this
  obtain⟨x,p',hp',hpt⟩:=Z66 h
  have hi:=(TG ho (Z04 hp')).1
  have:=hT _ (ZR hi)
  omega
 ·rw[VX]at h2;cases h2
theorem Zje {n:Z2} {T:Int} (hn:n.Ok) (hg:Ym n 200 100) (hf:of.length≤300):Z10 n of T=some (if Wv n of T then(X2 of (XV n of) T.toNat of.length,T.toNat,true)else([],0,false)):=by
 unfold Z10
 rw[Zja hg.sm hf,Option.bind_some]
 by_cases h:Wv n of T
 case neg=>rw[decide_eq_false h,if_pos (by rfl),if_neg h]
 rw[decide_eq_true h,if_neg (by simp),if_pos h,Zjc hn hg (by unfold Few;omega) h.2.2.1,Option.bind_some]
 simp only
 obtain⟨h0,h1,ho,hot⟩:=h
 have hlen:(XV n of).length=n.ports.length:=by unfold XV;rw[Vb]
 have hol:of.length=n.ports.length:=by have:=ho.1;omega
 have hT:((T.toNat:Nat):Int)=T:=by omega
 have hmk:XY 24 T T=true:=by unfold XY;rw[decide_eq_true_eq];omega
 rw[if_pos hmk]
 have e1:=ZiW (of:=of) (sets:=XV n of) (T:=T.toNat) (l9:=XV n of) (n10:=n.ports.length) (by omega)
 have e2:=Zj9 (of:=of) (sets:=XV n of) (T:=T.toNat) (n10:=n.ports.length) (by omega) (by omega) hf Zce (fun x hx=>by have:=hot x hx;omega) (fun k hk s hs=>by have:=Zjd ho hot (by omega) hs;omega)
 rw[hT]at e1 e2
 rw[List.length_replicate,e1,Option.bind_some]
 simp only
 rw[e2,Option.bind_some]
theorem Zjf {n:Z2} {T:Int} (hn:n.Ok) (hg:Ym n 200 100) (hf:of.length≤300):Z3x n of T=some (if Wv n of T then(Uv (X2 of (XV n of) T.toNat of.length),true)else([],false)):=by
 have hs:=hg.sm
 unfold Z3x
 rw[Z63 hs (by unfold Few;omega),Option.bind_some]
 by_cases ho:YN n of
 case neg=>rw[decide_eq_false ho,if_pos (by rfl),if_neg (show ¬Wv n of T from fun q=>ho q.2.2.1)]
 rw[decide_eq_true ho,if_neg (by simp)]
 by_cases h0:0≤T
 case neg=>rw[if_pos (decide_eq_true (by omega)),if_neg (show ¬Wv n of T from fun q=>h0 q.1)]
 rw[if_neg (by simp;omega)]
 by_cases h1:T≤10
 case neg=>rw[if_pos (decide_eq_true (by omega)),if_neg (show ¬Wv n of T from fun q=>h1 q.2.1)]
 rw[if_neg (by simp;omega),Zjb hf]
 by_cases hot:∀x∈of,x<T
 case neg=>
  rw[if_neg hot,Option.bind_some]
  simp only
  rw[if_neg (show ¬Wv n of T from fun q=>hot q.2.2.2)]
 rw[if_pos hot,Option.bind_some,if_pos (show Wv n of T from⟨h0,h1,ho,hot⟩),ZiG hn hg (by unfold Few;omega) ho]
 simp only[Option.bind_some]
 have hlen:(XV n of).length=n.ports.length:=by unfold XV;rw[Vb]
 have hol:of.length=n.ports.length:=by have:=ho.1;omega
 have hT:((T.toNat:Nat):Int)=T:=by omega
 have e1:=ZiU (of:=of) (sets:=XV n of) (T:=T.toNat) (n19:=n.ports.length) (by omega) (by omega) hf Zce
 rw[hT]at e1
 have e1':=e1
 unfold XV at e1'
 rw[e1',Option.bind_some]
 rfl
end
end Go.Eng
