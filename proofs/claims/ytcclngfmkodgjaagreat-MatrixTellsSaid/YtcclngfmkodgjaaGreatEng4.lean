/- The engine, part 4: writing, freezing, seeing. -/
import Derived.Test.YtcclngfmkodgjaaGreatEng3
set_option linter.unusedVariables false
set_option linter.unusedSectionVars false
set_option linter.unusedSimpArgs false
namespace Go.Eng
open Go
variable {D:Den} [Gl D]

theorem Z1X:∀(hp:Z3 D) (i j:Nat),(Wl hp i)[j]?=if j=i then(hp[j]?).map Zf.freeze else hp[j]?
 | [],i,j=>by simp[Wl]
 |o::r,0,j=>by cases j <;> simp[Wl]
 |o::r,i+1,j=>by
  cases j with
  |zero=>simp[Wl]
  |succ j=>simp[Wl,Z1X r i j]
theorem YQ:∀(hp:Z3 D) (i j:Nat) (x:Zf D),(ZC hp i x)[j]?=if j=i then(hp[j]?).map (fun _=>x)else hp[j]?
 | [],i,j,x=>by simp[ZC]
 |o::r,0,j,x=>by cases j <;> simp[ZC]
 |o::r,i+1,j,x=>by
  cases j with
  |zero=>simp[ZC]
  |succ j=>simp[ZC,YQ r i j]
theorem Z6z:∀(hp:Z3 D) (i:Nat),(Wl hp i).length=hp.length
 | [],i=>by simp[Wl]
 |o::r,0=>by simp[Wl]
 |o::r,i+1=>by simp[Wl,Z6z r i]
theorem Z6A:∀(ids:List Nat) (hp:Z3 D),(Y6 hp ids).length=hp.length
 | [],hp=>rfl
 |i::r,hp=>by rw[Y6,Z6A r,Z6z]
theorem Z4u:∀(hp:Z3 D) (i:Nat) (x:Zf D),(ZC hp i x).length=hp.length
 | [],i,x=>by simp[ZC]
 |o::r,0,x=>by simp[ZC]
 |o::r,i+1,x=>by simp[ZC,Z4u r i x]

section
variable {P:Program} {U:Zu D} {o:Oper} {a:Act} {w:World} {E:Emb} {hp:Z3 D}

theorem Zcr (o:Zf D):o.freeze.len=o.len:=by cases o <;> rfl
theorem Zcs (o:Zf D):o.freeze.wid U=o.wid U:=by cases o <;> rfl
theorem Zct (o:Zf D):o.freeze.flat U=o.flat U:=by cases o <;> rfl
theorem Z1Y (o:Zf D):o.freeze.fz=true:=by cases o <;> rfl
theorem Zcu {cap sz:Nat} {o:Zf D} (h:WU U cap sz o):WU U cap sz o.freeze:=by cases o <;> first|exact h|trivial
theorem Zcv {o:Zf D} (h:o.isNil):o.freeze.isNil:=by cases o <;> first|exact h|trivial
theorem Zcw {o:Zf D} {x:Value} {a:AV D} (h:WA U w E hp o x a):WA U w E hp o.freeze x a:=by cases o <;> exact h
theorem DpC.none {b e:Nat} {cap:Cap} {c:List Value} {o:Zf D} (h:o.fz=true):DpC U w E hp b cap c e o:=by
 cases o with
 |box e' row f=>intro hf;rw[show f=true from h]at hf;cases hf
 |arr t l n f=>intro hf;rw[show f=true from h]at hf;cases hf
 |dp=>cases h
 |_=>trivial

def Emb.frz (E:Emb) (n id:Nat):Emb:= { E with S:=fun b=>E.S b∨∃cap,E.m id=some (b,cap)∧id<n }

theorem Zcx (hi:Inv U w E hp) (id:Nat):
  Inv U w (E.frz hp.length id) (Wl hp id)∧Zg U w E hp w (E.frz hp.length id) (Wl hp id):=by
 have get:∀j o',(Wl hp id)[j]?=some o'→∃o,hp[j]?=some o∧((j=id∧o'=o.freeze)∨(j≠id∧o'=o)):=by
  intro j o' h
  rw[Z1X]at h
  by_cases hj:j=id
  ·rw[if_pos hj]at h
   obtain⟨o,ho,rfl⟩:=Option.map_eq_some_iff.1 h
   exact⟨o,ho, .inl ⟨hj,rfl⟩⟩
  ·rw[if_neg hj]at h;exact⟨o',h, .inr ⟨hj,rfl⟩⟩
 have inblk:∀b cap,E.m id=some (b,cap)→id<hp.length→E.S b∨Own E hp b:=by
  intro b cap hm hlt
  have ho:=List.getElem?_eq_getElem hlt
  have hob:=hi.obj id _ ho
  rw[hm]at hob
  obtain⟨c,e,hb,hc,hr,f1,f2,_⟩:=hob
  cases hf:(hp[id]).fz with
  |true=>exact .inl (f1 hf)
  |false=>exact .inr ⟨id,_,ho,hf, .of hm⟩
 have hs:Zg U w E hp w (E.frz hp.length id) (Wl hp id):=by
  refine⟨rfl,rfl,rfl,fun _ _ _=>rfl,Nat.le_refl _,fun _ _ _=>rfl, ?_,fun b h=> .inl h, ?_, ?_⟩
  ·rintro b hb ⟨j,o',ho,hf,hm⟩
   obtain⟨o,ho1,⟨rfl,rfl⟩|⟨hj,rfl⟩⟩:=get j o' ho
   ·rw[Z1Y]at hf;cases hf
   ·exact⟨j,_,ho1,hf,hm⟩
  ·rintro b (h|⟨cap,hm,hlt⟩)
   ·exact .inl h
   ·rcases inblk b cap hm hlt with h|h
    ·exact .inl h
    ·exact .inr (.inl h)
  ·intro j o ho
   by_cases hj:j=id
   ·refine⟨o.freeze,by rw[Z1X,if_pos hj,ho];rfl,Zcs o,by rw[Zcr];exact Nat.le_refl _,fun _=>rfl⟩
   ·exact⟨o,by rw[Z1X,if_neg hj];exact ho,rfl,Nat.le_refl _,fun _=>rfl⟩
 refine⟨⟨fun j o' ho=> ?_,fun i j oi oj b h1 h2 f1 f2 m1 m2=> ?_,fun b hb=> ?_,hi.gl' hs⟩,hs⟩
 ·obtain⟨o,ho1,hcase⟩:=get j o' ho
  have hob:=hi.obj j o ho1
  have hlt:j<hp.length:=(List.getElem?_eq_some_iff.1 ho1).1
  show Vx U w _ _ o' (E.m j)
  rcases hcase with⟨rfl,rfl⟩|⟨hj,rfl⟩
  ·cases hm:E.m j with
   |none=>rw[hm]at hob;exact Zcv hob
   |some q=>
    obtain⟨b,cap⟩:=q
    rw[hm]at hob
    obtain⟨c,e,hb,hc,hr,f1,f2,_⟩:=hob
    have hff:¬o.freeze.fz=false:=by rw[Z1Y];simp
    refine⟨c,e,hb,Zcu hc,fun k a hk=> ?_,fun _=> .inr ⟨cap,hm,hlt⟩,fun h=>absurd h hff,fun h=>absurd h hff,DpC.none (Z1Y o)⟩
    rw[Zct]at hk
    obtain⟨x,hx,h⟩:=hr k a hk
    exact⟨x,hx,Zcw (hs.crep hi h)⟩
  ·refine hob.keep (fun _ _ _ _ _=>rfl) (fun b h=> .inl h) (fun b b0 cap hm hb hf hS=> ?_) (Nat.le_refl _) (fun x a h=>hs.rep hi h) (fun x a h=>hs.prep hi h)
   rcases hS with hS|⟨cap',hm',hlt'⟩
   ·exact hS
   ·exfalso
    have ho2:=List.getElem?_eq_getElem hlt'
    have hob2:=hi.obj id _ ho2
    rw[hm']at hob2
    obtain⟨_,_,_,_,_,g1,g2,_⟩:=hob2
    have hbj:Blk E j b:=⟨b0,cap,hm,hb⟩
    cases hf2:(hp[id]).fz with
    |true=>exact(hi.blk ho1 hf hbj).2 (g1 hf2)
    |false=>exact hj (hi.inj j id _ _ b ho1 ho2 hf hf2 hbj (.of hm'))
 ·obtain⟨o1,ho1,⟨rfl,rfl⟩|⟨hj1,rfl⟩⟩:=get i oi h1
  ·rw[Z1Y]at f1;cases f1
  ·obtain⟨o2,ho2,⟨rfl,rfl⟩|⟨hj2,rfl⟩⟩:=get j oj h2
   ·rw[Z1Y]at f2;cases f2
   ·exact hi.inj i j _ _ b ho1 ho2 f1 f2 m1 m2
 ·rcases hb with h|⟨cap,hm,hlt⟩
  ·exact hi.sb b h
  ·exact hi.mlt (List.getElem?_eq_getElem hlt) hm

theorem U1:∀(ids:List Nat) (E:Emb) (hp:Z3 D),Inv U w E hp→
  ∃E',E'.m=E.m∧(∀id∈ids,id<hp.length→∀b cap,E.m id=some (b,cap)→E'.S b)∧Inv U w E' (Y6 hp ids)∧Zg U w E hp w E' (Y6 hp ids)
 | [],E,hp,hi=>⟨E,rfl,fun _ h=>(by cases h),hi,Zg.refl U w E hp⟩
 |i::r,E,hp,hi=>by
  obtain⟨i1,s1⟩:=Zcx hi i
  obtain⟨E',hm,hS,i2,s2⟩:=U1 r _ _ i1
  refine⟨E',hm,fun id hid hlt b cap h=> ?_,i2,s1.trans s2⟩
  rcases List.mem_cons.1 hid with rfl|hid
  ·exact s2.smono b (.inr ⟨cap,h,hlt⟩)
  ·exact hS id hid (by rw[Z6z];exact hlt) b cap h

theorem Z4v:∀(ids:List Nat) (hp:Z3 D) (j:Nat),ids.contains j=false→(Y6 hp ids)[j]?=hp[j]?
 | [],hp,j,_=>rfl
 |i::r,hp,j,h=>by
  simp only[List.contains_cons,Bool.or_eq_false_iff,beq_eq_false_iff_ne]at h
  rw[Y6,Z4v r _ j h.2,Z1X,if_neg h.1]

theorem Z0k {α:Type} {l:List α} {f:α→List Prop} :ZD (l.flatMap f)↔∀x∈l,ZD (f x):=by
 induction l with
 |nil=>simp[ZD]
 |cons x r ih=>simp[YG,ih]

theorem Z1Z {S':Nat→Prop} {ids:List Nat} (hi:Inv U w E hp)
  (hS:∀id∈ids,id<hp.length→∀b cap,E.m id=some (b,cap)→S' b) (hs:∀b,E.S b→S' b):
  ∀(k:Nat) (v:Value) (c:AV D),ZD (vw hp ids k c).1→Rep U w E hp v c→ZE U w S' v (vw hp ids k c).2
 |0,v,c,_,_=> .un v
 |k+1,v,c,ho,h=>by
  have ih:=Z1Z hi hS hs k
  have up:∀ {x:Value} {a:AV D},ZE U w E.S x a→ZE U w S' x a:=fun h=>h.mono hs (fun _ _=>rfl)
  have lst:∀(vs:List Value) (cs:List (AV D)),ZD ((cs.map (vw hp ids k)).flatMap (·.1))→(∀(j:Nat) x c,vs[j]?=some x→cs[j]?=some c→Rep U w E hp x c)→
    ∀(j:Nat) x c,vs[j]?=some x→((cs.map (vw hp ids k)).map (·.2))[j]?=some c→ZE U w S' x c:=by
   intro vs cs hall hr j x c hx hc
   simp only[List.map_map,List.getElem?_map,Option.map_eq_some_iff]at hc
   obtain⟨d,hd,rfl⟩:=hc
   refine ih x d ?_ (hr j x d hx hd)
   rw[Z0k]at hall
   exact hall _ (List.mem_map.2 ⟨d,List.mem_of_getElem? hd,rfl⟩)
  cases c with
  |un=>exact .un _
  |v x=>have:=Yo h;subst this;exact .v _
  |db b=>have:=Wy h;subst this;exact .v _
  |agg cs=>
   obtain⟨vs,rfl,hl,h2⟩:=Vv h
   exact .agg vs _ (by simp[hl]) (lst vs cs ho h2)
  |tup cs=>
   obtain⟨vs,rfl,hl,h2⟩:=Z0c h
   exact .tup vs _ (by simp[hl]) (lst vs cs ho h2)
  |sl t l=>exact up (Vw h)
  |em t=>obtain⟨a,rfl⟩:=WT h;exact .sl0 t a 0
  |rp row o=>exact up (UA h)
  |sn b t l=>obtain⟨a,len,cap,rfl,_,h⟩:=Z0d h;exact up h
  |oss id n a b=>
   have h:=Vd h
   simp only[vw]at ho⊢
   split
   ·rename_i hc
    split
    ·rename_i t l ln f hob
     rw[hc,hob]at ho
     simp only[ZD,and_true]at ho
     obtain⟨_,o',ho',hle,hh⟩:=h
     rw[hob]at ho';injection ho' with ho';subst ho'
     obtain⟨hab,hbn,h3⟩:=hh ho
     have hobj:=hi.obj id _ hob
     have hln:=Wj hi hob
     have hlen:((l.take b).drop a).length=b-a:=by rw[List.length_drop,List.length_take,Nat.min_eq_left (by omega)]
     have emp:b-a=0→(∃x c,v= .slice x 0 c)→ZE U w S' v (.sl t ((l.take b).drop a)):=by
      rintro h0 ⟨x,c,rfl⟩
      rw[List.eq_nil_of_length_eq_zero (by omega:((l.take b).drop a).length=0)]
      exact .sl0 _ _ _
     cases hm':E.m id with
     |none=>rw[hm']at h3;exact emp h3.1 h3.2
     |some q=>
      obtain⟨blk,cap⟩:=q
      rw[hm']at h3 hobj
      by_cases h0:b-a=0
      ·exact emp h0 (h3.2.1 h0)
      ·obtain⟨c0,hkc,rfl⟩:=h3.1 (by omega)
       obtain⟨vs,hc1,hr⟩:=Z1V hobj
       rw[←hlen]
       refine .sl t _ blk (a * U.width t) c0 (fun k=>vs (a * U.width t+k)) (hS id (by simpa using hc) (List.getElem?_eq_some_iff.1 hob).1 blk cap hm') (by omega) (fun k c hk=> ?_) (fun k c hk=> ?_)
       ·have:=hc1 _ c (TM hk)
        simpa using this
       ·exact up (hr _ c (TM hk))
    ·exact .un _
   ·exact .un _
  |fn f first cap=>
   obtain⟨vs,ws,rfl,⟨hv,h1⟩,hw,h2⟩:=Uz h
   simp only[vw]at ho⊢
   rw[YG]at ho
   exact .fn f vs ws _ _ (by simp[hv]) (by simp[hw]) (lst vs first ho.1 h1) (lst ws cap ho.2 h2)
  |os id n=>
   have h:=W1 h
   simp only[vw]at ho⊢
   split
   ·rename_i hc
    split
    ·rename_i t l ln f hob
     rw[hc,hob]at ho
     simp only[ZD,and_true]at ho
     obtain⟨_,o',ho',hle,hh⟩:=h
     rw[hob]at ho';injection ho' with ho';subst ho'
     have h3:=hh ho
     have hobj:=hi.obj id _ hob
     cases hm':E.m id with
     |none=>
      rw[hm']at h3 hobj
      obtain⟨rfl,_⟩:=hobj
      simp only[X3]at h3
      obtain⟨hn0,a0,hv0⟩:=h3
      subst hv0
      exact .sl0 _ _ _
     |some q=>
      obtain⟨b,cap⟩:=q
      rw[hm']at h3 hobj
      simp only[X3]at h3
      subst h3
      have hln:=Wj hi hob
      subst ho;subst hln
      obtain⟨vs,hc1,hr⟩:=Z1V hobj
      obtain⟨c,e,hb,hcap,_⟩:=hobj
      exact .sl t l b 0 cap.n vs (hS id (by simpa using hc) (List.getElem?_eq_some_iff.1 hob).1 b cap hm') hcap.2.1 hc1 (fun k c hk=>up (hr k c hk))
    ·exact .un _
   ·exact .un _
  |op id n i off=>
   have h:=Wz h
   simp only[vw]at ho⊢
   split
   ·rename_i hc
    split
    ·rename_i e row f hob
     split
     ·rename_i hn
      split
      ·rename_i hi0
       rw[hc,hob,hn,hi0]at ho
       simp only at ho
       have hn':n=1:=Nat.eq_of_beq_eq_true hn
       have hi0':i=0:=Nat.eq_of_beq_eq_true hi0
       subst hn';subst hi0'
       obtain⟨_,o',ho',hle,hh⟩:=h
       rw[hob]at ho';injection ho' with ho';subst ho'
       have h3:=hh rfl
       have hobj:=hi.obj id _ hob
       cases hm':E.m id with
       |none=>rw[hm']at h3;exact h3.elim
       |some q=>
        obtain⟨b,cap⟩:=q
        rw[hm']at h3 hobj
        simp only[XW,Nat.zero_mul,Nat.zero_add]at h3
        subst h3
        obtain⟨vs,hc1,hr⟩:=Z1V hobj
        have e0:(⟨b,off,none⟩:Addr)=⟨b,0+off,none⟩:=by simp
        rw[e0]
        refine .rp _ off b 0 vs (hS id (by simpa using hc) (List.getElem?_eq_some_iff.1 hob).1 b cap hm') (fun j c hj=> ?_) (fun j c hj=> ?_)
        ·simp only[List.map_map,List.getElem?_map,Option.map_eq_some_iff]at hj
         obtain⟨d,hd,rfl⟩:=hj
         exact hc1 j d hd
        ·simp only[List.map_map,List.getElem?_map,Option.map_eq_some_iff]at hj
         obtain⟨d,hd,rfl⟩:=hj
         refine ih _ d ?_ (hr j d hd)
         rw[Z0k]at ho
         exact ho _ (List.mem_map.2 ⟨d,List.mem_of_getElem? hd,rfl⟩)
      ·exact .un _
     ·exact .un _
    ·exact .un _
   ·exact .un _

theorem U2 {S':Nat→Prop} {ids:List Nat} (hi:Inv U w E hp)
  (hS:∀id∈ids,id<hp.length→∀b cap,E.m id=some (b,cap)→S' b) (hs:∀b,E.S b→S' b)
  {vs:List Value} {cs:List (AV D)} (ho:ZD (vws hp ids cs).1) (h:ZW U w E hp vs cs):YJ U w S' vs (vws hp ids cs).2:=by
 refine⟨by simp[vws,h.1],fun k x c hx hc=> ?_⟩
 simp only[vws,List.map_map,List.getElem?_map,Option.map_eq_some_iff]at hc
 obtain⟨d,hd,rfl⟩:=hc
 refine Z1Z hi hS hs 8 x d ?_ (h.2 k x d hx hd)
 simp only[vws]at ho
 rw[Z0k]at ho
 exact ho _ (List.mem_map.2 ⟨d,List.mem_of_getElem? hd,rfl⟩)

theorem Z8N (w:World) (b:Nat) (c:Array Value) (a:Addr):(w.setRow b c).frozen? a=w.frozen? a:=by
 unfold World.frozen? World.setRow
 simp only[Array.getElem?_modify]
 by_cases h:b=a.block
 ·rw[if_pos h]
  cases hq:w.heap[a.block]? with
  |none=>rfl
  |some o=>cases o <;> rfl
 ·rw[if_neg h]

theorem TN {id b:Nat} {cap:Cap} {o' o'':Zf D} (hi:Inv U w E hp) (ho:hp[id]?=some o') (hf:o'.fz=false) (hm:E.m id=some (b,cap)) (hf':o''.fz=false)
  (hw:o''.wid U=o'.wid U) (hl:o'.len≤o''.len) (c':List Value) (hcap:WU U cap.n c'.length o'')
  (hrep:∀(k:Nat) a,(o''.flat U)[k]?=some a→∃x,c'[k]?=some x∧WA U w E hp o'' x a)
  (hnd:∀e,((∀e0 r0,o'= .box e0 r0 false→e=e0)∧(∀t0 l0 n0,o'= .arr t0 l0 n0 false→e=t0)∧∀t0 l0 pm0 op0 n0,o'= .dp t0 l0 pm0 op0 n0→e=t0)→Zg U w E hp (w.setRow b ⟨c'⟩) E (ZC hp id o'')→DpC U (w.setRow b ⟨c'⟩) E (ZC hp id o'') b cap c' e o'':=by intro _ h _;first|exact fun _=>h.1 _ _ rfl|exact fun _=>h.2.1 _ _ _ rfl|trivial):
  Inv U (w.setRow b ⟨c'⟩) E (ZC hp id o'')∧Zg U w E hp (w.setRow b ⟨c'⟩) E (ZC hp id o''):=by
 have hown:Own E hp b:=⟨id,o',ho,hf, .of hm⟩
 have hob:=hi.obj id _ ho
 rw[hm]at hob
 obtain⟨c,e,hb,hc,hr,f1,f2,f3,hdp⟩:=hob
 have htie:(∀e0 r0,o'= .box e0 r0 false→e=e0)∧(∀t0 l0 n0,o'= .arr t0 l0 n0 false→e=t0)∧∀t0 l0 pm0 op0 n0,o'= .dp t0 l0 pm0 op0 n0→e=t0:=
  ⟨by rintro e0 r0 rfl;exact hdp rfl,by rintro t0 l0 n0 rfl;exact hdp rfl,by rintro t0 l0 pm0 op0 n0 rfl;exact hdp.1⟩
 have get:∀j oj,(ZC hp id o'')[j]?=some oj→(j=id∧oj=o'')∨(j≠id∧hp[j]?=some oj):=by
  intro j oj h
  rw[YQ]at h
  by_cases hj:j=id
  ·subst hj;rw[if_pos rfl,ho]at h;simp at h;exact .inl ⟨rfl,h.symm⟩
  ·rw[if_neg hj]at h;exact .inr ⟨hj,h⟩
 have hs:Zg U w E hp (w.setRow b ⟨c'⟩) E (ZC hp id o''):=by
  refine⟨rfl,rfl,rfl,fun q _ _=>Z8N w _ _ q,by simp,fun k hk hn=>setRow_other w b k _ (fun e=>hn (e ▸hown)), ?_,fun _ h=>h,fun _ h=> .inl h, ?_⟩
  ·rintro k hk ⟨j,oj,h1,h2,h3⟩
   rcases get j oj h1 with⟨rfl,rfl⟩|⟨_,h⟩
   ·exact⟨j,o',ho,hf,h3⟩
   ·exact⟨j,oj,h,h2,h3⟩
  ·intro j oj hj
   by_cases hji:j=id
   ·subst hji
    rw[ho]at hj;injection hj with hj;subst hj
    exact⟨o'',by rw[YQ,if_pos rfl,ho];rfl,hw,hl,fun _=>rfl⟩
   ·exact⟨oj,by rw[YQ,if_neg hji];exact hj,rfl,Nat.le_refl _,fun _=>rfl⟩
 refine⟨⟨fun j oj hj=> ?_,fun i j oi oj b' h1 h2 g1 g2 m1 m2=> ?_,fun k hk=>by have:=hi.sb k hk;simpa using this,hi.gl' hs⟩,hs⟩
 ·rcases get j oj hj with⟨rfl,rfl⟩|⟨hji,h⟩
  ·rw[hm]
   refine⟨c',e,setRow_heap w b ⟨c⟩ ⟨c'⟩ e (0,0) hb,hcap,fun k a hk=> ?_,fun h=>(by rw[hf']at h;cases h),fun _=>f2 hf,fun _ b' hn=>⟨by simpa using (f3 hf b' hn).1,(f3 hf b' hn).2⟩,hnd e htie hs⟩
   obtain⟨x,hx,h⟩:=hrep k a hk
   exact⟨x,hx,hs.crep hi h⟩
  ·refine(hi.obj j oj h).keep (fun b' b0 cp hm' hbb=>setRow_other w b b' _ (fun e'=> ?_)) (fun _ h=>h) (fun _ _ _ _ _ _ h=>h) (by simp) (fun x a h=>hs.rep hi h) (fun x a h=>hs.prep hi h)
   subst e'
   have hbj:Blk E j b':=⟨b0,cp,hm',hbb.imp (fun h=>h) (·.1)⟩
   cases hfj:oj.fz with
   |true=>
    rcases hbb with rfl|⟨_,hbb⟩
    ·have:=hi.obj j oj h
     rw[hm']at this
     obtain⟨_,_,_,_,_,g1,_⟩:=this
     exact f2 hf (g1 hfj)
    ·rw[hfj]at hbb;cases hbb
   |false=>exact hji (hi.inj j id oj o' b' h ho hfj hf hbj (.of hm))
 ·have e1:∃o1,hp[i]?=some o1∧o1.fz=false:=by
   rcases get i oi h1 with⟨rfl,rfl⟩|⟨_,h⟩
   ·exact⟨o',ho,hf⟩
   ·exact⟨oi,h,g1⟩
  have e2:∃o2,hp[j]?=some o2∧o2.fz=false:=by
   rcases get j oj h2 with⟨rfl,rfl⟩|⟨_,h⟩
   ·exact⟨o',ho,hf⟩
   ·exact⟨oj,h,g2⟩
  obtain⟨o1,p1,q1⟩:=e1
  obtain⟨o2,p2,q2⟩:=e2
  exact hi.inj i j o1 o2 b' p1 p2 q1 q2 m1 m2

theorem Zcy {id cap:Nat} {o' o'':Zf D} (hi:Inv U w E hp) (ho:hp[id]?=some o') (hf':o''.fz=false)
  (hw:o''.wid U=o'.wid U) (hl:o'.len<o''.len) (hf:o'.fz=false) (c':List Value) (e:Nat) (hcap:WU U cap c'.length o'')
  (hrep:∀(k:Nat) a,(o''.flat U)[k]?=some a→∃x,c'[k]?=some x∧WA U w E hp o'' x a) (hnd:∀E' w' hp' b cap c,DpC U w' E' hp' b cap c e o'':=by intros;first|exact fun _=>rfl|trivial):
  Inv U { w with heap:=w.heap.push (.cells ⟨c'⟩ e (0,0)) } (E.upd id (some (w.heap.size,cap))) (ZC hp id o'')∧
  Zg U w E hp { w with heap:=w.heap.push (.cells ⟨c'⟩ e (0,0)) } (E.upd id (some (w.heap.size,cap))) (ZC hp id o''):=by
 have get:∀j oj,(ZC hp id o'')[j]?=some oj→(j=id∧oj=o'')∨(j≠id∧hp[j]?=some oj):=by
  intro j oj h
  rw[YQ]at h
  by_cases hj:j=id
  ·subst hj;rw[if_pos rfl,ho]at h;simp at h;exact .inl ⟨rfl,h.symm⟩
  ·rw[if_neg hj]at h;exact .inr ⟨hj,h⟩
 have hs:Zg U w E hp { w with heap:=w.heap.push (.cells ⟨c'⟩ e (0,0)) } (E.upd id (some (w.heap.size,cap))) (ZC hp id o''):=by
  refine⟨rfl,rfl,rfl,fun q _ _=>Z0e w _ _ q,by simp,fun k hk hn=>WX hk, ?_,fun _ h=>h,fun _ h=> .inl h, ?_⟩
  ·rintro k hk ⟨j,oj,h1,h2,h3⟩
   rcases get j oj h1 with⟨rfl,rfl⟩|⟨hji,h⟩
   ·have:=WW.1 h3;omega
   ·exact⟨j,oj,h,h2,(Xp hji).1 h3⟩
  ·intro j oj hj
   by_cases hji:j=id
   ·subst hji
    rw[ho]at hj;injection hj with hj;subst hj
    exact⟨o'',by rw[YQ,if_pos rfl,ho];rfl,hw,by omega,fun h=>by omega⟩
   ·exact⟨oj,by rw[YQ,if_neg hji];exact hj,rfl,Nat.le_refl _,fun _=>by simp only[Emb.upd];rw[if_neg hji]⟩
 refine⟨⟨fun j oj hj=> ?_,fun i j oi oj b' h1 h2 g1 g2 m1 m2=> ?_,fun k hk=>by have:=hi.sb k hk;simp;omega,hi.gl' hs⟩,hs⟩
 ·rcases get j oj hj with⟨rfl,rfl⟩|⟨hji,h⟩
  ·have em:(E.upd j (some (w.heap.size,cap))).m j=some (w.heap.size,(cap:Cap)):=by simp[Emb.upd]
   rw[em]
   have hb:(w.heap.push (.cells ⟨c'⟩ e (0,0)))[w.heap.size]?=some (.cells ⟨c'⟩ e (0,0)):=by simp
   refine⟨c',e,hb,hcap,fun k a hk=> ?_,fun h=>(by rw[hf']at h;cases h),fun _ h=>absurd (hi.sb _ h) (by omega),fun _ b' hn=>hn.elim,hnd _ _ _ _ _ _⟩
   obtain⟨x,hx,h⟩:=hrep k a hk
   exact⟨x,hx,hs.crep hi h⟩
  ·have em:(E.upd id (some (w.heap.size,cap))).m j=E.m j:=by simp only[Emb.upd];rw[if_neg hji]
   rw[em]
   exact(hi.obj j oj h).keep (fun b' b0 cp hm' hbb=>WX (by
     rcases hbb with rfl|⟨hn,hf0⟩
     ·exact hi.mlt h hm'
     ·exact(hi.blk h hf0 ⟨b0,cp,hm', .inr hn⟩).1)) (fun _ h=>h) (fun _ _ _ _ _ _ h=>h) (by simp) (fun x a h=>hs.rep hi h) (fun x a h=>hs.prep hi h)
 ·rcases get i oi h1 with⟨rfl,rfl⟩|⟨n1,p1⟩ <;> rcases get j oj h2 with⟨rfl,rfl⟩|⟨n2,p2⟩
  ·rfl
  ·have:=(hi.blk p2 g2 ((Xp n2).1 m2)).1;have:=WW.1 m1;omega
  ·have:=(hi.blk p1 g1 ((Xp n1).1 m1)).1;have:=WW.1 m2;omega
  ·exact hi.inj i j oi oj b' p1 p2 g1 g2 ((Xp n1).1 m1) ((Xp n2).1 m2)
end
end Go.Eng
