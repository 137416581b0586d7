/- The engine, part 9: calls. -/
import Derived.Test.YtcclngfmkodgjaaGreatEng8
set_option linter.unusedVariables false
set_option linter.unusedSectionVars false
set_option linter.unusedSimpArgs false
namespace Go.Eng
open Go
variable {D:Den} [Gl D]

section
variable {P:Program} {U:Zu D} {o:Oper} {a:Act} {w:World} {E:Emb} {hp:Z3 D}

theorem VC (ρ:Nat→Option Nat) (o:Zf D):(YL ρ o).len=o.len:=by cases o <;> rfl
theorem Z21 (ρ:Nat→Option Nat) (o:Zf D):(YL ρ o).wid U=o.wid U:=by cases o <;> simp[YL,Zf.wid]
theorem VD (ρ:Nat→Option Nat) (o:Zf D):(YL ρ o).fz=o.fz:=by cases o <;> rfl

theorem Z0n {E2:Emb} {hp2:Z3 D} {ρ:Nat→Option Nat} (hS:∀b,E.S b→E2.S b)
  (hρ:∀id j o,ρ id=some j→hp[id]?=some o→hp2[j]?=some (YL ρ o)∧E2.m j=E.m id):
  ∀(k:Nat) (v:Value) (c:AV D),Rep U w E hp v c→Rep U w E2 hp2 v (ren ρ k c)
 |0,v,c,_=> .un v
 |k+1,v,c,h=>by
  have ih:=Z0n hS hρ k
  have lst:∀(vs:List Value) (cs:List (AV D)),ZW U w E hp vs cs→ZW U w E2 hp2 vs (cs.map (ren ρ k)):=by
   intro vs cs hr
   refine⟨by simp[hr.1],fun j x c hx hc=> ?_⟩
   simp only[List.getElem?_map,Option.map_eq_some_iff]at hc
   obtain⟨d,hd,rfl⟩:=hc
   exact ih x d (hr.2 j x d hx hd)
  cases c with
  |un=>exact .un _
  |v x=>have:=Yo h;subst this;exact .v _
  |db b=>have:=Wy h;subst this;exact .v _
  |agg cs=>obtain⟨vs,rfl,h2⟩:=Vv h;exact .agg vs _ (lst vs cs h2).1 (lst vs cs h2).2
  |tup cs=>obtain⟨vs,rfl,h2⟩:=Z0c h;exact .tup vs _ (lst vs cs h2).1 (lst vs cs h2).2
  |sl t l=>exact .pure _ _ ((Vw h).mono hS (fun _ _=>rfl))
  |em t=>obtain⟨a,rfl⟩:=WT h;exact .em t a
  |rp row o=>exact .pure _ _ ((UA h).mono hS (fun _ _=>rfl))
  |sn b t l=>
   obtain⟨a,len,cap,rfl,rfl,h9⟩:=Z0d h
   exact .pure _ _ (.sn t l a len cap (ZE.mono hS (fun _ _=>rfl) h9))
  |oss id n a b=>
   simp only[ren]
   split
   ·rename_i j hj
    obtain⟨hv,o,ho,hn,hh⟩:=Vd h
    obtain⟨h1,h2⟩:=hρ id j o hj ho
    exact .oss _ _ _ _ _ ⟨hv,YL ρ o,h1,by rw[VC];exact hn,fun e=>by rw[h2,Z21];exact hh (by rw[VC]at e;exact e)⟩
   ·exact .un _
  |fn f first cap=>
   obtain⟨vs,ws,rfl,h1,h2⟩:=Uz h
   exact Rep.fn f vs ws _ _ (lst vs first h1).1 (lst ws cap h2).1 (lst vs first h1).2 (lst ws cap h2).2
  |os id n=>
   simp only[ren]
   split
   ·rename_i j hj
    obtain⟨hv,o,ho,hn,hh⟩:=W1 h
    obtain⟨h1,h2⟩:=hρ id j o hj ho
    exact .os _ _ _ ⟨hv,YL ρ o,h1,by rw[VC];exact hn,fun e=>by rw[h2];exact hh (by rw[VC]at e;exact e)⟩
   ·exact .un _
  |op id n i off=>
   simp only[ren]
   split
   ·rename_i j hj
    obtain⟨hv,o,ho,hn,hh⟩:=Wz h
    obtain⟨h1,h2⟩:=hρ id j o hj ho
    exact .op _ _ _ _ _ ⟨hv,YL ρ o,h1,by rw[VC];exact hn,fun e=>by rw[h2,Z21];exact hh (by rw[VC]at e;exact e)⟩
   ·exact .un _

theorem ZcM {E2:Emb} {hp2:Z3 D} {ρ:Nat→Option Nat} (hS:∀b,E.S b→E2.S b)
  (hρ:∀id j o,ρ id=some j→hp[id]?=some o→hp2[j]?=some (YL ρ o)∧E2.m j=E.m id) (k:Nat) {vs:List Value} {cs:List (AV D)} (h:ZW U w E hp vs cs):
  ZW U w E2 hp2 vs (cs.map (ren ρ k)):=by
 refine⟨by simp[h.1],fun j x c hx hc=> ?_⟩
 simp only[List.getElem?_map,Option.map_eq_some_iff]at hc
 obtain⟨d,hd,rfl⟩:=hc
 exact Z0n hS hρ k x d (h.2 j x d hx hd)

theorem Z6B {E2:Emb} {hp2:Z3 D} {ρ:Nat→Option Nat} (hS:∀b,E.S b→E2.S b)
  (hρ:∀id j o,ρ id=some j→hp[id]?=some o→hp2[j]?=some (YL ρ o)∧E2.m j=E.m id) {o:Zf D} {mb:Option (Nat×Cap)}
  (hSo:∀b b0 cap,mb=some (b0,cap)→(b=b0∨cap.ns b)→o.fz=false→¬E2.S b) (h:Vx U w E hp o mb):Vx U w E2 hp2 (YL ρ o) mb:=by
 cases mb with
 |none=>
  cases o with
  |dp t l pm op n=>obtain⟨h1,h2,rfl,h4⟩:=h;exact⟨h1,h2,rfl,h4⟩
  |_=>exact h
 |some q=>
  obtain⟨b,cap⟩:=q
  obtain⟨c,e,h1,h2,h3,h4,h5,h6,h7⟩:=h
  refine⟨c,e,h1, ?_,fun k d hk=> ?_,fun hf=>hS b (h4 (by rw[VD]at hf;exact hf)),fun hf=>hSo b b cap rfl (.inl rfl) (by rw[VD]at hf;exact hf),fun hf b' hn=>⟨(h6 (by rw[VD]at hf;exact hf) b' hn).1,hSo b' b cap rfl (.inr hn) (by rw[VD]at hf;exact hf)⟩, ?_⟩
  ·cases o with
   |box e row f=>simp only[WU,YL,List.length_map]at h2⊢;exact h2
   |_=>exact h2
  ·cases o with
   |arr t l f=>
    obtain⟨x,hx,hr⟩:=h3 k d hk
    exact⟨x,hx,ZE.mono hS (fun _ _=>rfl) hr⟩
   |box e row f=>
    simp only[YL,Zf.flat,List.getElem?_map,Option.map_eq_some_iff]at hk
    obtain⟨d',hd',rfl⟩:=hk
    obtain⟨x,hx,hr⟩:=h3 k d' hd'
    exact⟨x,hx,Z0n hS hρ 8 x d' hr⟩
   |_=>simp[YL,Zf.flat]at hk
  ·cases o with
   |dp t l pm op n=>
    obtain⟨g0,g1,q,g2,g3,g4⟩:=h7
    refine⟨g0,fun i row he=> ?_,q,g2,g3,fun i x hx hne k a hk=> ?_⟩
    ·obtain⟨⟨i',row'⟩,ho,he⟩:=Option.map_eq_some_iff.1 he
     injection he with he1 he2
     subst he1;subst he2
     obtain⟨f1,f2,f3⟩:=g1 i' row' ho
     refine⟨f1,by rw[List.length_map];exact f2,fun k a hk=> ?_⟩
     simp only[List.getElem?_map,Option.map_eq_some_iff]at hk
     obtain⟨d',hd',rfl⟩:=hk
     obtain⟨x,hx,hr⟩:=f3 k d' hd'
     exact⟨x,hx,Z0n hS hρ 8 x d' hr⟩
    ·obtain⟨v,hv,f1,f2⟩:=g4 i x hx (fun row ho=>hne (row.map (ren ρ 8)) (by rw[ho];rfl)) k a hk
     exact⟨v,hv,fun hp=>(f1 hp).keep (fun _ _ _=>rfl) (fun x a h=>ZE.mono hS (fun _ _=>rfl) h),fun hp=>ZE.mono hS (fun _ _=>rfl) (f2 hp)⟩
   |box e' row f=>exact h7
   |arr t l n f=>exact h7
   |_=>trivial

theorem Z6C {ρ:Nat→Option Nat} :∀(ids:List Nat) (h:Z3 D),sub hp ρ ids=some h→
  h.length=ids.length∧(∀(j:Nat) i,ids[j]?=some i→∃o:Zf D,hp[i]?=some o∧h[j]?=some (YL ρ o))
 | [],h,hs=>by simp[sub]at hs;subst hs;exact⟨rfl,fun j i h=>by simp at h⟩
 |i::r,h,hs=>by
  simp only[sub]at hs
  split at hs
  ·rename_i o h1 ho hh
   injection hs with hs;subst hs
   obtain⟨hl,hg⟩:=Z6C r h1 hh
   refine⟨by simp[hl],fun j k hk=> ?_⟩
   cases j with
   |zero=>simp at hk;subst hk;exact⟨o,ho,rfl⟩
   |succ j=>exact hg j k (by simpa using hk)
  ·cases hs

theorem Z22 {ids:List Nat} {i j:Nat} (h:idx ids i=some j):ids[j]?=some i:=by
 unfold idx at h
 obtain⟨hlt,h1,_⟩:=List.findIdx?_eq_some_iff_getElem.1 h
 rw[List.getElem?_eq_getElem hlt]
 exact congrArg some (Nat.eq_of_beq_eq_true h1).symm

theorem ZcN {ids:List Nat} {i:Nat} (h:idx ids i=none):∀(j:Nat),ids[j]?≠some i:=by
 unfold idx at h
 rw[List.findIdx?_eq_none_iff]at h
 intro j hj
 have:=h i (List.mem_of_getElem? hj)
 simp at this

theorem Z23:∀ {ids:List Nat},X4 ids=true→∀ {j k i:Nat},ids[j]?=some i→ids[k]?=some i→j=k
 | [],_,j,k,i,h,_=>by simp at h
 |a::r,hn,j,k,i,h1,h2=>by
  simp only[X4,Bool.and_eq_true,Bool.not_eq_true']at hn
  have hna:∀(m:Nat),r[m]?≠some a:=by
   intro m hm
   have:=List.mem_of_getElem? hm
   have h3:=hn.1
   rw[List.contains_eq_mem]at h3
   simp[this]at h3
  cases j with
  |zero=>
   cases k with
   |zero=>rfl
   |succ k=>simp at h1 h2;subst h1;exact absurd h2 (hna k)
  |succ j=>
   cases k with
   |zero=>simp at h1 h2;subst h2;exact absurd h1 (hna j)
   |succ k=>simp at h1 h2;rw[Z23 hn.2 h1 h2]

theorem Z8U {ρ:Nat→Option Nat} :∀(ids:List Nat) (hp h' hp':Z3 D),TJ ρ hp ids h'=some hp'→X4 ids=true→(∀i∈ids,i<hp.length)→
  (∀(j:Nat) i,ids[j]?=some i→∃o:Zf D,h'[j]?=some o∧hp'[i]?=some (YL ρ o))∧(∀i,i<hp.length→(∀(j:Nat),ids[j]?≠some i)→hp'[i]?=hp[i]?)∧
  (∀(m:Nat),hp'[hp.length+m]?=(h'[ids.length+m]?).map (YL ρ))∧ids.length≤h'.length
 | [],hp,h',hp',hs,_,_=>by
  simp[TJ]at hs;subst hs
  refine⟨fun j i h=>by simp at h,fun i hi _=>by rw[List.getElem?_append_left hi],fun m=> ?_,by simp⟩
  rw[List.getElem?_append_right (by omega)]
  simp
 |i::r,hp,[],hp',hs,_,_=>by simp[TJ]at hs
 |i::r,hp,o::h',hp',hs,hn,hlt=>by
  simp only[TJ]at hs
  have hn2:=hn
  simp only[X4,Bool.and_eq_true,Bool.not_eq_true']at hn
  obtain⟨h1,h2,h3,h4⟩:=Z8U r (ZC hp i (YL ρ o)) h' hp' hs hn.2 (fun k hk=>by rw[Z4u];exact hlt k (by simp[hk]))
  rw[Z4u]at h2 h3
  have hi:=hlt i (by simp)
  have hnot:∀(m:Nat),r[m]?≠some i:=fun m hm=>by
   have:=Z23 hn2 (j:=0) (k:=m+1) (i:=i) rfl (by simpa using hm)
   omega
  refine⟨fun j k hk=> ?_,fun k hk hne=> ?_,fun m=> ?_,by simp;omega⟩
  ·cases j with
   |zero=>
    simp at hk;subst hk
    exact⟨o,rfl,by rw[h2 i hi hnot,YQ,if_pos rfl,List.getElem?_eq_getElem hi];rfl⟩
   |succ j=>exact h1 j k (by simpa using hk)
  ·have hki:k≠i:=fun e=>hne 0 (by simp[e])
   rw[h2 k hk (fun j hj=>hne (j+1) (by simpa using hj)),YQ,if_neg hki]
  ·rw[h3 m]
   simp[Nat.add_right_comm]

theorem ZcO {k:FuncId} {ids:List Nat} {args:List (AV D)} {vs:List Value} {h h' hp':Z3 D} {r:AV D} (hi:Inv U w E hp)
  (hs:sub hp (idx ids) ids=some h) (hnd:X4 ids=true) (hwb:TJ (Xl ids hp.length) hp ids h'=some hp')
  (hc:Z7 P U k (args.map (ren (idx ids) 8)) h r h') (hargs:ZW U w E hp vs args):
  Calls P k ⟨vs⟩ w fun e w'=>∃v E',e= .returned v∧Inv U w' E' hp'∧Zg U w E hp w' E' hp'∧Rep U w' E' hp' v (ren (Xl ids hp.length) 8 r):=by
 obtain⟨hhl,hsub⟩:=Z6C ids h hs
 have hlt:∀i∈ids,i<hp.length:=fun i hi'=>by
  obtain⟨j,hj⟩:=List.mem_iff_getElem?.1 hi'
  obtain⟨o,ho,_⟩:=hsub j i hj
  exact(List.getElem?_eq_some_iff.1 ho).1
 obtain⟨w1,w2,w3,w4⟩:=Z8U ids hp h' hp' hwb hnd hlt
 -- the callee's view
 let E2:Emb:= { m:=fun j=>match ids[j]? with|some i=>E.m i|none=>none,S:=E.S }
 have hE2:∀(j:Nat) i,ids[j]?=some i→E2.m j=E.m i:=fun j i hj=>by simp only[E2,hj]
 have hget:∀(j:Nat) oj,h[j]?=some oj→∃(i:Nat) (o:Zf D),ids[j]?=some i∧hp[i]?=some o∧oj=YL (idx ids) o:=by
  intro j oj hj
  have hjl:j<ids.length:=by rw[←hhl];exact(List.getElem?_eq_some_iff.1 hj).1
  obtain⟨o,ho,h2⟩:=hsub j _ (List.getElem?_eq_getElem hjl)
  rw[h2]at hj;injection hj with hj
  exact⟨_,o,List.getElem?_eq_getElem hjl,ho,hj.symm⟩
 have hρ:∀id j o,idx ids id=some j→hp[id]?=some o→h[j]?=some (YL (idx ids) o)∧E2.m j=E.m id:=by
  intro id j o hj ho
  have:=Z22 hj
  obtain⟨o',ho',h2⟩:=hsub j id this
  rw[ho]at ho';injection ho' with ho';subst ho'
  exact⟨h2,hE2 j id this⟩
 have own2:∀b,Own E2 h b→∃(j:Nat) (i:Nat) (o:Zf D),ids[j]?=some i∧hp[i]?=some o∧o.fz=false∧Blk E i b:=by
  rintro b ⟨j,oj,hj,hf,hm⟩
  obtain⟨i,o,hji,ho,rfl⟩:=hget j oj hj
  exact⟨j,i,o,hji,ho,by rw[VD]at hf;exact hf,hm.congr (hE2 j i hji).symm⟩
 have i2:Inv U w E2 h:=by
  refine⟨fun j oj hj=> ?_,fun j1 j2 o1 o2 b g1 g2 f1 f2 m1 m2=> ?_,hi.sb,hi.gl⟩
  ·obtain⟨i,o,hji,ho,rfl⟩:=hget j oj hj
   rw[hE2 j i hji]
   refine Z6B (E:=E) (hp:=hp) (E2:=E2) (fun _ h=>h) hρ (fun b b0 cap hm hb hf=> ?_) (hi.obj i o ho)
   exact Own.notS hi ⟨i,o,ho,hf,b0,cap,hm,hb⟩
  ·obtain⟨i1,p1,q1,r1,rfl⟩:=hget j1 o1 g1
   obtain⟨i2,p2,q2,r2,rfl⟩:=hget j2 o2 g2
   rw[VD]at f1 f2
   have:=hi.inj i1 i2 p1 p2 b r1 r2 f1 f2 (m1.congr (hE2 j1 i1 q1).symm) (m2.congr (hE2 j2 i2 q2).symm)
   subst this
   exact Z23 hnd q1 q2
 have a2:ZW U w E2 h vs (args.map (ren (idx ids) 8)):=ZcM (E:=E) (hp:=hp) (E2:=E2) (fun _ h=>h) hρ 8 hargs
 refine(hc.2 w E2 vs i2 a2).mono fun e w' ⟨v,E',he,i3,s3,r3⟩=> ?_
 -- back
 let E3:Emb:= { m:=fun id=>match idx ids id with|some j=>E'.m j|none=>if id<hp.length then E.m id else E'.m (ids.length+(id-hp.length)),S:=E'.S }
 have hE3in:∀(j:Nat) i,ids[j]?=some i→E3.m i=E'.m j:=by
  intro j i hj
  cases hx:idx ids i with
  |none=>exact absurd hj (ZcN hx j)
  |some j'=>
   have:=Z23 hnd (Z22 hx) hj
   subst this
   simp only[E3,hx]
 have hidxlt:∀i,i<hp.length→(∀(j:Nat),ids[j]?≠some i)→E3.m i=E.m i:=by
  intro i hil hne
  cases hx:idx ids i with
  |some j=>exact absurd (Z22 hx) (hne j)
  |none=>simp only[E3,hx,if_pos hil]
 have hE3new:∀m,E3.m (hp.length+m)=E'.m (ids.length+m):=by
  intro m
  cases hx:idx ids (hp.length+m)with
  |some j=>have:=hlt _ (List.mem_of_getElem? (Z22 hx));omega
  |none=>
   simp only[E3,hx]
   rw[if_neg (by omega)]
   congr 1;omega
 have back:∀j id o,Xl ids hp.length j=some id→h'[j]?=some o→hp'[id]?=some (YL (Xl ids hp.length) o)∧E3.m id=E'.m j:=by
  intro j id o hb ho
  unfold Xl at hb
  cases hj:ids[j]? with
  |some i=>
   rw[hj]at hb;injection hb with hb;subst hb
   obtain⟨o',ho',h2⟩:=w1 j i hj
   rw[ho]at ho';injection ho' with ho';subst ho'
   exact⟨h2,hE3in j i hj⟩
  |none=>
   rw[hj]at hb;injection hb with hb
   have hjl:ids.length≤j:=by
    rcases Nat.lt_or_ge j ids.length with hh|hh
    ·rw[List.getElem?_eq_getElem hh]at hj;cases hj
    ·exact hh
   subst hb
   refine⟨?_,by rw[hE3new];congr 1;omega⟩
   rw[w3 (j-ids.length),show ids.length+(j-ids.length)=j from by omega,ho];rfl
 -- what stands where
 have cases':∀id o',hp'[id]?=some o'→(∃(j:Nat) (o:Zf D),h'[j]?=some o∧o'=YL (Xl ids hp.length) o∧E3.m id=E'.m j∧Xl ids hp.length j=some id)∨(id<hp.length∧(∀(j:Nat),ids[j]?≠some id)∧hp[id]?=some o'):=by
  intro id o' ho'
  by_cases hin:∃(j:Nat),ids[j]?=some id
  ·obtain⟨j,hj⟩:=hin
   obtain⟨o,ho,h2⟩:=w1 j id hj
   rw[h2]at ho';injection ho' with ho'
   exact .inl ⟨j,o,ho,ho'.symm,hE3in j id hj,by simp[Xl,hj]⟩
  ·have hne:∀(j:Nat),ids[j]?≠some id:=fun j hj=>hin ⟨j,hj⟩
   by_cases hl:id<hp.length
   ·rw[w2 id hl hne]at ho';exact .inr ⟨hl,hne,ho'⟩
   ·have e:id=hp.length+(id-hp.length):=by omega
    rw[e,w3 (id-hp.length)]at ho'
    obtain⟨o,ho,h2⟩:=Option.map_eq_some_iff.1 ho'
    refine .inl ⟨ids.length+(id-hp.length),o,ho,h2.symm,by rw[e,hE3new];congr 1;omega, ?_⟩
    have:ids[ids.length+(id-hp.length)]?=none:=List.getElem?_eq_none (by omega)
    simp only[Xl,this]
    congr 1;omega
 have notown2:∀id o b,hp[id]?=some o→(∀(j:Nat),ids[j]?≠some id)→Blk E id b→(o.fz=false∨∃cap,E.m id=some (b,cap))→¬Own E2 h b:=by
  intro id o b ho hne hm hor hown
  obtain⟨j,i,oi,hji,hoi,hfi,hmi⟩:=own2 b hown
  cases hf:o.fz with
  |false=>exact hne j ((hi.inj i id oi o b hoi ho hfi hf hmi hm) ▸hji)
  |true=>
   rcases hor with h9|⟨cap,hm9⟩
   ·rw[hf]at h9;cases h9
   ·have hob:=hi.obj id o ho
    rw[hm9]at hob
    obtain⟨_,_,_,_,_,g1,_⟩:=hob
    exact Own.notS hi ⟨i,oi,hoi,hfi,hmi⟩ (g1 hf)
 have sall:Zg U w E hp w' E3 hp':=by
  refine⟨s3.os,s3.tape,s3.output,fun a ha hn=>s3.fz a ha (fun ho=>hn ?_),s3.size,fun b hb hn=>s3.keep b hb (fun ho=>hn ?_),fun b hb ho=> ?_,fun b hb=>s3.smono b hb,fun b hb=> ?_,fun id o ho=> ?_⟩
  ·obtain⟨j,i,oi,_,hoi,hfi,hmi⟩:=own2 _ ho
   exact⟨i,oi,hoi,hfi,hmi⟩
  ·obtain⟨j,i,oi,_,hoi,hfi,hmi⟩:=own2 b ho
   exact⟨i,oi,hoi,hfi,hmi⟩
  ·obtain⟨id,o',ho',hf,hm⟩:=ho
   rcases cases' id o' ho' with⟨j,oj,hj,rfl,hmj,_⟩|⟨hl,hne,ho2⟩
   ·rw[VD]at hf
    obtain⟨_,i,oi,_,hoi,hfi,hmi⟩:=own2 b (s3.own b hb ⟨j,oj,hj,hf,hm.congr hmj.symm⟩)
    exact⟨i,oi,hoi,hfi,hmi⟩
   ·exact⟨id,o',ho2,hf,hm.congr (hidxlt id hl hne).symm⟩
  ·rcases s3.snew b hb with hh|hh|hh
   ·exact .inl hh
   ·obtain⟨_,i,oi,_,hoi,hfi,hmi⟩:=own2 b hh
    exact .inr (.inl ⟨i,oi,hoi,hfi,hmi⟩)
   ·exact .inr (.inr hh)
  ·have hl:id<hp.length:=(List.getElem?_eq_some_iff.1 ho).1
   by_cases hin:∃(j:Nat),ids[j]?=some id
   ·obtain⟨j,hj⟩:=hin
    obtain⟨o',ho',h2⟩:=w1 j id hj
    obtain⟨o1,ho1,hsubj⟩:=hsub j id hj
    rw[ho]at ho1;injection ho1 with ho1;subst ho1
    obtain⟨o2,ho2,e1,e2,e3⟩:=s3.evo j _ hsubj
    rw[ho']at ho2;injection ho2 with ho2;subst ho2
    rw[Z21]at e1
    rw[VC]at e2 e3
    refine⟨_,h2,by rw[Z21];exact e1,by rw[VC];exact e2,fun hh=> ?_⟩
    rw[VC]at hh
    rw[hE3in j id hj, ←hE2 j id hj];exact e3 hh
   ·have hne:∀(j:Nat),ids[j]?≠some id:=fun j hj=>hin ⟨j,hj⟩
    exact⟨o,by rw[w2 id hl hne];exact ho,rfl,Nat.le_refl _,fun _=>by rw[hidxlt id hl hne]⟩
 refine⟨v,E3,he,⟨fun id o' ho'=> ?_,fun id1 id2 o1 o2 b g1 g2 f1 f2 m1 m2=> ?_,fun b hb=>i3.sb b hb,i3.gl⟩,sall,Z0n (E:=E') (hp:=h') (E2:=E3) (fun _ h=>h) back 8 v r r3⟩
 ·rcases cases' id o' ho' with⟨j,oj,hj,rfl,hmj,_⟩|⟨hl,hne,ho2⟩
  ·rw[hmj]
   refine Z6B (E:=E') (hp:=h') (E2:=E3) (fun _ h=>h) back (fun b b0 cap hm hb hf=> ?_) (i3.obj j oj hj)
   exact Own.notS i3 ⟨j,oj,hj,hf,b0,cap,hm,hb⟩
  ·rw[hidxlt id hl hne]
   have hor:∀b b0 cap,E.m id=some (b0,cap)→(b=b0∨cap.ns b∧o'.fz=false)→Blk E id b∧(o'.fz=false∨∃cap,E.m id=some (b,cap)):=fun b b0 cap hm hb=>by
    refine⟨⟨b0,cap,hm,hb.imp (fun h=>h) (·.1)⟩, ?_⟩
    rcases hb with rfl|⟨_,hb⟩
    ·exact .inr ⟨cap,hm⟩
    ·exact .inl hb
   refine(hi.obj id o' ho2).keep (fun b b0 cap hm hb=>s3.keep b ?_ (notown2 id o' b ho2 hne (hor b b0 cap hm hb).1 (hor b b0 cap hm hb).2)) (fun b hb=>s3.smono b hb) (fun b b0 cap hm hbb hf hb=> ?_) s3.size (fun x a hx=>sall.rep hi hx) (fun x a hx=>sall.prep hi hx)
   ·exact hi.blt ho2 (hor b b0 cap hm hb).1 (hor b b0 cap hm hb).2
   ·have hbk:Blk E id b:=⟨b0,cap,hm,hbb⟩
    rcases s3.snew b hb with hh|hh|hh
    ·exact hh
    ·exact absurd hh (notown2 id o' b ho2 hne hbk (.inl hf))
    ·have:b<w.heap.size:=(hi.blk ho2 hf hbk).1
     omega
 ·have key:∀id o b,hp'[id]?=some o→o.fz=false→Blk E3 id b→(∃(j:Nat) (oj:Zf D),h'[j]?=some oj∧oj.fz=false∧Blk E' j b∧Xl ids hp.length j=some id)∨(id<hp.length∧(∀(j:Nat),ids[j]?≠some id)∧hp[id]?=some o∧Blk E id b):=by
   intro id o b hg hf hm
   rcases cases' id o hg with⟨j,oj,hj,rfl,hmj,hbk⟩|⟨hl,hne,ho2⟩
   ·exact .inl ⟨j,oj,hj,by rw[VD]at hf;exact hf,hm.congr hmj.symm,hbk⟩
   ·exact .inr ⟨hl,hne,ho2,hm.congr (hidxlt id hl hne).symm⟩
  have mixed:∀j oj b id o,h'[j]?=some oj→oj.fz=false→Blk E' j b→id<hp.length→(∀(j:Nat),ids[j]?≠some id)→hp[id]?=some o→o.fz=false→Blk E id b→False:=by
   intro j oj b id o hj hfj hmj hl hne ho hf hm
   have hb:b<w.heap.size:=(hi.blk ho hf hm).1
   exact notown2 id o b ho hne hm (.inl hf) (s3.own b hb ⟨j,oj,hj,hfj,hmj⟩)
  rcases key id1 o1 b g1 f1 m1 with⟨j1,p1,q1,r1,t1,u1⟩|⟨l1,n1,p1,q1⟩ <;> rcases key id2 o2 b g2 f2 m2 with⟨j2,p2,q2,r2,t2,u2⟩|⟨l2,n2,p2,q2⟩
  ·have:=i3.inj j1 j2 p1 p2 b q1 q2 r1 r2 t1 t2
   subst this
   rw[u1]at u2;injection u2
  ·exact(mixed j1 p1 b id2 o2 q1 r1 t1 l2 n2 p2 f2 q2).elim
  ·exact(mixed j2 p2 b id1 o1 q2 r2 t2 l1 n1 p1 f1 q1).elim
  ·exact hi.inj id1 id2 o1 o2 b p1 p2 f1 f2 q1 q2
end
end Go.Eng
