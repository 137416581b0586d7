/- The engine, part 13: code, loops, functions. -/
import Derived.Test.YtcclngfmkodgjaaGreatEngN
import Derived.Scope
set_option linter.unusedVariables false
set_option linter.unusedSectionVars false
set_option linter.unusedSimpArgs false
namespace Go.Eng
open Go
variable {D:Den} [Gl D]

def Z2d:Ex→Exit
 | .nor=> .normal
 | .exit id=> .exit id
 | .ret=> .ret

def YE (P:Program) (U:Zu D) (k N:Nat) (c:Code) (fr:Fr D) (hp:Z3 D) (ex:Ex) (fr':Fr D) (hp':Z3 D):Prop:=
 ∀(w:World) (E:Emb) (a:Act),Inv U w E hp→X8 U w E hp N a fr→∀Q:Exit→Act→World→Prop,
  (∀a' w' E',Inv U w' E' hp'→W3 k U w E hp w' E' hp'→X8 U w' E' hp' N a' fr'→Q (Z2d ex) a' w')→c.wp P Q a w

def Z0t (live ids:List Nat) (fr:Fr D):Fr D:=live.map fun s=>(s,ren (idx ids) 8 (ZL fr s))
def Z2e:Nat→Nat→List Nat→Bool
 |0,_,_=>true
 |k+1,j,i::r=>Nat.beq i j && Z2e k (j+1) r
 |_+1,_,[]=>false
def Z0u (k:Nat) (ids:List Nat) (hp:Z3 D):Option (Z3 D):=
 match Z2e k 0 ids,X4 ids with
 |true,true=>sub hp (idx ids) ids
 |_,_=>none

abbrev Out (D:Den):=List Prop×Ex×Fr D×Z3 D×List (Ans D)

def Z0v (P:Program) (U:Zu D) (k N:Nat) (c:Code) (fr:Fr D) (hp:Z3 D):List (Ans D)→Option (Out D)
 | .sum live ids ex fr' hp'::π=>match Z0u k ids hp with
  |some h=>some ([YE P U k N c (Z0t live ids fr) h ex fr' hp'],ex,fr',hp',π)
  |none=>none
 |_=>none

def Z9p:List (Ans D)→Option (List (Ans D))
 | .cut live ids ex fr hp::π=>some (.sum live ids ex fr hp::π)
 |_=>none
def Z76:List (Ans D)→List (Ans D)
 | .skp::π=>π
 |π=>π

def Z9q (ms:List Nat):Nat→Nat
 |0=>0
 |n+1=>match (List.range n).all fun j=>((ms[n]?).getD 0).testBit j with
  |true=>Z9q ms n
  |false=>n+1

def ZdP:List (Ans D)→Option (Nat×List (Ans D))
 | .frz [n]::π=>some (n,π)
 |_=>none
def Z2f (f:Fr D→Z3 D→List (Ans D)→Option (Out D)):Nat→Fr D→Z3 D→List (Ans D)→Option (Out D)
 |0,_,_,_=>none
 |n+1,fr,hp,π=>match f fr hp π with
  |some (ps, .nor,fr1,hp1,π1)=>match Z2f f n fr1 hp1 π1 with
   |some (qs,ex,fr2,hp2,π2)=>some (ps++qs,ex,fr2,hp2,π2)
   |none=>none
  |r=>r

def YU (P:Program) (U:Zu D) (k N:Nat):Code→Fr D→Z3 D→List (Ans D)→Option (Out D)
 | .skip,fr,hp,π=>some ([], .nor,fr,hp,π)
 | .label _,fr,hp,π=>some ([], .nor,fr,hp,π)
 | .ret,fr,hp,π=>some ([], .ret,fr,hp,π)
 | .exit id,fr,hp,π=>some ([], .exit id,fr,hp,π)
 | .region _ ops false,fr,hp,π=>match U5 U π hp with
  |some (gs,hp0,π0)=>match VA P U N ops.toList ops.toList fr hp0 π0 with
   |some (ps,fr',hp1,π1)=>match U5 U π1 hp1 with
    |some (qs,hp',π')=>some (gs++(ps++qs), .nor,fr',hp',π')
    |none=>none
   |none=>none
  |none=>none
 | .region _ ops true,fr,hp,π=>match U5 U π hp with
  |some (gs,hp0,π0)=>match Z6R P U N ops.toList fr hp0 (Z9q (WB ops.toList []) ops.size) π0 with
   |some (ps,fr',hp1,π1)=>match U5 U π1 hp1 with
    |some (qs,hp',π')=>some (gs++(ps++qs), .nor,fr',hp',π')
    |none=>none
   |none=>none
  |none=>none
 | .seq a b,fr,hp,π=>match (match Z9p π with|some π0=>Z0v P U k N a fr hp π0|none=>YU P U k N a fr hp (Z76 π))with
  |some (ps, .nor,fr1,hp1,π1)=>match YU P U k N b fr1 hp1 π1 with
   |some (qs,ex,fr2,hp2,π2)=>some (ps++qs,ex,fr2,hp2,π2)
   |none=>none
  |some (ps, .exit id,fr1,hp1,π1)=>some (ps, .exit id,fr1,hp1,π1)
  |some (ps, .ret,fr1,hp1,π1)=>some (ps, .ret,fr1,hp1,π1)
  |none=>none
 | .cond c a b,fr,hp,π=>match Zv P fr 0 c with
  | .db t=>match t with
   |true=>YU P U k N a fr hp π
   |false=>YU P U k N b fr hp π
  | .v (.bool t)=>match π with
   | .dec true::π'=>match YU P U k N a fr hp π' with
    |some (qs,ex,fr2,hp2,π2)=>some ((t=true)::qs,ex,fr2,hp2,π2)
    |none=>none
   | .dec false::π'=>match YU P U k N b fr hp π' with
    |some (qs,ex,fr2,hp2,π2)=>some ((t=false)::qs,ex,fr2,hp2,π2)
    |none=>none
   |π=>Z0v P U k N (.cond c a b) fr hp π
  |_=>none
 | .block id b,fr,hp,π=>match YU P U k N b fr hp π with
  |some (ps, .exit i,fr1,hp1,π1)=>match Nat.beq i id with
   |true=>some (ps, .nor,fr1,hp1,π1)
   |false=>some (ps, .exit i,fr1,hp1,π1)
  |r=>r
 | .scope b,fr,hp,π=>YU P U k N b fr hp π
 | .loop b,fr,hp,π=>match ZdP π with
  |some (n,π')=>Z2f (YU P U k N b) n fr hp π'
  |none=>match Z0v P U k N (.loop b) fr hp π with
   |some (ps,ex,fr1,hp1,π1)=>match U5 U π1 hp1 with
    |some (qs,hp2,π2)=>some (ps++qs,ex,fr1,hp2,π2)
    |none=>none
   |none=>none
 |_,_,_,_=>none

section
variable {P:Program} {U:Zu D} {a:Act} {w:World} {E:Emb} {hp:Z3 D} {k N:Nat}

theorem Z9r:∀ {k j:Nat} {ids:List Nat},Z2e k j ids=true→∀i,i<k→ids[i]?=some (j+i)
 |0,j,ids,_,i,h=>by omega
 |k+1,j,[],h,i,_=>by simp[Z2e]at h
 |k+1,j,q::r,h,i,hi=>by
  simp only[Z2e,Bool.and_eq_true]at h
  have hq:q=j:=Nat.eq_of_beq_eq_true h.1
  cases i with
  |zero=>simp[hq]
  |succ i=>
   have:=Z9r h.2 i (by omega)
   simpa[Nat.add_assoc,Nat.add_comm 1 i]using this

theorem Z77 {live ids:List Nat} {fr:Fr D} {h:Z3 D} (hi:Inv U w E hp) (hf:X8 U w E hp N a fr) (hn:Z0u k ids hp=some h):
  ∃E2,Inv U w E2 h∧W3 k U w E hp w E2 h∧X8 U w E2 h N a (Z0t live ids fr)∧(∀v c,Rep U w E hp v c→Rep U w E2 h v (ren (idx ids) 8 c)):=by
 unfold Z0u at hn
 split at hn
 case h_2=>cases hn
 rename_i hok hnd
 obtain⟨hhl,hsub⟩:=Z6C ids h hn
 let E2:Emb:= { m:=fun j=>match ids[j]? with|some i=>E.m i|none=>none,S:=E.S }
 have hE2:∀(j:Nat) i,ids[j]?=some i→E2.m j=E.m i:=fun j i hj=>by simp only[E2,hj]
 have hget:∀(j:Nat) oj,h[j]?=some oj→∃(i:Nat) (o:Zf D),ids[j]?=some i∧hp[i]?=some o∧oj=YL (idx ids) o:=by
  intro j oj hj
  have hjl:j<ids.length:=by rw[←hhl];exact(List.getElem?_eq_some_iff.1 hj).1
  obtain⟨o,ho,h2⟩:=hsub j _ (List.getElem?_eq_getElem hjl)
  rw[h2]at hj;injection hj with hj
  exact⟨_,o,List.getElem?_eq_getElem hjl,ho,hj.symm⟩
 have hρ:∀id j o,idx ids id=some j→hp[id]?=some o→h[j]?=some (YL (idx ids) o)∧E2.m j=E.m id:=by
  intro id j o hj ho
  have:=Z22 hj
  obtain⟨o',ho',h2⟩:=hsub j id this
  rw[ho]at ho';injection ho' with ho';subst ho'
  exact⟨h2,hE2 j id this⟩
 have own2:∀b,Own E2 h b→Own E hp b:=by
  rintro b ⟨j,oj,hj,hf,hm⟩
  obtain⟨i,o,hji,ho,rfl⟩:=hget j oj hj
  exact⟨i,o,ho,by rw[VD]at hf;exact hf,hm.congr (hE2 j i hji).symm⟩
 have rr:∀v c,Rep U w E hp v c→Rep U w E2 h v (ren (idx ids) 8 c):=fun v c hr=>Z0n (E:=E) (hp:=hp) (E2:=E2) (fun _ h=>h) hρ 8 v c hr
 refine⟨E2,⟨fun j oj hj=> ?_,fun j1 j2 o1 o2 b g1 g2 f1 f2 m1 m2=> ?_,hi.sb,hi.gl⟩,⟨rfl,rfl,rfl,fun _ _ _=>rfl,Nat.le_refl _,fun _ _ _=>rfl,fun b _ h=>own2 b h,fun _ h=>h,fun _ h=> .inl h,fun id o hid ho=> ?_⟩,⟨hf.size,hf.defers,fun s=> ?_⟩,rr⟩
 ·obtain⟨i,o,hji,ho,rfl⟩:=hget j oj hj
  rw[hE2 j i hji]
  refine Z6B (E:=E) (hp:=hp) (E2:=E2) (fun _ h=>h) hρ (fun b b0 cap hm hb hf=> ?_) (hi.obj i o ho)
  exact Own.notS hi ⟨i,o,ho,hf,b0,cap,hm,hb⟩
 ·obtain⟨i1,p1,q1,r1,rfl⟩:=hget j1 o1 g1
  obtain⟨i2,p2,q2,r2,rfl⟩:=hget j2 o2 g2
  rw[VD]at f1 f2
  have:=hi.inj i1 i2 p1 p2 b r1 r2 f1 f2 (m1.congr (hE2 j1 i1 q1).symm) (m2.congr (hE2 j2 i2 q2).symm)
  subst this
  exact Z23 hnd q1 q2
 ·have hj:=Z9r hok id hid
  rw[Nat.zero_add]at hj
  obtain⟨o',ho',h2⟩:=hsub id id hj
  rw[ho]at ho';injection ho' with ho';subst ho'
  exact⟨_,h2,Z21 _ _,by rw[VC];exact Nat.le_refl _,fun _=>by rw[hE2 id id hj]⟩
 ·have key:∀l:List Nat,ZL (l.map fun s=>(s,ren (idx ids) 8 (ZL fr s))) s= .un∨ZL (l.map fun s=>(s,ren (idx ids) 8 (ZL fr s))) s=ren (idx ids) 8 (ZL fr s):=by
   intro l
   induction l with
   |nil=>exact .inl rfl
   |cons q r ih=>
    simp only[List.map_cons,ZL]
    split
    ·rename_i hqs
     have:q=s:=Nat.eq_of_beq_eq_true hqs
     subst this
     exact .inr rfl
    ·exact ih
  show Rep U w E2 h _ (ZL (Z0t live ids fr) s)
  unfold Z0t
  rcases key live with e|e
  ·rw[e];exact .un _
  ·rw[e];exact rr _ _ (hf.slots s)

theorem Z78 {c:Code} {fr fr':Fr D} {hp':Z3 D} {π π':List (Ans D)} {ps:List Prop} {ex:Ex} (h:Z0v P U k N c fr hp π=some (ps,ex,fr',hp',π')) (hps:ZD ps):
  YE P U k N c fr hp ex fr' hp':=by
 unfold Z0v at h
 split at h
 case h_2=>cases h
 split at h
 case h_2=>cases h
 rename_i hh hn
 simp only[Option.some.injEq,Prod.mk.injEq]at h
 obtain⟨rfl,rfl,rfl,rfl,_⟩:=h
 intro w E a hi hf Q hQ
 obtain⟨E2,i2,s2,f2,_⟩:=Z77 hi hf hn
 exact hps.1 w E2 a i2 f2 Q fun a' w' E' i3 s3 f3=>hQ a' w' E' i3 (s2.trans s3) f3

theorem Z9s {c:Code} {Q:Exit→Act→World→Prop} (I:Nat→Act→World→Prop) (n:Nat) (h0:I n a w)
  (round:∀n a w,I n a w→c.wp P (Exit.then (fun a' w'=>∃m,m<n∧I m a' w') Q) a w):(Code.loop c).wp P Q a w:=by
 intro b k cs
 have key:∀n a w,I n a w→∃e a' w',Q e a' w'∧Arrives P (lone (b.at a (.code c:: .inLoop c::k)) cs w) b k cs e a' w':=by
  intro n
  induction n using Nat.strongRecOn with
  |_ n ih=>
   intro a w hI
   obtain⟨e,a₁,w₁,hq,harr⟩:=round n a w hI b (.inLoop c::k) cs
   cases e with
   |normal=>
    obtain⟨m,hlt,hI₁⟩:=hq
    obtain⟨e₂,a₂,w₂,hq₂,harr₂⟩:=ih m hlt a₁ w₁ hI₁
    exact⟨e₂,a₂,w₂,hq₂, .of_steps (Steps.trans harr (.one step_inLoop)) harr₂⟩
   |exit id=>exact⟨_,a₁,w₁,hq, .pass (x:= .inLoop c) rfl (fun _ _=> .inl (by simp)) harr⟩
   |goto l=>exact⟨_,a₁,w₁,hq, .pass (x:= .inLoop c) rfl (fun _ _=> .inl (by simp)) harr⟩
   |ret=>exact⟨_,a₁,w₁,hq, .pass (x:= .inLoop c) rfl (fun _ _=> .inl (by simp)) harr⟩
   |panic ch=>exact⟨_,a₁,w₁,hq, .pass (x:= .inLoop c) rfl (fun _ _=> .inl (by simp)) harr⟩
   |outgrown=>exact⟨_,a₁,w₁,hq, .pass (x:= .inLoop c) rfl (fun _ _=> .inl (by simp)) harr⟩
 obtain⟨e,a',w',hq,harr⟩:=key n a w h0
 exact⟨e,a',w',hq, .of_steps (.one step_loop) harr⟩

inductive TT (P:Program) (U:Zu D) (k N:Nat) (b:Code) (ex:Ex) (fr':Fr D) (hp':Z3 D):Nat→Fr D→Z3 D→Prop where
 |last (n:Nat) (fr:Fr D) (hp:Z3 D) (h:YE P U k N b fr hp ex fr' hp') (hne:ex≠ .nor):TT P U k N b ex fr' hp' n fr hp
 |more (n:Nat) (fr fr1:Fr D) (hp hp1:Z3 D) (h:YE P U k N b fr hp .nor fr1 hp1) (r:TT P U k N b ex fr' hp' n fr1 hp1):TT P U k N b ex fr' hp' (n+1) fr hp
theorem Z79 {b:Code} {ex:Ex} {fr fr':Fr D} {hp hp':Z3 D} {n:Nat} (h:TT P U k N b ex fr' hp' n fr hp):YE P U k N (.loop b) fr hp ex fr' hp':=by
 intro w E a hi hf Q hQ
 refine Z9s (fun n a1 w1=>∃fr1 hp1 E1,TT P U k N b ex fr' hp' n fr1 hp1∧Inv U w1 E1 hp1∧X8 U w1 E1 hp1 N a1 fr1∧W3 k U w E hp w1 E1 hp1) n
  ⟨fr,hp,E,h,hi,hf,W3.refl ..⟩ (fun n a1 w1 hI=> ?_)
 obtain⟨fr1,hp1,E1,hr,i1,f1,st1⟩:=hI
 cases hr with
 |last _ _ _ hx hne=>
  refine hx w1 E1 a1 i1 f1 _ fun a2 w2 E2 i2 st2 f2=> ?_
  have:=hQ a2 w2 E2 i2 (st1.trans st2) f2
  cases ex with
  |nor=>exact absurd rfl hne
  |exit id=>exact this
  |ret=>exact this
 |more m _ fr2 _ hp2 hx hr=>
  refine hx w1 E1 a1 i1 f1 _ fun a2 w2 E2 i2 st2 f2=> ?_
  exact⟨m,Nat.lt_succ_self m,fr2,hp2,E2,hr,i2,f2,st1.trans st2⟩
theorem Z9t {b:Code} {f:Fr D→Z3 D→List (Ans D)→Option (Out D)} (hf:∀fr fr' hp hp' π π' ps ex,f fr hp π=some (ps,ex,fr',hp',π')→ZD ps→YE P U k N b fr hp ex fr' hp'):
  ∀(n:Nat) (fr fr':Fr D) (hp hp':Z3 D) (π π':List (Ans D)) (ps:List Prop) (ex:Ex),Z2f f n fr hp π=some (ps,ex,fr',hp',π')→ZD ps→∃m,TT P U k N b ex fr' hp' m fr hp
 |0,fr,fr',hp,hp',π,π',ps,ex,h,hps=>by simp[Z2f]at h
 |n+1,fr,fr',hp,hp',π,π',ps,ex,h,hps=>by
  simp only[Z2f]at h
  split at h
  ·rename_i qs fr1 hp1 π1 hx
   split at h
   case h_2=>cases h
   rename_i rs ex2 fr2 hp2 π2 hy
   simp only[Option.some.injEq,Prod.mk.injEq]at h
   obtain⟨rfl,rfl,rfl,rfl,_⟩:=h
   rw[YG]at hps
   obtain⟨m,hm⟩:=Z9t hf n fr1 fr2 hp1 hp2 π1 π2 rs ex2 hy hps.2
   exact⟨m+1, .more m _ _ _ _ (hf _ _ _ _ _ _ _ _ hx hps.1) hm⟩
  ·rename_i hne
   refine⟨0, .last _ _ _ (hf _ _ _ _ _ _ _ _ h hps) ?_⟩
   rintro rfl
   exact hne _ _ _ _ h

theorem WZ (hmix:P.follows .mixedOrders=true):∀(c:Code) (fr fr':Fr D) (hp hp':Z3 D) (π π':List (Ans D)) (ps:List Prop) (ex:Ex),YU P U k N c fr hp π=some (ps,ex,fr',hp',π')→ZD ps→
  YE P U k N c fr hp ex fr' hp'
 | .skip,fr,fr',hp,hp',π,π',ps,ex,h,hps=>by
  simp only[YU,Option.some.injEq,Prod.mk.injEq]at h
  obtain⟨_,rfl,rfl,rfl,_⟩:=h
  exact fun w E a hi hf Q hQ=>wp_skip (hQ a w E hi (W3.refl ..) hf)
 | .label l,fr,fr',hp,hp',π,π',ps,ex,h,hps=>by
  simp only[YU,Option.some.injEq,Prod.mk.injEq]at h
  obtain⟨_,rfl,rfl,rfl,_⟩:=h
  exact fun w E a hi hf Q hQ=>wp_label (hQ a w E hi (W3.refl ..) hf)
 | .ret,fr,fr',hp,hp',π,π',ps,ex,h,hps=>by
  simp only[YU,Option.some.injEq,Prod.mk.injEq]at h
  obtain⟨_,rfl,rfl,rfl,_⟩:=h
  exact fun w E a hi hf Q hQ=>wp_ret (hQ a w E hi (W3.refl ..) hf)
 | .exit id,fr,fr',hp,hp',π,π',ps,ex,h,hps=>by
  simp only[YU,Option.some.injEq,Prod.mk.injEq]at h
  obtain⟨_,rfl,rfl,rfl,_⟩:=h
  exact fun w E a hi hf Q hQ=>wp_exit (hQ a w E hi (W3.refl ..) hf)
 | .region id ops false,fr,fr',hp,hp',π,π',ps,ex,h,hps=>by
  simp only[YU]at h
  split at h
  case h_2=>cases h
  rename_i gs hp0 π0 hg
  split at h
  case h_2=>cases h
  rename_i qs fr1 hp1 π1 hr
  split at h
  case h_2=>cases h
  rename_i rs hp2 π2 hg2
  simp only[Option.some.injEq,Prod.mk.injEq]at h
  obtain⟨rfl,rfl,rfl,rfl,_⟩:=h
  rw[YG,YG]at hps
  intro w E a hi hf Q hQ
  obtain⟨E0,i0,s0⟩:=Z0s π π0 hp hp0 E gs hg hps.1 hi
  have f0:X8 U w E0 hp0 N a fr:=⟨hf.size,hf.defers,fun s=>s0.rep hi (hf.slots s)⟩
  have hQ':∀a' w' E',Inv U w' E' hp1→Zg U w E0 hp0 w' E' hp1→X8 U w' E' hp1 N a' fr1→Q (Z2d .nor) a' w':=fun a' w' E' i1 s1 f1=>by
   obtain⟨E2,i2,s2⟩:=Z0s π1 π2 hp1 hp2 E' rs hg2 hps.2.2 i1
   exact hQ a' w' E2 i2 ((s0.trans (s1.trans s2)).toK k) ⟨f1.size,f1.defers,fun s=>s2.rep i1 (f1.slots s)⟩
  refine wp_region ?_
  have:=Z6N (Q:=Q) ops.toList 0 a w E0 hp0 hp1 fr fr1 π0 π1 qs (fun i=>by simp) hr hps.2.1 i0 f0 (fun a' w' E' i1 s1 f1=>hQ' a' w' E' i1 s1 f1)
  rwa [Array.length_toList, ←List.range_eq_range']at this
 | .region id ops true,fr,fr',hp,hp',π,π',ps,ex,h,hps=>by
  simp only[YU]at h
  split at h
  case h_2=>cases h
  rename_i gs hp0 π0 hg
  split at h
  case h_2=>cases h
  rename_i qs fr1 hp1 π1 hr
  split at h
  case h_2=>cases h
  rename_i rs hp2 π2 hg2
  simp only[Option.some.injEq,Prod.mk.injEq]at h
  obtain⟨rfl,rfl,rfl,rfl,_⟩:=h
  rw[YG,YG]at hps
  intro w E a hi hf Q hQ
  obtain⟨E0,i0,s0⟩:=Z0s π π0 hp hp0 E gs hg hps.1 hi
  have f0:X8 U w E0 hp0 N a fr:=⟨hf.size,hf.defers,fun s=>s0.rep hi (hf.slots s)⟩
  have hQ':∀a' w' E',Inv U w' E' hp1→Zg U w E0 hp0 w' E' hp1→X8 U w' E' hp1 N a' fr1→Q (Z2d .nor) a' w':=fun a' w' E' i1 s1 f1=>by
   obtain⟨E2,i2,s2⟩:=Z0s π1 π2 hp1 hp2 E' rs hg2 hps.2.2 i1
   exact hQ a' w' E2 i2 ((s0.trans (s1.trans s2)).toK k) ⟨f1.size,f1.defers,fun s=>s2.rep i1 (f1.slots s)⟩
  exact ZdF hmix hr hps.2.1 i0 f0 (fun a' w' E' i1 s1 f1=>hQ' a' w' E' i1 s1 f1)
 | .seq x y,fr,fr',hp,hp',π,π',ps,ex,h,hps=>by
  simp only[YU]at h
  have hx:∀qs ex1 fr1 hp1 π1,(match Z9p π with|some π0=>Z0v P U k N x fr hp π0|none=>YU P U k N x fr hp (Z76 π))=some (qs,ex1,fr1,hp1,π1)→ZD qs→YE P U k N x fr hp ex1 fr1 hp1:=by
   intro qs ex1 fr1 hp1 π1 hh hq
   split at hh
   ·exact Z78 hh hq
   ·exact WZ hmix x fr fr1 hp hp1 (Z76 π) π1 qs ex1 hh hq
  split at h
  ·rename_i qs fr1 hp1 π1 hxx
   split at h
   case h_2=>cases h
   rename_i rs ex2 fr2 hp2 π2 hy
   simp only[Option.some.injEq,Prod.mk.injEq]at h
   obtain⟨rfl,rfl,rfl,rfl,_⟩:=h
   rw[YG]at hps
   have ix:=hx _ _ _ _ _ hxx hps.1
   have iy:=WZ hmix y fr1 fr2 hp1 hp2 π1 π2 rs ex2 hy hps.2
   exact fun w E a hi hf Q hQ=>wp_seq (ix w E a hi hf _ fun a1 w1 E1 i1 s1 f1=>iy w1 E1 a1 i1 f1 Q fun a2 w2 E2 i2 s2 f2=>hQ a2 w2 E2 i2 (s1.trans s2) f2)
  ·rename_i qs id fr1 hp1 π1 hxx
   simp only[Option.some.injEq,Prod.mk.injEq]at h
   obtain⟨rfl,rfl,rfl,rfl,_⟩:=h
   have ix:=hx _ _ _ _ _ hxx hps
   exact fun w E a hi hf Q hQ=>wp_seq (ix w E a hi hf _ hQ)
  ·rename_i qs fr1 hp1 π1 hxx
   simp only[Option.some.injEq,Prod.mk.injEq]at h
   obtain⟨rfl,rfl,rfl,rfl,_⟩:=h
   have ix:=hx _ _ _ _ _ hxx hps
   exact fun w E a hi hf Q hQ=>wp_seq (ix w E a hi hf _ hQ)
  ·cases h
 | .cond c x y,fr,fr',hp,hp',π,π',ps,ex,h,hps=>by
  simp only[YU]at h
  have evb:∀w E a,Inv U w E hp→X8 U w E hp N a fr→Rep U w E hp (a.eval c) (Zv P fr 0 c):=fun w E a hi hf=>ZY hi hf.slots _ _
  split at h
  ·rename_i t ht
   split at h
   ·have ix:=WZ hmix x fr fr' hp hp' π π' ps ex h hps
    exact fun w E a hi hf Q hQ=>wp_cond_true (Wy (ht ▸evb w E a hi hf)) (ix w E a hi hf Q hQ)
   ·have iy:=WZ hmix y fr fr' hp hp' π π' ps ex h hps
    exact fun w E a hi hf Q hQ=>wp_cond_false (Wy (ht ▸evb w E a hi hf)) (iy w E a hi hf Q hQ)
  ·rename_i t ht
   split at h
   ·rename_i π1
    split at h
    case h_2=>cases h
    rename_i qs ex2 fr2 hp2 π2 hx
    simp only[Option.some.injEq,Prod.mk.injEq]at h
    obtain⟨rfl,rfl,rfl,rfl,_⟩:=h
    have ix:=WZ hmix x fr fr2 hp hp2 π1 π2 qs ex2 hx hps.2
    intro w E a hi hf Q hQ
    have hb:=evb w E a hi hf
    rw[ht]at hb
    have hb2:=Z0b hb
    rw[hps.1]at hb2
    exact wp_cond_true hb2 (ix w E a hi hf Q hQ)
   ·rename_i π1
    split at h
    case h_2=>cases h
    rename_i qs ex2 fr2 hp2 π2 hx
    simp only[Option.some.injEq,Prod.mk.injEq]at h
    obtain⟨rfl,rfl,rfl,rfl,_⟩:=h
    have iy:=WZ hmix y fr fr2 hp hp2 π1 π2 qs ex2 hx hps.2
    intro w E a hi hf Q hQ
    have hb:=evb w E a hi hf
    rw[ht]at hb
    have hb2:=Z0b hb
    rw[hps.1]at hb2
    exact wp_cond_false hb2 (iy w E a hi hf Q hQ)
   ·exact Z78 h hps
  ·cases h
 | .block id b,fr,fr',hp,hp',π,π',ps,ex,h,hps=>by
  simp only[YU]at h
  split at h
  ·rename_i qs i fr1 hp1 π1 hb
   have ib:=WZ hmix b fr fr1 hp hp1 π π1 qs (.exit i) hb
   split at h
   ·rename_i hid
    simp only[Option.some.injEq,Prod.mk.injEq]at h
    obtain⟨rfl,rfl,rfl,rfl,_⟩:=h
    have hid:i=id:=Nat.eq_of_beq_eq_true hid
    exact fun w E a hi hf Q hQ=>wp_block (ib hps w E a hi hf _ fun a1 w1 E1 i1 s1 f1=>by
     simp only[Z2d,Exit.inBlock,if_pos hid];exact hQ a1 w1 E1 i1 s1 f1)
   ·rename_i hid
    simp only[Option.some.injEq,Prod.mk.injEq]at h
    obtain⟨rfl,rfl,rfl,rfl,_⟩:=h
    have hid:i≠id:=fun e=>by subst e;simp at hid
    exact fun w E a hi hf Q hQ=>wp_block (ib hps w E a hi hf _ fun a1 w1 E1 i1 s1 f1=>by
     simp only[Z2d,Exit.inBlock,if_neg hid];exact hQ a1 w1 E1 i1 s1 f1)
  ·rename_i r hne
   have ib:=WZ hmix b fr fr' hp hp' π π' ps ex h hps
   refine fun w E a hi hf Q hQ=>wp_block (ib w E a hi hf _ fun a1 w1 E1 i1 s1 f1=> ?_)
   cases ex with
   |nor=>exact hQ a1 w1 E1 i1 s1 f1
   |ret=>exact hQ a1 w1 E1 i1 s1 f1
   |exit i=>exact absurd h (hne _ _ _ _ _)
 | .scope b,fr,fr',hp,hp',π,π',ps,ex,h,hps=>by
  simp only[YU]at h
  have ib:=WZ hmix b fr fr' hp hp' π π' ps ex h hps
  refine fun w E a hi hf Q hQ=>wp_scope_straight (ib w E a hi hf _ fun a1 w1 E1 i1 s1 f1=> ?_)
  have:=hQ a1 w1 E1 i1 s1 f1
  cases ex <;> exact this
 | .loop b,fr,fr',hp,hp',π,π',ps,ex,h,hps=>by
  have ib:∀fr fr' hp hp' π π' ps ex,YU P U k N b fr hp π=some (ps,ex,fr',hp',π')→ZD ps→YE P U k N b fr hp ex fr' hp':=fun fr fr' hp hp' π π' ps ex h hps=>WZ hmix b fr fr' hp hp' π π' ps ex h hps
  simp only[YU]at h
  split at h
  ·obtain⟨m,hm⟩:=Z9t ib _ _ _ _ _ _ _ _ _ h hps
   exact Z79 hm
  ·split at h
   case h_2=>cases h
   rename_i qs ex1 fr1 hp1 π1 hs
   split at h
   case h_2=>cases h
   rename_i rs hp2 π2 hg2
   simp only[Option.some.injEq,Prod.mk.injEq]at h
   obtain⟨rfl,rfl,rfl,rfl,_⟩:=h
   rw[YG]at hps
   have ix:=Z78 hs hps.1
   exact fun w E a hi hf Q hQ=>ix w E a hi hf Q fun a1 w1 E1 i1 s1 f1=>by
    obtain⟨E2,i2,s2⟩:=Z0s π1 π2 hp1 hp2 E1 rs hg2 hps.2 i1
    exact hQ a1 w1 E2 i2 (s1.trans (s2.toK k)) ⟨f1.size,f1.defers,fun s=>s2.rep i1 (f1.slots s)⟩
 | .rangeFunc _ _ _ _,fr,fr',hp,hp',π,π',ps,ex,h,hps=>by simp[YU]at h
 | .goto _,fr,fr',hp,hp',π,π',ps,ex,h,hps=>by simp[YU]at h
 | .refuse _,fr,fr',hp,hp',π,π',ps,ex,h,hps=>by simp[YU]at h

end

def V0 {σ ρ:Type} (f:σ→Option (σ⊕ρ)) (n:Nat):σ→Option ρ:=
 Nat.rec (fun _=>none) (fun _ ih s=>match f s with
  |none=>none
  |some (.inl s')=>ih s'
  |some (.inr r)=>some r) n
theorem Z7a {σ ρ:Type} (f:σ→Option (σ⊕ρ)) (s:σ):V0 f 0 s=none:=rfl
theorem UH {σ ρ:Type} (f:σ→Option (σ⊕ρ)) (n:Nat) (s:σ):V0 f (n+1) s=(match f s with
  |none=>none
  |some (.inl s')=>V0 f n s'
  |some (.inr r)=>some r):=rfl

def bts (s:ByteArray):List Int:=s.data.toList.map fun b=>(b.toNat:Int)
def Z0w (l:List Int):Bool:=decide (l.length≤9223372036854775807) && l.all fun n=>decide (0≤n∧n<256)
theorem UI (s:ByteArray):(bts s).length=s.size:=by
 simp only[bts,List.length_map,Array.length_toList];rfl
theorem ZdQ {l:List Int} (h:Z0w l=true):l.map (fun n=>Value.int .u8 n)=(l.map fun n=>UInt8.ofNat n.toNat).map fun x=>Value.int .u8 x.toNat:=by
 unfold Z0w at h
 have h:=(Bool.and_eq_true_iff.1 h).2
 rw[List.map_map]
 refine List.map_congr_left fun n hn=> ?_
 have:=of_decide_eq_true (List.all_eq_true.1 h n hn)
 simp only[Function.comp_apply]
 congr 1
 rw[UInt8.toNat_ofNat']
 omega
def Z8 {σ ρ:Type} (f:σ→Option (σ⊕ρ)) (s:σ):Option ρ:=V0 f 18446744073709551616 s

section
variable {P:Program} {U:Zu D} {a:Act} {w:World} {E:Emb} {hp:Z3 D} {k N:Nat}

theorem ZdR {σ ρ:Type} {b:Code} (f:σ→Option (σ⊕ρ)) (embF:σ→Fr D) (embH:σ→Z3 D) (exO:ρ→Ex) (outF:ρ→Fr D) (outH:ρ→Z3 D)
  (hround:∀s s',f s=some (.inl s')→YE P U k N b (embF s) (embH s) .nor (embF s') (embH s'))
  (hlast:∀s r,f s=some (.inr r)→YE P U k N b (embF s) (embH s) (exO r) (outF r) (outH r)) (hne:∀r,exO r≠ .nor)
  {s:σ} {r:ρ} (h:Z8 f s=some r):YE P U k N (.loop b) (embF s) (embH s) (exO r) (outF r) (outH r):=by
 obtain⟨n,hn⟩:∃n,V0 f n s=some r:=⟨_,h⟩
 intro w E a hi hf Q hQ
 refine Z9s (fun n a1 w1=>∃s1 E1,V0 f n s1=some r∧Inv U w1 E1 (embH s1)∧X8 U w1 E1 (embH s1) N a1 (embF s1)∧W3 k U w E (embH s) w1 E1 (embH s1)) n
  ⟨s,E,hn,hi,hf,W3.refl ..⟩ (fun n a1 w1 hI=> ?_)
 obtain⟨s1,E1,h1,i1,f1,st1⟩:=hI
 cases n with
 |zero=>simp[Z7a]at h1
 |succ n=>
  simp only[UH]at h1
  cases hfs:f s1 with
  |none=>simp[hfs]at h1
  |some q=>
   cases q with
   |inl s2=>
    simp only[hfs]at h1
    refine hround s1 s2 hfs w1 E1 a1 i1 f1 _ fun a2 w2 E2 i2 st2 f2=> ?_
    exact⟨n,Nat.lt_succ_self n,s2,E2,h1,i2,f2,st1.trans st2⟩
   |inr r'=>
    simp only[hfs,Option.some.injEq]at h1
    subst h1
    refine hlast s1 r' hfs w1 E1 a1 i1 f1 _ fun a2 w2 E2 i2 st2 f2=> ?_
    have:=hQ a2 w2 E2 i2 (st1.trans st2) f2
    have hnn:=hne r'
    cases hx:exO r' with
    |nor=>exact absurd hx hnn
    |exit id=>rw[hx]at this;exact this
    |ret=>rw[hx]at this;exact this

theorem Z9u {σ ρ:Type} {b:Code} (f:σ→Option (σ⊕ρ)) (embF:σ→Fr D) (embH:σ→Z3 D) (exO:ρ→Ex) (outF:ρ→Fr D) (outH:ρ→Z3 D)
  (hround:∀s q,f s=some q→YE P U k N b (embF s) (embH s) (match q with| .inl _=> .nor| .inr r=>exO r) (match q with| .inl s'=>embF s'| .inr r=>outF r) (match q with| .inl s'=>embH s'| .inr r=>outH r)) (hne:∀r,exO r≠ .nor):
  ∀(n:Nat) (s:σ) (r:ρ),V0 f n s=some r→∃m,TT P U k N b (exO r) (outF r) (outH r) m (embF s) (embH s)
 |0,s,r,h=>by simp[Z7a]at h
 |n+1,s,r,h=>by
  simp only[UH]at h
  cases hfs:f s with
  |none=>simp[hfs]at h
  |some q=>
   cases q with
   |inl s2=>
    simp only[hfs]at h
    obtain⟨m,hm⟩:=Z9u f embF embH exO outF outH hround hne n s2 r h
    exact⟨m+1, .more m _ _ _ _ (hround s (.inl s2) hfs) hm⟩
   |inr r'=>
    simp only[hfs,Option.some.injEq]at h
    subst h
    exact⟨0, .last _ _ _ (hround s (.inr r') hfs) (hne r')⟩
def TU {σ ρ:Type} (f0:Option (σ⊕ρ)) (f:σ→Option (σ⊕ρ)):Option ρ:=match f0 with
 |none=>none
 |some (.inl s)=>Z8 f s
 |some (.inr r)=>some r
def Z7b (P:Program) (U:Zu D) (k N:Nat) (b:Code) {σ ρ:Type} (f0:Option (σ⊕ρ)) (f:σ→Option (σ⊕ρ)) (F0:Fr D) (H0:Z3 D) (x:ρ→Ex) (oF:ρ→Fr D) (oH:ρ→Z3 D):Prop:=
 ∀(r:ρ),TU f0 f=some r→YE P U k N (.loop b) F0 H0 (x r) (oF r) (oH r)
theorem Z9v {σ ρ:Type} {b:Code} {f0:Option (σ⊕ρ)} {f:σ→Option (σ⊕ρ)} {F0:Fr D} {H0:Z3 D} {F:σ→Fr D} {H:σ→Z3 D} {x:ρ→Ex} {oF:ρ→Fr D} {oH:ρ→Z3 D}
  (h0:∀q,f0=some q→YE P U k N b F0 H0 (match q with| .inl _=> .nor| .inr r=>x r) (match q with| .inl s'=>F s'| .inr r=>oF r) (match q with| .inl s'=>H s'| .inr r=>oH r))
  (hround:∀s q,f s=some q→YE P U k N b (F s) (H s) (match q with| .inl _=> .nor| .inr r=>x r) (match q with| .inl s'=>F s'| .inr r=>oF r) (match q with| .inl s'=>H s'| .inr r=>oH r))
  (hne:∀r,x r≠ .nor):Z7b P U k N b f0 f F0 H0 x oF oH:=by
 intro r h
 unfold TU at h
 cases hq:f0 with
 |none=>rw[hq]at h;cases h
 |some q=>
  rw[hq]at h
  cases q with
  |inl s=>
   obtain⟨m,hm⟩:=Z9u f F H x oF oH hround hne _ s r h
   exact Z79 (.more m _ _ _ _ (h0 (.inl s) hq) hm)
  |inr r'=>
   simp only[Option.some.injEq]at h
   subst h
   exact Z79 (.last 0 _ _ (h0 (.inr r') hq) (hne r'))
theorem ZdS (hmix:P.follows .mixedOrders=true) {c:Code} {fr fr1:Fr D} {hp1 h:Z3 D} {π:List (Ans D)} {ps:List Prop} {ex:Ex} {live ids:List Nat} (hx:YU P U k N c fr hp π=some (ps,ex,fr1,hp1,[])) (hps:ZD ps)
  (hn:Z0u k ids hp1=some h):YE P U k N c fr hp ex (Z0t live ids fr1) h:=by
 intro w E a hi hf Q hQ
 refine WZ hmix c fr fr1 hp hp1 π [] ps ex hx hps w E a hi hf Q fun a1 w1 E1 i1 s1 f1=> ?_
 obtain⟨E2,i2,s2,f2,_⟩:=Z77 i1 f1 hn
 exact hQ a1 w1 E2 i2 (s1.trans s2) f2

def Z7c (P:Program) (U:Zu D) (k N:Nat) (c:Code) (fr:Fr D) (hp:Z3 D) (live ids:List Nat) (π:List (Ans D)):Option (List Prop×Ex×Fr D×Z3 D):=
 match YU P U k N c fr hp π with
 |some (ps,ex,fr1,hp1,[])=>match Z0u k ids hp1 with
  |some h=>some (ps,ex,Z0t live ids fr1,h)
  |none=>none
 |_=>none

theorem ZdT (hmix:P.follows .mixedOrders=true) {c:Code} {fr fr':Fr D} {h':Z3 D} {π:List (Ans D)} {ps:List Prop} {ex:Ex} {live ids:List Nat}
  (hx:Z7c P U k N c fr hp live ids π=some (ps,ex,fr',h')) (hps:ZD ps):YE P U k N c fr hp ex fr' h':=by
 unfold Z7c at hx
 split at hx
 ·rename_i qs ex1 fr1 hp1 he
  split at hx
  case h_2=>cases hx
  rename_i h hn
  simp only[Option.some.injEq,Prod.mk.injEq]at hx
  obtain⟨rfl,rfl,rfl,rfl⟩:=hx
  exact ZdS hmix he hps hn
 ·cases hx

/-! ### Functions -/

def TV:Nat→List (AV D)→Fr D
 |_,[]=> []
 |i,c::r=>(i,c)::TV (i+1) r

theorem Z9w:∀(cs:List (AV D)) (j s:Nat),ZL (TV j cs) s=if j≤s then((cs[s-j]?).getD .un)else .un
 | [],j,s=>by simp[TV,ZL]
 |c::r,j,s=>by
  simp only[TV,ZL]
  split
  ·rename_i h
   have:j=s:=Nat.eq_of_beq_eq_true h
   subst this
   simp
  ·rename_i h
   have hne:j≠s:=fun e=>by subst e;simp at h
   rw[Z9w r (j+1) s]
   by_cases hle:j≤s
   ·rw[if_pos hle,if_pos (by omega)]
    have:s-j=(s-(j+1))+1:=by omega
    rw[this];simp
   ·rw[if_neg hle,if_neg (by omega)]

theorem ZdU {args:List (AV D)} {vs:List Value} {n:Nat} (h:ZW U w E hp vs args) (hle:vs.length≤n):
  X8 U w E hp n { tmps:=(⟨vs⟩:Array Value)++Array.replicate (n-(⟨vs⟩:Array Value).size) undef,defers:= [] } (TV 0 args):=by
 refine⟨by simp;omega,rfl,fun s=> ?_⟩
 rw[Z9w,if_pos (Nat.zero_le _),Nat.sub_zero,Array.getD_eq_getD_getElem?]
 by_cases hs:s<vs.length
 ·have hc:s<args.length:=by rw[←h.1];exact hs
  have e1:((⟨vs⟩:Array Value)++Array.replicate (n-(⟨vs⟩:Array Value).size) undef)[s]?=some vs[s]:=by
   rw[Array.getElem?_append_left (by simpa using hs)]
   simp[hs]
  rw[e1,List.getElem?_eq_getElem hc]
  exact h.2 s _ _ (List.getElem?_eq_getElem hs) (List.getElem?_eq_getElem hc)
 ·rw[List.getElem?_eq_none (by rw[←h.1];omega)]
  exact .un _

def Z7d (P:Program) (U:Zu D) (fr:Fr D) (hp:Z3 D):ResultVar→Option (AV D)
 | .tmp t=>some (ZL fr t)
 | .cell x t=>match Z0f P U hp t [] (ZL fr x)with
  |some r=>match r.obl with
   | []=>some r.val
   |_=>none
  |none=>none
def Z0x (P:Program) (U:Zu D) (fr:Fr D) (hp:Z3 D):List ResultVar→Option (List (AV D))
 | []=>some []
 |x::r=>match Z7d P U fr hp x,Z0x P U fr hp r with
  |some c,some cs=>some (c::cs)
  |_,_=>none
def Z4P (P:Program) (U:Zu D) (fr:Fr D) (hp:Z3 D) (rs:List ResultVar):Option (AV D):=
 match Z0x P U fr hp rs with
 |some [c]=>some c
 |some cs=>some (.tup cs)
 |none=>none

theorem Z9x {fr:Fr D} (hi:Inv U w E hp) (hf:XX U w E hp a fr):∀(rs:List ResultVar) (cs:List (AV D)),Z0x P U fr hp rs=some cs→
  ∃vs:List Value,(rs.mapM (fun| .tmp t=>pure (a.tmps.getD t undef)| .cell x t=>do loadVar t (←asAddr (a.tmps.getD x undef))):Sem (List Value)).run P w= .ok vs w∧ZW U w E hp vs cs
 | [],cs,h=>by simp[Z0x]at h;subst h;exact⟨[],by simp,rfl,fun k x c h=>by simp at h⟩
 |x::r,cs,h=>by
  simp only[Z0x]at h
  split at h
  case h_2=>cases h
  rename_i c cs' hc hcs
  injection h with h;subst h
  obtain⟨vs,hrun,hl,hr⟩:=Z9x hi hf r cs' hcs
  have one:∃v,(match x with| .tmp t=>pure (a.tmps.getD t undef)| .cell x t=>do loadVar t (←asAddr (a.tmps.getD x undef)):Sem Value).run P w= .ok v w∧Rep U w E hp v c:=by
   cases x with
   |tmp t=>simp only[Z7d,Option.some.injEq]at hc;subst hc;exact⟨_,by simp,hf t⟩
   |cell y t=>
    simp only[Z7d]at hc
    split at hc
    case h_2=>cases hc
    rename_i q hq
    split at hc
    case h_2=>cases hc
    rename_i hob
    injection hc with hc;subst hc
    obtain⟨_,v,hv,hrv⟩:=Z8M hi hq (by rw[hob];trivial) (hf y)
    refine⟨v, ?_,hrv⟩
    have hp1:∃ad,a.tmps.getD y undef= .pointer (some ad):=by
     simp only[Instr.loadAt,Sem.run_bind]at hv
     generalize a.tmps.getD y undef=z at hv
     unfold Instr.sureAddr at hv
     split at hv
     ·exact⟨_,rfl⟩
     ·simp[stuck,Sem.run]at hv
    obtain⟨ad,had⟩:=hp1
    rw[had]at hv
    show(do let q ←asAddr (a.tmps.getD y undef);loadVar t q:Sem Value).run P w=_
    rw[had]
    simpa[Instr.loadAt,Instr.sureAddr,asAddr]using hv
  obtain⟨v,hv,hrv⟩:=one
  refine⟨v::vs, ?_,by simp[hl],fun k y d hy hd=> ?_⟩
  ·rw[List.mapM_cons]
   simp only[Sem.run_bind,hv,Result.andThen_ok,hrun]
   rfl
  ·cases k with
   |zero=>simp at hy hd;subst hy;subst hd;exact hrv
   |succ k=>exact hr k y d (by simpa using hy) (by simpa using hd)

theorem ZdV {fr:Fr D} {fn:Func} {c:AV D} (hi:Inv U w E hp) (hf:XX U w E hp a fr) (h:Z4P P U fr hp fn.results.toList=some c):
  ∃v,(results fn a.tmps).run P w= .ok v w∧Rep U w E hp v c:=by
 unfold Z4P at h
 have main:∀cs,Z0x P U fr hp fn.results.toList=some cs→∃vs:List Value,(results fn a.tmps).run P w= .ok (if h:vs.toArray.size=1 then vs.toArray[0]else .tuple vs.toArray) w∧ZW U w E hp vs cs:=by
  intro cs hcs
  obtain⟨vs,hrun,hr⟩:=Z9x hi hf _ cs hcs
  refine⟨vs, ?_,hr⟩
  unfold results
  rw[Array.mapM_eq_mapM_toList]
  simp only[Sem.run_bind,Sem.run_map]
  erw [hrun]
  rfl
 split at h
 ·rename_i c' hc
  injection h with h;subst h
  obtain⟨vs,hrun,hl,hr⟩:=main _ hc
  match vs,hl,hr,hrun with
  | [v],_,hr,hrun=>exact⟨v,by simpa using hrun,hr 0 v c' rfl rfl⟩
 ·rename_i cs hne hc
  injection h with h;subst h
  obtain⟨vs,hrun,hl,hr⟩:=main _ hc
  refine⟨.tuple vs.toArray, ?_, .tup vs cs hl hr⟩
  rw[hrun,dif_neg]
  intro h1
  have h1:vs.length=1:=by simpa using h1
  rw[hl]at h1
  match cs,h1,hne with
  | [c],_,hne=>exact hne c rfl
 ·cases h

def Z7e (P:Program) (U:Zu D) (fn:Func) (args:List (AV D)) (h:Z3 D) (keep:Option (List Nat)) (π:List (Ans D)):Option (List Prop×AV D×Z3 D):=
 match fn.body,Nat.ble args.length fn.ntmps with
 |some c,true=>match YU P U h.length fn.ntmps c (TV 0 args) h π with
  |some (ps, .exit _,_,_,_)=>none
  |some (ps,_,fr,hp,[])=>match Z4P P U fr hp fn.results.toList with
   |some r0=>match keep with
    |none=>match h,vw hp (List.range hp.length) 8 r0 with
     | [],(qs,r)=>some (ps++qs,r,[])
     |_,_=>none
    |some ids=>match Z0u h.length ids hp with
     |some h'=>some (ps,ren (idx ids) 8 r0,h')
     |none=>none
   |none=>none
  |_=>none
 |_,_=>none

theorem ZdW {f:FuncId} {fn:Func} {args:List (AV D)} {h h':Z3 D} {keep:Option (List Nat)} {π:List (Ans D)} {ps:List Prop} {r:AV D}
  (hmix : P.follows .mixedOrders = true) (hfn : P.funcs[f]? = some fn) (hname : (fn.name == "runtime.NumGoroutine") = false) (hrun : Z7e P U fn args h keep π = some (ps, r, h')) (hps : ZD ps) : Z7 P U f args h r h' := by
 unfold Z7e at hrun
 split at hrun
 case h_2=>cases hrun
 rename_i c hc hle
 have hle:args.length≤fn.ntmps:=Nat.le_of_ble_eq_true hle
 refine⟨⟨fn,hfn,hname,by rw[hc];rfl⟩,fun w E vs hi hr=> ?_⟩
 have hf0:=ZdU (n:=fn.ntmps) hr (by rw[hr.1];exact hle)
 refine calls_of_wp hfn hc ?_
 -- the end, one way for both modes
 have fin:∀(ex:Ex) (qs:List Prop) (fr:Fr D) (hp:Z3 D) (r0:AV D),(ex= .nor∨ex= .ret)→YU P U h.length fn.ntmps c (TV 0 args) h π=some (qs,ex,fr,hp,[])→ZD qs→Z4P P U fr hp fn.results.toList=some r0→
   (∀w1 E1 v,Inv U w1 E1 hp→W3 h.length U w E h w1 E1 hp→Rep U w1 E1 hp v r0→∃E2,Inv U w1 E2 h'∧Zg U w E h w1 E2 h'∧Rep U w1 E2 h' v r)→
   c.wp P (bodyPost P fn fun e w'=>∃v E',e= .returned v∧Inv U w' E' h'∧Zg U w E h w' E' h'∧Rep U w' E' h' v r) { tmps:=(⟨vs⟩:Array Value)++Array.replicate (fn.ntmps-(⟨vs⟩:Array Value).size) undef,defers:= [] } w:=by
  intro ex qs fr hp r0 hex he hqs hres hend
  refine WZ hmix c _ fr h hp π [] qs ex he hqs w E _ hi hf0 _ fun a1 w1 E1 i1 s1 f1=> ?_
  obtain⟨v,hv,hrv⟩:=ZdV i1 f1.slots hres
  obtain⟨E2,i2,s2,r2⟩:=hend w1 E1 v i1 s1 hrv
  rcases hex with rfl|rfl
  ·exact⟨f1.defers,v,hv,v,E2,rfl,i2,s2,r2⟩
  ·exact⟨f1.defers,v,hv,v,E2,rfl,i2,s2,r2⟩
 have toStep:∀w1 E1 h1,W3 h.length U w E h w1 E1 h1→Zg U w E h w1 E1 h1:=fun w1 E1 h1 s=>
  ⟨s.os,s.tape,s.output,s.fz,s.size,s.keep,s.own,s.smono,s.snew,fun id o ho=>s.evo id o (List.getElem?_eq_some_iff.1 ho).1 ho⟩
 split at hrun
 ·cases hrun
 ·rename_i qs ex fr hp hne he
  have hex:ex= .nor∨ex= .ret:=by
   cases ex with
   |nor=>exact .inl rfl
   |ret=>exact .inr rfl
   |exit i=>first|exact absurd rfl (hne _ _ _ _ _)|exact absurd he (hne _ _ _ _ _)|exact(hne _ _ _ _ _ rfl).elim|exact(hne _ _ _ _ _ he).elim|exact(hne i rfl).elim|(exfalso;exact hne _ rfl)
  split at hrun
  case h_2=>cases hrun
  rename_i r0 hres
  split at hrun
  ·split at hrun
   case h_2=>cases hrun
   rename_i rs r1 hvw
   simp only[Option.some.injEq,Prod.mk.injEq]at hrun
   obtain⟨rfl,rfl,rfl⟩:=hrun
   rw[YG]at hps
   refine fin ex qs fr hp r0 hex he hps.1 hres fun w1 E1 v i1 s1 hv=> ?_
   -- all is frozen
   let E2:Emb:= { m:=fun _=>none,S:=fun b=>b<w1.heap.size∧(E1.S b∨Own E1 hp b) }
   have hpr:ZE U w1 E2.S v r1:=by
    have:=Z1Z (S':=E2.S) (ids:=List.range hp.length) i1 (fun id _ hlt b cap hm=> ?_) (fun b hb=>⟨i1.sb b hb, .inl hb⟩) 8 v r0 (by rw[hvw];exact hps.2) hv
    ·rwa [hvw]at this
    ·have ho:=List.getElem?_eq_getElem hlt
     have hob:=i1.obj id _ ho
     rw[hm]at hob
     obtain⟨cc,e,hb,hcc,hrr,g1,g2⟩:=hob
     refine⟨(Array.getElem?_eq_some_iff.1 hb).1, ?_⟩
     cases hfz:(hp[id]).fz with
     |true=>exact .inl (g1 hfz)
     |false=>exact .inr ⟨id,_,ho,hfz, .of hm⟩
   have noown:∀(E0:Emb) b,¬Own E0 ([]:Z3 D) b:=by rintro E0 b ⟨id,o,h,_⟩;simp at h
   refine⟨E2,⟨fun id o h=>by simp at h,fun i j oi oj b h=>by simp at h,fun b hb=>hb.1,fun g r hg=>(i1.gl g r hg).mono (fun b hb=>⟨i1.sb b hb, .inl hb⟩) (fun _ _=>rfl)⟩, ?_, .pure _ _ hpr⟩
   refine⟨s1.os,s1.tape,s1.output,s1.fz,s1.size,s1.keep,fun b _ ho=>absurd ho (noown _ b),fun b hb=>⟨i1.sb b (s1.smono b hb), .inl (s1.smono b hb)⟩,fun b hb=> ?_,fun id o h=>by simp at h⟩
   rcases hb.2 with hb2|hb2
   ·exact s1.snew b hb2
   ·by_cases hlt:b<w.heap.size
    ·exact .inr (.inl (s1.own b hlt hb2))
    ·exact .inr (.inr (by omega))
  ·rename_i ids
   split at hrun
   case h_2=>cases hrun
   rename_i h1 hn
   simp only[Option.some.injEq,Prod.mk.injEq]at hrun
   obtain⟨rfl,rfl,rfl⟩:=hrun
   refine fin ex qs fr hp r0 hex he hps hres fun w1 E1 v i1 s1 hv=> ?_
   obtain⟨E2,i2,s2,_,rr⟩:=Z77 (a:=⟨#[],[]⟩) (N:=0) (fr:= []) (live:= []) i1 ⟨rfl,rfl,fun s=> .un _⟩ hn
   exact⟨E2,i2,toStep _ _ _ (s1.trans s2),rr v r0 hv⟩
 ·cases hrun

end
end Go.Eng
