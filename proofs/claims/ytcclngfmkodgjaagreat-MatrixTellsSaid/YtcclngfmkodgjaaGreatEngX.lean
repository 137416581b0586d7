/- The engine, part X: items copied, and texts out of bytes. -/
import Derived.Test.YtcclngfmkodgjaaGreatEng10
import Derived.Laws.BytesArg
import Derived.Laws.CopyRow
set_option linter.unusedVariables false
set_option linter.unusedSectionVars false
set_option linter.unusedSimpArgs false
namespace Go.Eng
open Go
variable {D:Den} [Gl D]
section
variable {P:Program} {U:Zu D} {w:World} {E:Emb} {hp:Z3 D}

def Z24 (P:Program) (U:Zu D) (w:World) (E:Emb) (v:Value) (t:Nat) (l:List (D t)):Prop:=
 ∃base cap,v= .slice base l.length cap∧∀k,k≤l.length→∃cs:List Value,(Builtin.firstCells (U.width t) k v).run P w= .ok cs.toArray w∧YJ U w E.S cs (Z5 U t (l.take k))∧
  (∀ad,base=some ad→(loadCells ad (k * U.width t)).run P w= .ok cs.toArray w)

theorem Z6J {t b off cap:Nat} {l:List (D t)} (hc:∀(j:Nat) d,(Z5 U t l)[j]?=some d→∃x,w.cell? ⟨b,off+j,none⟩=some x∧ZE U w E.S x d):
  Z24 P U w E (.slice (some ⟨b,off,none⟩) l.length cap) t l:=by
 refine⟨_,_,rfl,fun k hk=> ?_⟩
 have hlen:(Z5 U t l).length=l.length * U.width t:=Yp t l
 have hkl:k * U.width t≤l.length * U.width t:=Nat.mul_le_mul_right _ hk
 let cs:List Value:=(List.range (k * U.width t)).map fun j=>(w.cell? ⟨b,off+j,none⟩).getD undef
 have hcsl:cs.length=k * U.width t:=by simp[cs]
 have hcs:∀j x,cs[j]?=some x→∃d,(Z5 U t l)[j]?=some d∧w.cell? ⟨b,off+j,none⟩=some x∧ZE U w E.S x d:=by
  intro j x hx
  have hj:j<k * U.width t:=by have:=(List.getElem?_eq_some_iff.1 hx).1;omega
  have hj2:j<(Z5 U t l).length:=by omega
  obtain⟨y,h1,h2⟩:=hc j _ (List.getElem?_eq_getElem hj2)
  simp only[cs,List.getElem?_map,List.getElem?_range hj,Option.map_some]at hx
  rw[h1]at hx;simp at hx;subst hx
  exact⟨_,List.getElem?_eq_getElem hj2,h1,h2⟩
 have hload:=run_loadCells_list (P:=P) w ⟨b,off,none⟩ cs (fun j x hx=>by
  rw[W7];obtain⟨d,_,h,_⟩:=hcs j x hx;exact h)
 rw[hcsl]at hload
 refine⟨cs,hload,⟨?_,fun j x d hx hd=> ?_⟩,fun ad e=> ?_⟩
 ·rw[hcsl,Yp,List.length_take,Nat.min_eq_left hk]
 ·obtain⟨d',h1,_,h3⟩:=hcs j x hx
  have hj:j<k * U.width t:=by have:=(List.getElem?_eq_some_iff.1 hx).1;omega
  rw[Z4C,List.getElem?_take_of_lt hj,h1]at hd
  injection hd with hd;subst hd;exact h3
 ·injection e with e;subst e;exact hload
theorem Z4D {t cap:Nat} {a:Option Addr} :Z24 P U w E (.slice a 0 cap) t ([]:List (D t)):=by
 refine⟨a,cap,rfl,fun k hk=>⟨[], ?_,⟨by simp[Z5],fun j x d h=>by simp at h⟩,fun ad e=> ?_⟩⟩
 all_goals
  have hk:k=0:=by simpa using hk
  subst hk
 ·cases a with
  |none=>simp[Builtin.firstCells]
  |some ad=>
   have:=run_loadCells_list (P:=P) w ad [] (fun j v h=>by simp at h)
   simpa[Builtin.firstCells]using this
 ·have:=run_loadCells_list (P:=P) w ad [] (fun j v h=>by simp at h)
  simpa using this
theorem Z90 {t:Nat} {l:List (D t)} {v:Value} (h:ZE U w E.S v (.sl t l)):Z24 P U w E v t l:=by
 cases h with
 |sl _ _ b off cap vs hS hcap hc hr=>exact Z6J fun j d hd=>⟨vs j,hc j d hd,hr j d hd⟩
 |sl0 _ a cap=>exact Z4D
theorem Z91 {b k:Nat} {c:List Value} {e:Nat} {x:Value} (hb:w.heap[b]?=some (.cells ⟨c⟩ e (0,0))) (h:c[k]?=some x):w.cell? ⟨b,k,none⟩=some x:=by
 simp[World.cell?,hb,h]
theorem Z92 {v:Value} {c:AV D} {t:Nat} {l:List (D t)} {ps:List Prop} (hi:Inv U w E hp) (h:rdA hp c=some (ps, .sl t l)) (hps:ZD ps) (hv:Rep U w E hp v c):Z24 P U w E v t l:=by
 unfold rdA at h
 split at h
 ·injection h with h;injection h with h1 h2;injection h2 with h2 h3;subst h2;cases h3
  exact Z90 (Vw hv)
 ·injection h with h;injection h with h1 h2;injection h2 with h2 h3;subst h2;cases h3
  obtain⟨a,rfl⟩:=WT hv
  exact Z4D
 ·injection h with h;injection h with h1 h2;injection h2 with h2 h3;subst h2;cases h3
  obtain⟨_,_,_,_,_,h⟩:=Z0d hv
  exact Z90 h
 ·rename_i id n
  split at h
  case h_2=>cases h
  rename_i t' l' ln f hob
  injection h with h;injection h with h1 h2;injection h2 with h2 h3;subst h2;cases h3;subst h1
  have hn:n=ln:=hps.1
  have hln:=Wj hi hob
  obtain⟨⟨ad,kk,cc,rfl⟩,o,ho,hle,hh⟩:=W1 hv
  rw[hob]at ho;injection ho with ho;subst ho
  have h3:=hh hn
  have hobj:=hi.obj id _ hob
  cases hm:E.m id with
  |none=>
   rw[hm]at h3 hobj
   obtain⟨g1,a,g2⟩:=h3
   obtain⟨rfl,_⟩:=hobj
   rw[g2];exact Z4D
  |some q=>
   obtain⟨b,cap⟩:=q
   rw[hm]at h3 hobj
   obtain⟨cells,e,hb,hcap,hr,_⟩:=hobj
   have h3':Value.slice ad kk cc= .slice (some ⟨b,0,none⟩) l'.length cap.n:=by rw[←hln, ←hn];exact h3
   rw[h3']
   exact Z6J fun j d hd=>by
    obtain⟨x,hx,hxr⟩:=hr j d hd
    exact⟨x,by rw[Nat.zero_add];exact Z91 hb hx,hxr⟩
 ·rename_i id n a b
  split at h
  case h_2=>cases h
  rename_i t' l' ln f hob
  injection h with h;injection h with h1 h2;injection h2 with h2 h3;subst h2;cases h3;subst h1
  have hn:n=ln:=hps.1
  have hln:=Wj hi hob
  obtain⟨⟨ad,kk,cc,rfl⟩,o,ho,hle,hh⟩:=Vd hv
  rw[hob]at ho;injection ho with ho;subst ho
  obtain⟨hab,hbn,h3⟩:=hh hn
  have hobj:=hi.obj id _ hob
  have hll:((l'.take b).drop a).length=b-a:=by simp[Zf.len]at hbn⊢;omega
  have nilcase:b-a=0→(∃x c,Value.slice ad kk cc= .slice x 0 c)→Z24 P U w E (.slice ad kk cc) t' ((l'.take b).drop a):=fun h0 ⟨x,c0,e⟩=>by
   have:(l'.take b).drop a= []:=List.eq_nil_of_length_eq_zero (by omega)
   rw[this,e];exact Z4D
  cases hm:E.m id with
  |none=>
   rw[hm]at h3
   exact nilcase h3.1 h3.2
  |some q=>
   obtain⟨blk,cap⟩:=q
   rw[hm]at h3 hobj
   by_cases h0:b-a=0
   ·exact nilcase h0 (h3.2.1 h0)
   ·obtain⟨c0,hc0,g2⟩:=h3.1 (by omega)
    obtain⟨cells,e,hb,hcap,hr,_⟩:=hobj
    rw[g2, ←hll]
    exact Z6J fun j d hd=>by
     obtain⟨x,hx,hxr⟩:=hr (a * U.width t'+j) d (TM hd)
     exact⟨x,Z91 hb hx,hxr⟩
 ·cases h

theorem Zd4 (ad:Addr):(storeCells ad []).run P w= .ok () w:=by simp[storeCells]

theorem Zd5 {t t2 e:Nat} {ty:Nat} {x y:AV D} {v u:Value} {π:List (Ans D)} {r:Res D} (hi:Inv U w E hp) (hse:Ye P t=some e) (h:Z6q P U e hp x y π=some r) (hobl:ZD r.obl)
  (hx:Rep U w E hp v x) (hy:Rep U w E hp u y):
  ∃z w' E',(Builtin.copy_ #[t,t2] ty #[v,u]).run P w= .ok z w'∧Inv U w' E' r.hp∧Zg U w E hp w' E' r.hp∧Rep U w' E' r.hp z r.val:=by
 unfold Z6q at h
 split at h
 case h_2=>cases h
 rename_i id n a b ps e2 l2 hdst hrd
 split at h
 case h_2=>cases h
 rename_i tt l ln o' π' hob
 split at h
 case h_2=>cases h
 rename_i sz hsz
 split at h
 case h_2=>cases h
 rename_i hw1 hw2
 have hw1:sz=U.width tt:=Nat.eq_of_beq_eq_true hw1
 have hw2:U.width e2=U.width tt:=Nat.eq_of_beq_eq_true hw2
 subst hw1
 injection h with h;subst h
 obtain⟨⟨hnl,xs,ho',hfl⟩,hps⟩:=hobl
 have hu:=XQ hse
 have hln:=Wj hi hob
 have hobj:=hi.obj id _ hob
 -- where it goes
 have hd:∃ad cc,v= .slice ad (b-a) cc∧a≤b∧b≤l.length∧(0<b-a→∃blk cap,E.m id=some (blk,cap)∧ad=some ⟨blk,a * U.width tt,none⟩):=by
  unfold Z8I at hdst
  split at hdst
  ·rename_i id' n'
   split at hdst
   case h_2=>cases hdst
   rename_i t' l' ln' f' hob'
   injection hdst with hdst;injection hdst with d1 d2;injection d2 with d2 d3;injection d3 with d3 d4
   subst d1;subst d2;subst d3;subst d4
   rw[hob]at hob';injection hob' with hob';injection hob' with k1 k2 k3 k4;subst k1;cases k2
   obtain⟨⟨ad,kk,cc,rfl⟩,o,ho,hle,hh⟩:=W1 hx
   rw[hob]at ho;injection ho with ho;subst ho
   have h3:=hh hnl
   cases hm:E.m id' with
   |none=>
    rw[hm]at h3
    obtain⟨g1,a0,g2⟩:=h3
    injection g2 with g2 g3 g4
    exact⟨ad,cc,by rw[g3];congr 1;omega,by omega,by omega,fun hp=>by omega⟩
   |some q=>
    obtain⟨blk,cap⟩:=q
    rw[hm]at h3
    injection h3 with g2 g3 g4
    exact⟨ad,cc,by congr 1;omega,by omega,by omega,fun _=>⟨blk,cap,rfl,by rw[g2];simp⟩⟩
  ·rename_i id' n' a' b'
   injection hdst with hdst;injection hdst with d1 d2;injection d2 with d2 d3;injection d3 with d3 d4
   subst d1;subst d2;subst d3;subst d4
   obtain⟨⟨ad,kk,cc,rfl⟩,o,ho,hle,hh⟩:=Vd hx
   rw[hob]at ho;injection ho with ho;subst ho
   obtain⟨hab,hbn,h3⟩:=hh hnl
   cases hm:E.m id' with
   |none=>
    rw[hm]at h3
    obtain⟨g1,a0,c0,g2⟩:=h3
    injection g2 with g2 g3 g4
    exact⟨ad,cc,by rw[g3,g1],hab,by omega,fun hp=>by omega⟩
   |some q=>
    obtain⟨blk,cap⟩:=q
    rw[hm]at h3
    by_cases h0:b'-a'=0
    ·obtain⟨x0,c0,g2⟩:=h3.2.1 h0
     injection g2 with g2 g3 g4
     exact⟨ad,cc,by rw[g3,h0],hab,by omega,fun hp=>by omega⟩
    ·obtain⟨c0,_,g2⟩:=h3.1 (by omega)
     injection g2 with g2 g3 g4
     exact⟨ad,cc,by rw[g3],hab,by omega,fun _=>⟨blk,cap,rfl,g2⟩⟩
  ·cases hdst
 obtain⟨ad,cc,rfl,hab,hbl,hdd⟩:=hd
 obtain⟨base,cap2,rfl,hread⟩:=Z92 (P:=P) hi hrd hps hy
 obtain⟨cs,hrun,hcs,_⟩:=hread (min l2.length (b-a)) (Nat.min_le_left _ _)
 rw[hw2]at hrun
 have hszr:(sizeOf e).run P w= .ok (U.width tt) w:=by
  have hsz':=hsz
  unfold ZT at hsz'
  cases hinf:P.info? e with
  |none=>rw[hinf]at hsz';simp at hsz'
  |some i=>rw[hinf]at hsz';simp at hsz';simp[sizeOf,typeInfo,hinf,hsz']
 have hcopy:∀w',(match ad with|some q=>storeCells q cs|none=>pure ()).run P w= .ok () w'→
   (Builtin.copy_ #[t,t2] ty #[.slice ad (b-a) cc, .slice base l2.length cap2]).run P w= .ok (.int .i64 (min l2.length (b-a):Nat)) w':=by
  intro w' hst
  cases ad with
  |none=>
   injection hst with _ hst
   subst hst
   simp[Builtin.copy_,run_underlying hu,Builtin.lenOf,hszr,hrun,goInt]
  |some q=>
   have hst:(storeCells q cs).run P w= .ok () w':=hst
   simp[Builtin.copy_,run_underlying hu,Builtin.lenOf,hszr,hrun,hst,goInt]
 subst ho'
 by_cases h0:min l2.length (b-a)=0
 ·-- nothing is copied
  have hxs:xs= []:=by
   have h1:=Yp (U:=U) tt xs
   rw[hfl,h0]at h1
   have h2:xs.length * U.width tt=0:=by rw[←h1];simp[Z5]
   have:=U.pos tt
   rcases Nat.mul_eq_zero.1 h2 with h3|h3
   ·exact List.eq_nil_of_length_eq_zero h3
   ·omega
  have hcs0:cs= []:=List.eq_nil_of_length_eq_zero (by rw[hcs.1,h0];simp[Z5])
  subst hxs;subst hcs0
  have he:l.take a++([]++l.drop (a+min l2.length (b-a)))=l:=by rw[h0];simp
  rw[he,Z20 hp id _ hob]
  refine⟨_,w,E,hcopy w ?_,hi,Zg.refl U w E hp, .v _⟩
  cases ad with
  |none=>simp
  |some q=>exact Zd4 q
 ·obtain⟨blk,cap,hm,rfl⟩:=hdd (by omega)
  rw[hm]at hobj
  obtain⟨c,e',hb,hcap,hr,f1,f2⟩:=hobj
  have hcap1:=hcap.1;have hcap2:=hcap.2.1
  have hcsl:cs.length=min l2.length (b-a) * U.width tt:=by rw[hcs.1,Yp,List.length_take,hw2];congr 1;omega
  have hxsl:xs.length=min l2.length (b-a):=by
   have h1:=Yp (U:=U) tt xs
   rw[hfl,Yp,List.length_take,hw2]at h1
   have:=Nat.eq_of_mul_eq_mul_right (U.pos tt) h1
   omega
  have hbc:a * U.width tt+cs.length≤c.length:=by
   rw[hcsl, ←Nat.add_mul,hcap1];exact Nat.mul_le_mul_right _ (by omega)
  have hone:∀z∈cs,z.oneCell'=true:=Z0m (E:=E) (hp:=hp) Z4A (YJ.rep hcs)
  have hst:=run_storeCells_at P blk (a * U.width tt) e' cs 0 ⟨c⟩ w hb (by simpa using hbc) hone
  simp only[Nat.add_zero]at hst
  have hll:(l.take a++(xs++l.drop (a+min l2.length (b-a)))).length=l.length:=by simp;omega
  have hrl:(Z5 U tt xs).length=cs.length:=by rw[Yp,hxsl,hcsl]
  have hflat:Z5 U tt (l.take a++(xs++l.drop (a+min l2.length (b-a))))=(Z5 U tt l).take (a * U.width tt)++Z5 U tt xs++(Z5 U tt l).drop (a * U.width tt+(Z5 U tt xs).length):=by
   rw[VB,VB,Z4C,Z6H,List.append_assoc]
   congr 3
   rw[hrl,hcsl, ←Nat.add_mul]
  obtain⟨i2,s2⟩:=TN hi hob rfl hm (o'':= .arr tt (l.take a++(xs++l.drop (a+min l2.length (b-a)))) ln false) rfl rfl (Nat.le_refl _)
   (c.take (a * U.width tt)++cs++c.drop (a * U.width tt+cs.length)) (by
    refine⟨?_, ?_, ?_⟩
    ·simp;rw[hcap1]at *;omega
    ·rw[hll];exact hcap2
    ·rw[hll];exact hln) (fun k d hk=>by
    have hk:(Z5 U tt (l.take a++(xs++l.drop (a+min l2.length (b-a)))))[k]?=some d:=hk
    rw[hflat,We (by rw[hrl,Yp,hcsl, ←Nat.add_mul];exact Nat.mul_le_mul_right _ (by omega))]at hk
    rw[We (by omega)]
    by_cases g1:k<a * U.width tt
    ·rw[if_pos g1]at hk⊢;exact hr k d hk
    ·rw[if_neg g1]at hk⊢
     rw[hrl]at hk
     by_cases g2:k<a * U.width tt+cs.length
     ·rw[if_pos g2]at hk⊢
      have hlt:k-a * U.width tt<cs.length:=by omega
      rw[hfl]at hk
      exact⟨_,List.getElem?_eq_getElem hlt,hcs.2 _ _ d (List.getElem?_eq_getElem hlt) hk⟩
     ·rw[if_neg g2]at hk⊢;exact hr k d hk)
  refine⟨_,_,_,hcopy _ hst,i2,s2, .v _⟩

theorem Zd6 {t t2 e e2:Nat} {id e' n b ty ln:Nat} {l:List (D e')} {l2:List (D e2)} {x y:Value} {l4:List (D e')} {ps:List Prop} {c:AV D}
  (hi:Inv U w E hp) (he:Ye P t=some e) (he2:∃q,Ye P t2=some q) (hob:hp[id]?=some (.arr e' l ln false)) (hsz:ZT P e=some (U.width e'))
  (hvw:Vy hp [] c=(ps, .sl e2 l2)) (hw2:U.width e2=U.width e') (hnn:n=ln) (hpos:0<l.length) (hle:b+l2.length≤l.length)
  (ho:∃xs,l4=l.take b++(xs++l.drop (b+l2.length))∧Z5 U e' xs=Z5 U e2 l2) (hps:ZD ps) (hx:Rep U w E hp x (.oss id n 0 b)) (hy:Rep U w E hp y c):
  ∃v w' E',(Builtin.append_ #[t,t2] ty #[x,y]).run P w= .ok v w'∧Inv U w' E' (ZC hp id (.arr e' l4 ln false))∧Zg U w E hp w' E' (ZC hp id (.arr e' l4 ln false))∧
   Rep U w' E' (ZC hp id (.arr e' l4 ln false)) v (.oss id n 0 (b+l2.length))∧(b+l2.length=l.length→Rep U w' E' (ZC hp id (.arr e' l4 ln false)) v (.os id n)):=by
 have hln:=Wj hi hob
 obtain⟨xs,rfl,hfl⟩:=ho
 have hut:=XQ he
 obtain⟨q2,hq2⟩:=he2
 have hut2:=XQ hq2
 obtain⟨ti,hti,hisz⟩:∃ti,P.info? e=some ti∧ti.size=U.width e':=by
  unfold ZT at hsz
  cases hinf:P.info? e with
  |none=>rw[hinf]at hsz;simp at hsz
  |some i=>rw[hinf]at hsz;exact⟨i,rfl,by simpa using hsz⟩
 have hxl:xs.length=l2.length:=by
  have h1:=Yp (U:=U) e' xs
  have h2:=Yp (U:=U) e2 l2
  rw[hfl,h2,hw2]at h1
  exact(Nat.eq_of_mul_eq_mul_right (U.pos e') h1).symm
 obtain⟨news,hsrc,hnr⟩:=Z4B (P:=P) (size:=ti.size) (E1:=E) (ids:= []) hi (fun _ h=>by simp at h) (Zg.refl U w E hp) hvw hps hy hut2 (by rw[hw2,hisz])
 have hnl:news.length=l2.length * U.width e':=by rw[hsrc.newsLen,hisz]
 obtain⟨⟨ad,kk,cc,rfl⟩,o,ho,hlen,hh⟩:=Vd hx
 rw[hob]at ho;injection ho with ho;subst ho
 obtain⟨_,hbn,h3⟩:=hh hnn
 have hobj:=hi.obj id _ hob
 cases hm:E.m id with
 |none=>
  rw[hm]at hobj
  obtain⟨e5,_⟩:=hobj
  subst e5
  simp at hpos
 |some qq=>
  obtain⟨blk,cap⟩:=qq
  rw[hm]at h3
  have hv:=h3.2.2 (by simp)
  rw[Nat.sub_zero]at hv
  injection hv with v1 v2 v3
  subst v1;subst v2;subst v3
  have hobj':=hobj
  rw[hm]at hobj'
  obtain⟨c0,e0,hb,⟨hcsz,hcl,hcln⟩,hr,f1,f2⟩:=hobj'
  have hll:(l.take kk++(xs++l.drop (kk+l2.length))).length=l.length:=by simp;omega
  have fin:∀(w':World) (E':Emb),E'.m id=some (blk,cap)→Rep U w' E' (ZC hp id (.arr e' (l.take kk++(xs++l.drop (kk+l2.length))) ln false)) (.slice (some ⟨blk,0,none⟩) (kk+l2.length) cap.n) (.oss id n 0 (kk+l2.length))∧
    (kk+l2.length=l.length→Rep U w' E' (ZC hp id (.arr e' (l.take kk++(xs++l.drop (kk+l2.length))) ln false)) (.slice (some ⟨blk,0,none⟩) (kk+l2.length) cap.n) (.os id n)):=by
   intro w' E' hE
   have hget:(ZC hp id (.arr e' (l.take kk++(xs++l.drop (kk+l2.length))) ln false))[id]?=some (.arr e' (l.take kk++(xs++l.drop (kk+l2.length))) ln false):=by
    rw[YQ,if_pos rfl,hob];rfl
   refine⟨.oss _ _ _ _ _ ⟨⟨_,_,_,rfl⟩,_,hget,by simp only[Zf.len]at hlen⊢;omega,fun _=>⟨by omega,by omega, ?_⟩⟩,fun heq=> .os _ _ _ ⟨⟨_,_,_,rfl⟩,_,hget,by simp only[Zf.len]at hlen⊢;omega,fun _=> ?_⟩⟩
   ·rw[hE]
    refine⟨fun _=>⟨cap.n,by omega,by simp⟩,fun h=>⟨_,_,by rw[Nat.sub_zero]at h;rw[h]⟩,fun _=>by rw[Nat.sub_zero]⟩
   ·rw[hE]
    show Value.slice _ _ _=_
    congr 1
    omega
  by_cases hl2:l2.length=0
  ·have hxs:xs= []:=List.eq_nil_of_length_eq_zero (by omega)
   have hnews:news= []:=List.eq_nil_of_length_eq_zero (by rw[hnl,hl2];simp)
   subst hxs;subst hnews
   have heq:ZC hp id (.arr e' (l.take kk++([]++l.drop (kk+l2.length))) ln false)=hp:=by rw[hl2];simp;exact Z20 _ _ _ hob
   obtain⟨r1,r2⟩:=fin w E hm
   rw[hl2]at hsrc r1 r2⊢
   rw[hl2]at heq
   rw[heq]at r1 r2⊢
   exact⟨_,w,E,run_append_nothing w t t2 ty e ti hut hti _ kk cap.n (by omega) y hsrc,hi,Zg.refl U w E hp,r1,r2⟩
  ·have hbnd:0+kk * ti.size+news.length≤c0.length:=by
    rw[hnl,hisz,hcsz,Nat.zero_add, ←Nat.add_mul]
    exact Nat.mul_le_mul_right _ (by omega)
   have hst:=run_storeCells_at P blk (0+kk * ti.size) e0 news 0 ⟨c0⟩ w hb (by simpa using hbnd) hsrc.one
   simp only[Nat.add_zero]at hst
   have hrl:(Z5 U e' xs).length=news.length:=by rw[Yp,hxl,hnl]
   have hflat:Z5 U e' (l.take kk++(xs++l.drop (kk+l2.length)))=(Z5 U e' l).take (kk * U.width e')++Z5 U e' xs++(Z5 U e' l).drop (kk * U.width e'+(Z5 U e' xs).length):=by
    rw[VB,VB,Z4C,Z6H,List.append_assoc]
    congr 3
    rw[hrl,hnl, ←Nat.add_mul]
   obtain⟨i2,s2⟩:=TN hi hob rfl hm (o'':= .arr e' (l.take kk++(xs++l.drop (kk+l2.length))) ln false) rfl rfl (Nat.le_refl _)
    (c0.take (0+kk * ti.size)++news++c0.drop (0+kk * ti.size+news.length)) (by
     refine⟨?_,by rw[hll];exact hcl,by rw[hll];exact hcln⟩
     simp only[List.length_append,List.length_take,List.length_drop];omega) (fun k d hk=>by
     have hk:(Z5 U e' (l.take kk++(xs++l.drop (kk+l2.length))))[k]?=some d:=hk
     rw[hflat,We (by rw[hrl,Yp,hnl, ←Nat.add_mul];exact Nat.mul_le_mul_right _ (by omega))]at hk
     rw[We hbnd]
     have hks:kk * U.width e'=0+kk * ti.size:=by rw[hisz,Nat.zero_add]
     rw[←hks]
     by_cases g1:k<kk * U.width e'
     ·rw[if_pos g1]at hk⊢;exact hr k d hk
     ·rw[if_neg g1]at hk⊢
      rw[hrl]at hk
      by_cases g2:k<kk * U.width e'+news.length
      ·rw[if_pos g2]at hk⊢
       have hlt:k-kk * U.width e'<news.length:=by omega
       rw[hfl]at hk
       exact⟨_,List.getElem?_eq_getElem hlt,hnr.2 _ _ d (List.getElem?_eq_getElem hlt) hk⟩
      ·rw[if_neg g2]at hk⊢;exact hr k d hk)
   have hroom:kk+l2.length≤cap.n:=by omega
   obtain⟨r1,r2⟩:=fin (w.setRow blk (c0.take (0+kk * ti.size)++news++c0.drop (0+kk * ti.size+news.length)).toArray) E hm
   refine⟨.slice (some ⟨blk,0,none⟩) (kk+l2.length) cap.n,_,_, ?_,i2,s2, ?_, ?_⟩
   ·rcases hsrc.kind with⟨e7,hk7⟩|hk7 <;> simp[Builtin.append_,run_underlying hut,run_underlying hk7,sizeOf,typeInfo,hti,hsrc.len,hroom,hsrc.cells,W7]
    all_goals (simp only[Nat.zero_add]at hst;rw[hst];simp)
   ·exact(fin _ _ hm).1
   ·exact(fin _ _ hm).2

theorem Zd7 {s d:Nat} {x:AV D} {v:Value} {π:List (Ans D)} {r:Res D} (hi:Inv U w E hp) (h:Z4l P U hp s d x π=some r) (hobl:ZD r.obl) (hx:Rep U w E hp v x):
  ∃z,(convert s d v).run P w= .ok z w∧r.val= .v z∧r.hp=hp:=by
 unfold Z4l at h
 split at h
 case h_2=>cases h
 rename_i ps t l str π' hrd
 split at h
 case h_2=>cases h
 rename_i e hse hstr
 split at h
 case h_2=>cases h
 rename_i hu8 hw
 have hw:U.width t=1:=Nat.eq_of_beq_eq_true hw
 injection h with h;subst h
 obtain⟨⟨ns,hfl,rfl⟩,hps⟩:=hobl
 have hus:=XQ hse
 have hud:P.underlying d=some .string:=by
  unfold Ve at hstr;split at hstr
  ·assumption
  ·cases hstr
 have hue:P.underlying e=some (.int .u8):=by
  unfold Z8J at hu8;split at hu8
  ·assumption
  ·cases hu8
 obtain⟨base,cap,rfl,hread⟩:=Z92 (P:=P) hi hrd hps hx
 obtain⟨cs,hrun,hcs,hload⟩:=hread l.length (Nat.le_refl _)
 refine⟨_, ?_,rfl,rfl⟩
 rw[List.take_of_length_le (Nat.le_refl _),hfl]at hcs
 have hcs':cs=ns.map (Value.int .u8):=by
  apply List.ext_getElem?
  intro j
  by_cases hj:j<cs.length
  ·have hj2:j<(ns.map fun n=>(AV.v (.int .u8 n):AV D)).length:=by rw[←hcs.1];exact hj
   have:=hcs.2 j _ _ (List.getElem?_eq_getElem hj) (List.getElem?_eq_getElem hj2)
   rw[List.getElem?_eq_getElem hj]
   simp only[List.getElem_map]at this
   have hj3:j<ns.length:=by simpa using hj2
   have hv:cs[j]= .int .u8 ns[j]:=by
    generalize cs[j]=q at this
    cases this;rfl
   rw[hv];simp[hj3]
  ·have hj2:¬j<ns.length:=by have:=hcs.1;simp at this;omega
   simp[hj,hj2]
 have hlen:l.length=ns.length:=by
  have:=congrArg List.length hfl
  rw[Yp,hw]at this;simpa using this
 cases base with
 |none=>
  have hnil:cs= []:=by
   have:(Builtin.firstCells (U.width t) l.length (.slice none l.length cap)).run P w= .ok (#[]:Array Value) w:=by simp[Builtin.firstCells]
   rw[this]at hrun
   injection hrun with hrun
   simpa using congrArg Array.toList hrun.symm
  rw[hnil]at hcs'
  have hns:ns= []:=by simpa using hcs'.symm
  subst hns
  rw[run_convert_bytes_nil w s e hus hue _ _ d hud]
  rfl
 |some ad=>
  have hl:=hload ad rfl
  rw[hw,Nat.mul_one,hcs']at hl
  rw[run_convert_bytes_string w s d e _ l.length cap hus hue hud,run_bytesToString w ad l.length cap ns hl,foldl_push_bytes]
  simp[ByteArray.empty,ByteArray.emptyWithCapacity]
  rfl
end
end Go.Eng
