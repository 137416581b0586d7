/- The engine, part 7: one operation. -/
import Derived.Test.YtcclngfmkodgjaaGreatEng6
set_option linter.unusedVariables false
set_option linter.unusedSectionVars false
set_option linter.unusedSimpArgs false
namespace Go.Eng
open Go
variable {D:Den} [Gl D]

section
variable {P:Program} {U:Zu D} {o:Oper} {a:Act} {w:World} {E:Emb} {hp:Z3 D}

theorem Z20:∀(hp:Z3 D) (i:Nat) (x:Zf D),hp[i]?=some x→ZC hp i x=hp
 | [],i,x,h=>by simp at h
 |o::r,0,x,h=>by simp at h;subst h;rfl
 |o::r,i+1,x,h=>by simp only[ZC];rw[Z20 r i x (by simpa using h)]

theorem Z8T {t t2 e:Nat} {id e' n ty ln m:Nat} {l:List (D e')} {news:List Value} {cs:List (AV D)} {x y:Value} {o':Zf D}
  (hi:Inv U w E hp) (he:Ye P t=some e) (hob:hp[id]?=some (.arr e' l ln false)) (hee:e=e') (hsz:ZT P e=some (U.width e')) (hsrc0:Src P (U.width e') t2 y m news w) (hnr:YJ U w E.S news cs)
  (hnn:n=ln) (hbytes:(l.length+m) * YK P e≤140737488355328) (h63:l.length+m<9223372036854775808)
  (hz:∃z,Xy (D:=D) P e=some z∧X7 z=true∧(ZH z).length=U.width e')
  (ho:∃xs,o'= .arr e' (l++xs) (l.length+m) false∧Z5 U e' xs=cs) (hx:Rep U w E hp x (.os id n)):
  ∃v w' E',(Builtin.append_ #[t,t2] ty #[x,y]).run P w= .ok v w'∧Inv U w' E' (ZC hp id o')∧Zg U w E hp w' E' (ZC hp id o')∧
   Rep U w' E' (ZC hp id o') v (.os id (l.length+m)):=by
 have hlnl:=Wj hi hob
 have hn:n=l.length:=hnn.trans hlnl
 subst hlnl
 obtain⟨xs,rfl,hfl⟩:=ho
 have hlt:id<hp.length:=(List.getElem?_eq_some_iff.1 hob).1
 have hob1:hp[id]?=some (.arr e' l l.length false):=hob
 have hut:P.underlying t=some (.slice e):=by
  unfold Ye at he;split at he
  ·injection he with he;subst he;assumption
  ·cases he
 obtain⟨z,hz,hzok,hzl⟩:=hz
 obtain⟨ti,zv,hti,hzz,hzr⟩:=WI (U:=U) (w:=w) (E:=E) (hp:=hp) hz
 have hzs:zv.cells.size=U.width e':=by have:=(Wa hzok hzr).1;rw[hzl]at this;simpa using this
 have hisz:ti.size=U.width e':=by
  simp only[ZT,hti,Option.map_some]at hsz;injection hsz
 have hbt:ti.bytes=YK P e:=by simp[YK,Program.bytesOf,hti]
 have hnl:news.length=m * U.width e':=hsrc0.newsLen
 have hsrc:Src P ti.size t2 y m news w:=by rw[hisz];exact hsrc0
 have hxl:xs.length=m:=by
  have h1:=Yp (U:=U) e' xs
  rw[hfl, ←hnr.1,hnl]at h1
  exact(Nat.eq_of_mul_eq_mul_right (U.pos e') h1).symm
 have hx1:=W1 hx
 obtain⟨⟨sa,sk,sc,hxv⟩,o1,ho1,hle1,hh1⟩:=hx1
 rw[hob1]at ho1;injection ho1 with ho1;subst ho1
 have h3:=hh1 hn
 have hobj:=hi.obj id _ hob1
 have flat_app:Z5 U e' (l++xs)=Z5 U e' l++cs:=by rw[←hfl];simp[Z5]
 by_cases hm0:m=0
 ·-- nothing is appended
  have hxs:xs= []:=List.eq_nil_of_length_eq_zero (by omega)
  subst hxs
  have hnews:news= []:=List.eq_nil_of_length_eq_zero (by rw[hnl,hm0];simp)
  subst hnews
  rw[hm0]at hsrc
  have heq:ZC hp id (.arr e' (l++ []) (l.length+m) false)=hp:=by rw[List.append_nil,hm0,Nat.add_zero];exact Z20 _ _ _ hob1
  rw[heq]
  have hres:Rep U w E hp x (.os id (l.length+m)):= .os _ _ _ ⟨⟨sa,sk,sc,hxv⟩,_,hob1,by simp[Zf.len];omega,fun _=>by
   have:l.length+m=n:=by omega
   rw[this];exact h3⟩
  cases hm:E.m id with
  |none=>
   rw[hm]at h3
   simp only[X3]at h3
   obtain⟨hn0,a0,rfl⟩:=h3
   exact⟨_,w,E,run_append_nothing w t t2 ty e ti hut hti a0 0 0 (Nat.le_refl _) y hsrc,hi,Zg.refl ..,hres⟩
  |some qq=>
   obtain⟨b,cap⟩:=qq
   rw[hm]at h3 hobj
   simp only[X3]at h3
   subst h3
   obtain⟨c0,e0,hb,hcap,_⟩:=hobj
   exact⟨_,w,E,run_append_nothing w t t2 ty e ti hut hti _ n cap.n (by rw[hn];exact hcap.2.1) y hsrc,hi,Zg.refl ..,hres⟩
 ·have grow:∀(base:Option Addr) (cap:Nat) (olds:List Value),x= .slice base n cap→cap<n+m→
    (Builtin.firstCells ti.size n (.slice base n cap)).run P w.drew= .ok olds.toArray w.drew→ZW U w E hp olds (Z5 U e' l)→YJ U w E.S olds (Z5 U e' l)→
    ∃v w' E',(Builtin.append_ #[t,t2] ty #[x,y]).run P w= .ok v w'∧Inv U w' E' (ZC hp id (.arr e' (l++xs) (l.length+m) false))∧
     Zg U w E hp w' E' (ZC hp id (.arr e' (l++xs) (l.length+m) false))∧Rep U w' E' (ZC hp id (.arr e' (l++xs) (l.length+m) false)) v (.os id (l.length+m)):=by
   intro base cap olds hxe hcap hold _ hor
   have hcaple:=Go.Room.nextslicecap_le' hcap
   have hrun:=run_append_grow_src w t t2 ty e ti zv hut hti hzz base n cap olds hold y m news hsrc hcap (by omega) (by
    have h1:Builtin.nextslicecap (n+m) cap * ti.bytes≤2 * (n+m) * ti.bytes:=Nat.mul_le_mul_right _ hcaple
    rw[hbt]at h1⊢
    have h2:2 * (n+m) * YK P e=2 * ((l.length+m) * YK P e):=by rw[hn,Nat.mul_assoc]
    omega)
   generalize hgc:grownCap w (n+m) cap e=gc at hrun
   have hgc':n+m≤gc:=by rw[←hgc];simp only[grownCap,Question.cut];omega
   have holdl:olds.length=l.length * U.width e':=by rw[hor.1,Yp]
   have hzc:(Builtin.zeroCells zv.cells (gc-(n+m))).size=(gc-(n+m)) * U.width e':=by simp[Builtin.zeroCells,hzs]
   -- the new block
   have i0d:Inv U w.drew E hp:=Inv.drew hi
   have hlen:((olds++news).toArray++Builtin.zeroCells zv.cells (gc-(n+m))).toList.length=gc * U.width e':=by
    have hm:(gc-(n+m)) * U.width e'+(n+m) * U.width e'=gc * U.width e':=by rw[←Nat.add_mul];congr 1;omega
    have hm2:(n+m) * U.width e'=l.length * U.width e'+m * U.width e':=by rw[Nat.add_mul,hn]
    rw[Array.length_toList,Array.size_append,hzc,List.size_toArray,List.length_append]
    omega
   obtain⟨i2,s2⟩:=Zcy (cap:=gc) i0d hob1 (o'':= .arr e' (l++xs) (l.length+m) false) rfl rfl (by simp[Zf.len];omega) rfl
    ((olds++news).toArray++Builtin.zeroCells zv.cells (gc-(n+m))).toList e (by
     simp only[WU,List.length_append]
     exact⟨hlen,by omega,by simp;omega⟩) (fun k d hk=>by
     have hk:(Z5 U e' (l++xs))[k]?=some d:=hk
     rw[flat_app]at hk
     have hkl:k<(olds++news).length:=by
      have:=(List.getElem?_eq_some_iff.1 hk).1
      rw[List.length_append,Yp, ←hnr.1,hnl]at this
      rw[List.length_append];omega
     have hg:(olds++news)[k]?=some (olds++news)[k]:=List.getElem?_eq_getElem hkl
     refine⟨(olds++news)[k],by
      rw[Array.toList_append,List.toList_toArray,List.getElem?_append_left hkl];exact hg, ?_⟩
     have hprep:ZE U w E.S (olds++news)[k] d:=by
      by_cases g:k<olds.length
      ·rw[List.getElem?_append_left g]at hg;rw[List.getElem?_append_left (by rw[←hor.1];exact g)]at hk;exact hor.2 k _ d hg hk
      ·rw[List.getElem?_append_right (by omega)]at hg;rw[List.getElem?_append_right (by rw[←hor.1];omega), ←hor.1]at hk;exact hnr.2 _ _ d hg hk
     exact ZE.mono (w:=w) (w':=w.drew) (S:=E.S) (fun _ h=>h) (fun _ _=>rfl) hprep) (fun _ _ _ _ _ _ _=>hee)
   subst hxe
   refine⟨_,_,_,hrun, ?_,Zg.drew.trans s2, ?_⟩
   ·exact i2
   ·refine .os _ _ _ ⟨⟨_,_,_,rfl⟩, .arr e' (l++xs) (l.length+m) false,by rw[YQ,if_pos rfl,hob1];rfl,by simp[Zf.len],fun _=> ?_⟩
    simp only[Emb.upd,if_true,X3]
    rw[hn]
    rfl
  cases hm:E.m id with
  |none=>
   rw[hm]at h3 hobj
   simp only[X3]at h3
   obtain⟨hn0,a0,hv0⟩:=h3
   obtain⟨e5,_⟩:=hobj
   refine grow a0 0 [] (by rw[hv0,hn0]) (by omega) ?_ ?_ ?_
   ·rw[hn0]
    cases a0 with
    |none=>simp[Builtin.firstCells]
    |some ad=>simp[Builtin.firstCells,loadCells,loadCellsFrom]
   ·rw[e5];exact⟨rfl,fun k x c h=>by simp at h⟩
   ·rw[e5];exact⟨rfl,fun k x c h=>by simp at h⟩
  |some qq=>
   obtain⟨b,cap⟩:=qq
   rw[hm]at h3
   simp only[X3]at h3
   have hobj':=hobj
   rw[hm]at hobj
   obtain⟨c0,e0,hb,⟨hcsz,hcl,_⟩,hr,f1,f2⟩:=hobj
   have hmulle:l.length * U.width e'≤c0.length:=by rw[hcsz];exact Nat.mul_le_mul_right _ hcl
   have hold:YJ U w E.S (c0.take (l.length * U.width e')) (Z5 U e' l):=by
    refine⟨by rw[List.length_take,Nat.min_eq_left hmulle,Yp],fun k x c hx hc=> ?_⟩
    have hk:k<l.length * U.width e':=by have:=(List.getElem?_eq_some_iff.1 hc).1;rwa [Yp]at this
    rw[List.getElem?_take_of_lt hk]at hx
    obtain⟨x',hx',hrr⟩:=hr k c hc
    rw[hx]at hx';injection hx' with hx';subst hx'
    exact hrr
   by_cases hroom:n+m≤cap.n
   ·-- there is room
    subst h3
    have hbnd:0+n * ti.size+news.length≤c0.length:=by
     rw[hnl,hisz,hcsz,Nat.zero_add, ←Nat.add_mul]
     exact Nat.mul_le_mul_right _ hroom
    have hst:=run_storeCells_at P b (0+n * ti.size) e0 news 0 ⟨c0⟩ w hb (by simpa using hbnd) hsrc.one
    simp only[Nat.add_zero]at hst
    obtain⟨i2,s2⟩:=TN hi hob1 rfl hm (o'':= .arr e' (l++xs) (l.length+m) false) rfl rfl (by simp[Zf.len])
     (c0.take (0+n * ti.size)++news++c0.drop (0+n * ti.size+news.length)) (by
      simp only[WU,List.length_append,List.length_take,List.length_drop]
      refine⟨by omega,by omega,by omega⟩) (fun k d hk=>by
      have hk:(Z5 U e' (l++xs))[k]?=some d:=hk
      rw[flat_app]at hk
      rw[We hbnd]
      have hfl1:(Z5 U e' l).length=n * ti.size:=by rw[Yp,hn,hisz]
      by_cases g:k<n * ti.size
      ·rw[List.getElem?_append_left (by omega)]at hk
       rw[if_pos (by omega)]
       exact hr k d hk
      ·rw[List.getElem?_append_right (by omega)]at hk
       have hk2:k-(Z5 U e' l).length<news.length:=by rw[hnr.1];exact(List.getElem?_eq_some_iff.1 hk).1
       rw[if_neg (by omega),if_pos (by omega)]
       have e9:k-(0+n * ti.size)=k-(Z5 U e' l).length:=by omega
       rw[e9]
       exact⟨_,List.getElem?_eq_getElem hk2,hnr.2 _ _ d (List.getElem?_eq_getElem hk2) hk⟩)
    refine⟨.slice (some ⟨b,0,none⟩) (n+m) cap.n,_,_, ?_,i2,s2, ?_⟩
    ·rcases hsrc.kind with⟨e7,hk7⟩|hk7 <;> simp[Builtin.append_,run_underlying hut,run_underlying hk7,sizeOf,typeInfo,hti,hsrc.len,hroom,hsrc.cells,W7]
     all_goals (simp only[Nat.zero_add]at hst;rw[hst];simp)
    ·refine .os _ _ _ ⟨⟨_,_,_,rfl⟩, .arr e' (l++xs) (l.length+m) false,by rw[YQ,if_pos rfl,hob1];rfl,by simp[Zf.len],fun _=> ?_⟩
     rw[hm]
     simp only[X3]
     rw[hn]
   ·refine grow (some ⟨b,0,none⟩) cap.n (c0.take (l.length * U.width e')) h3 (by omega) ?_ hold.rep hold
    rw[hn]
    have:=ZcH (P:=P) (w:=w.drew) (size:=ti.size) (n:=l.length) (b:=b) (cap:=cap.n) (e:=e0) (c:=c0) hb (by rw[hisz];exact hmulle)
    rw[hisz]at this⊢
    exact this
theorem ZcI {t t2 e e2:Nat} {id e' n ty ln:Nat} {l:List (D e')} {l2:List (D e2)} {ids:List Nat} {x y:Value} {o':Zf D} {ps:List Prop} {c:AV D}
  (hi:Inv U w E hp) (he:Ye P t=some e) (he2:∃q,Ye P t2=some q) (hob:hp[id]?=some (.arr e' l ln false)) (hee:e=e') (hsz:ZT P e=some (U.width e'))
  (hid:ids.contains id=false) (hvw:Vy hp ids c=(ps, .sl e2 l2)) (hw2:U.width e2=U.width e')
  (hnn:n=ln) (hbytes:(l.length+l2.length) * YK P e≤140737488355328) (h63:l.length+l2.length<9223372036854775808)
  (hz:∃z,Xy (D:=D) P e=some z∧X7 z=true∧(ZH z).length=U.width e')
  (ho:∃xs,o'= .arr e' (l++xs) (l.length+l2.length) false∧Z5 U e' xs=Z5 U e2 l2) (hps:ZD ps) (hx:Rep U w E hp x (.os id n)) (hy:Rep U w E hp y c):
  ∃v w' E',(Builtin.append_ #[t,t2] ty #[x,y]).run P w= .ok v w'∧Inv U w' E' (ZC (Y6 hp ids) id o')∧Zg U w E hp w' E' (ZC (Y6 hp ids) id o')∧
   Rep U w' E' (ZC (Y6 hp ids) id o') v (.os id (l.length+l2.length)):=by
 obtain⟨xs,rfl,hfl⟩:=ho
 obtain⟨E1,em1,hS1,i1,s1⟩:=U1 ids E hp hi
 have hob1:(Y6 hp ids)[id]?=some (.arr e' l ln false):=by rw[Z4v ids hp id hid];exact hob
 have hut2:∃q,P.underlying t2=some (.slice q):=by
  obtain⟨q,hq⟩:=he2
  unfold Ye at hq;split at hq
  ·exact⟨_,by assumption⟩
  ·cases hq
 obtain⟨q2,hut2⟩:=hut2
 obtain⟨news,hsrc,hnr⟩:=Z4B (P:=P) (size:=U.width e') hi hS1 s1 hvw hps hy hut2 hw2
 obtain⟨v,w',E',h1,h2,h3,h4⟩:=Z8T (ty:=ty) i1 he hob1 hee hsz hsrc hnr hnn hbytes h63 hz ⟨xs,rfl,hfl⟩ (s1.rep hi hx)
 exact⟨v,w',E',h1,h2,s1.trans h3,h4⟩
end
end Go.Eng
