/- The engine, part N: arrays with own arrays within their rows: opening a row, closing it, and the like. No memory is touched. -/
import Derived.Test.YtcclngfmkodgjaaGreatEngD
set_option linter.unusedVariables false
set_option linter.unusedSectionVars false
set_option linter.unusedSimpArgs false
namespace Go.Eng
open Go
variable {D:Den} [Gl D]

def Xb:Nat→List (AV D)→Z3 D×List (AV D)
 |_,[]=>([],[])
 |n, .sl e l::r=>match Xb (n+1) r with|(a,b)=>(.arr e l l.length false::a, .os n l.length::b)
 |n,a::r=>match Xb n r with|(x,y)=>(x,a::y)
def Wb (hp:Z3 D):List (AV D)→Option (List Prop×List Nat×List (AV D))
 | []=>some ([],[],[])
 | .os k n::r=>match hp[k]?,Wb hp r with
  |some (.arr e l ln false),some (ps,ids,cs)=>some ((n=ln)::ps,k::ids, .sl e l::cs)
  |_,_=>none
 | .v x::r=>match Wb hp r with
  |some (ps,ids,cs)=>some (ps,ids, .v x::cs)
  |none=>none
 | .db b::r=>match Wb hp r with
  |some (ps,ids,cs)=>some (ps,ids, .v (.bool b)::cs)
  |none=>none
 |_::_=>none
def UG (p:List Bool) (i:Nat) (b:Bool):Bool:=p[i]?==some b
theorem Z70 {p:List Bool} {i:Nat} {b:Bool} (h:UG p i b=true):p[i]?=some b:=by
 unfold UG at h
 exact eq_of_beq h
def WC:Z3 D→List Nat→Z3 D
 |hp,[]=>hp
 |hp,k::r=>match hp[k]? with
  |some (.arr e l n f)=>WC (ZC hp k (.dead (n+1) e)) r
  |_=>WC hp r
def W8:List (AV D)→List Nat
 | []=> []
 | .os k _::r=>k::W8 r
 |_::r=>W8 r
def ZdG:Ans D→Bool
 | .gdp _=>true
 | .gop _ _ _ _=>true
 | .gcl _ _ _=>true
 | .gfz _=>true
 |_=>false
def TR (U:Zu D) (hp:Z3 D):Ans D→Option (List Prop×Z3 D)
 | .gdp id=>match hp[id]? with
  |some (.arr t l n false)=>some ([],ZC hp id (.dp t l (List.replicate l.length false) none n))
  |_=>none
 | .gop id i b row=>match hp[id]? with
  |some (.dp t l pm none n)=>match b with
   |true=>match Xb hp.length row with
    |(news,row')=>some ([(∃x,l[i]?=some x∧U.cells t x=row)∧pm[i]?=some true],ZC hp id (.dp t l pm (some (i,row')) n)++news)
   |false=>some ([(∃x,l[i]?=some x∧U.cells t x=row)∧pm[i]?=some false],ZC hp id (.dp t l pm (some (i,row)) n))
  |_=>none
 | .gcl id b o'=>match hp[id]? with
  |some (.dp t l pm (some (i,row)) n)=>match b with
   |true=>match Wb hp row with
    |some (ps,ids,cs)=>match X4 (id::ids)with
     |true=>some ((∃y:D t,o'= .dp t (l.set i y) (pm.set i true) none n∧U.cells t y=cs)::ps,WC (ZC hp id o') ids)
     |false=>none
    |none=>none
   |false=>match (W8 row).contains id with
    |false=>match vws hp (W8 row) row with
     |(ps,cs)=>some ((∃y:D t,o'= .dp t (l.set i y) (pm.set i false) none n∧U.cells t y=cs)::ps,ZC (Y6 hp (W8 row)) id o')
    |true=>none
  |_=>none
 | .gfz id=>match hp[id]? with
  |some (.dp t l pm none n)=>some ([],ZC hp id (.arr t l n false))
  |_=>none
 |_=>none
def U5 (U:Zu D):List (Ans D)→Z3 D→Option (List Prop×Z3 D×List (Ans D))
 | [],hp=>some ([],hp,[])
 |a::π,hp=>match ZdG a with
  |true=>match TR U hp a with
   |some (ps,hp1)=>match U5 U π hp1 with
    |some (qs,hp2,π2)=>some (ps++qs,hp2,π2)
    |none=>none
   |none=>none
  |false=>some ([],hp,a::π)

section
variable {P:Program} {U:Zu D} {w:World} {E:Emb} {hp:Z3 D}

theorem ZdH {t:Nat} {l:List (D t)} {j:Nat} {a:AV D} (h:(Z5 U t l)[j]?=some a):∃i x k,l[i]?=some x∧(U.cells t x)[k]?=some a∧j=i * U.width t+k:=by
 induction l generalizing j with
 |nil=>simp[Z5]at h
 |cons y r ih=>
  simp only[Z5,List.flatMap_cons]at h
  by_cases hj:j<(U.cells t y).length
  ·rw[List.getElem?_append_left hj]at h
   exact⟨0,y,j,rfl,h,by simp⟩
  ·rw[List.getElem?_append_right (by omega)]at h
   obtain⟨i,x,k,h1,h2,h3⟩:=ih h
   rw[U.len]at h3 hj
   exact⟨i+1,x,k,by simpa using h1,h2,by rw[Nat.succ_mul];omega⟩
theorem Z9m {wd i i2 k:Nat} (hne:i2≠i) (hk:k<wd):¬(i * wd≤i2 * wd+k∧i2 * wd+k<i * wd+wd):=by
 rcases Nat.lt_or_gt_of_ne hne with g|g
 ·have:(i2+1) * wd≤i * wd:=Nat.mul_le_mul_right _ g
  rw[Nat.succ_mul]at this;omega
 ·have:(i+1) * wd≤i2 * wd:=Nat.mul_le_mul_right _ g
  rw[Nat.succ_mul]at this;omega

theorem Z4K {id:Nat} {o o':Zf D} (hi:Inv U w E hp) (ho:hp[id]?=some o) (hf:o.fz=false) (hf':o'.fz=false) (hw:o'.wid U=o.wid U) (hl:o'.len=o.len)
  (hobj:Zg U w E hp w E (ZC hp id o')→Vx U w E (ZC hp id o') o' (E.m id)):Inv U w E (ZC hp id o')∧Zg U w E hp w E (ZC hp id o'):=by
 have get:∀j oj,(ZC hp id o')[j]?=some oj→(j=id∧oj=o')∨(j≠id∧hp[j]?=some oj):=by
  intro j oj h
  rw[YQ]at h
  by_cases hj:j=id
  ·subst hj;rw[if_pos rfl,ho]at h;simp at h;exact .inl ⟨rfl,h.symm⟩
  ·rw[if_neg hj]at h;exact .inr ⟨hj,h⟩
 have old:∀(j:Nat) (oj:Zf D),(ZC hp id o')[j]?=some oj→oj.fz=false→∃o1:Zf D,hp[j]?=some o1∧o1.fz=false:=by
  intro j oj h h2
  rcases get j oj h with⟨rfl,rfl⟩|⟨_,h⟩
  ·exact⟨o,ho,hf⟩
  ·exact⟨oj,h,h2⟩
 have hs:Zg U w E hp w E (ZC hp id o'):=by
  refine⟨rfl,rfl,rfl,fun _ _ _=>rfl,Nat.le_refl _,fun _ _ _=>rfl, ?_,fun _ h=>h,fun _ h=> .inl h, ?_⟩
  ·rintro b hb ⟨j,oj,h1,h2,h3⟩
   obtain⟨o1,g1,g2⟩:=old j oj h1 h2
   exact⟨j,o1,g1,g2,h3⟩
  ·intro j oj hj
   by_cases hji:j=id
   ·subst hji
    rw[ho]at hj;injection hj with hj;subst hj
    exact⟨o',by rw[YQ,if_pos rfl,ho];rfl,hw,by omega,fun _=>rfl⟩
   ·exact⟨oj,by rw[YQ,if_neg hji];exact hj,rfl,Nat.le_refl _,fun _=>rfl⟩
 refine⟨⟨fun j oj hj=> ?_,fun i j oi oj b h1 h2 g1 g2 m1 m2=> ?_,hi.sb,hi.gl' hs⟩,hs⟩
 ·rcases get j oj hj with⟨rfl,rfl⟩|⟨hji,h⟩
  ·exact hobj hs
  ·exact(hi.obj j oj h).keep (fun _ _ _ _ _=>rfl) (fun _ h=>h) (fun _ _ _ _ _ _ h=>h) (Nat.le_refl _) (fun x a h=>hs.rep hi h) (fun x a h=>hs.prep hi h)
 ·obtain⟨o1,p1,q1⟩:=old i oi h1 g1
  obtain⟨o2,p2,q2⟩:=old j oj h2 g2
  exact hi.inj i j o1 o2 b p1 p2 q1 q2 m1 m2

theorem ZdI {id t n:Nat} {l:List (D t)} (hi:Inv U w E hp) (ho:hp[id]?=some (.arr t l n false)):
  Inv U w E (ZC hp id (.dp t l (List.replicate l.length false) none n))∧Zg U w E hp w E (ZC hp id (.dp t l (List.replicate l.length false) none n)):=by
 refine Z4K hi ho rfl rfl rfl rfl fun hs=> ?_
 have hob:=hi.obj id _ ho
 cases hm:E.m id with
 |none=>
  rw[hm]at hob
  obtain⟨rfl,rfl⟩:=hob
  exact⟨rfl,rfl,rfl,rfl⟩
 |some q=>
  obtain⟨b,cap⟩:=q
  rw[hm]at hob
  obtain⟨c,e,h1,h2,h3,h4,h5,h6,h0⟩:=hob
  refine⟨c,e,h1,⟨h2.1,h2.2.1,h2.2.2,by simp⟩,fun k a hk=>by simp[Zf.flat]at hk,fun h=>(by cases h),h5,h6,h0 rfl,fun i row h=>(by cases h),fun _=>none,fun _ _ _ h=>(by cases h),fun _ _ _ _ _ h=>(by cases h),fun i x hx _ k a hk=> ?_⟩
  obtain⟨v,hv,hr⟩:=h3 _ a (Z1W hx hk)
  refine⟨v,hv,fun hp=> ?_,fun _=>hr⟩
  have:=List.mem_of_getElem? hp
  rw[List.mem_replicate]at this
  exact absurd this.2 (by simp)

theorem ZdJ {id t n i:Nat} {l:List (D t)} {pm:List Bool} {x:D t} (hi:Inv U w E hp) (ho:hp[id]?=some (.dp t l pm none n)) (hx:l[i]?=some x) (hp':pm[i]?=some false):
  Inv U w E (ZC hp id (.dp t l pm (some (i,U.cells t x)) n))∧Zg U w E hp w E (ZC hp id (.dp t l pm (some (i,U.cells t x)) n)):=by
 refine Z4K hi ho rfl rfl rfl rfl fun hs=> ?_
 have hob:=hi.obj id _ ho
 cases hm:E.m id with
 |none=>
  rw[hm]at hob
  obtain⟨rfl,_⟩:=hob
  simp at hx
 |some q=>
  obtain⟨b,cap⟩:=q
  rw[hm]at hob
  obtain⟨c,e,h1,h2,h3,h4,h5,h6,h0,_,q,q1,q2,q3⟩:=hob
  refine⟨c,e,h1,h2,fun k a hk=>by simp[Zf.flat]at hk,fun h=>(by cases h),h5,h6,h0,fun i' row' h=> ?_,q,q1,q2,fun i2 x2 hx2 _ k a hk=> ?_⟩
  ·injection h with h;injection h with e1 e2
   subst e1;subst e2
   refine⟨(List.getElem?_eq_some_iff.1 hx).1,U.len t x,fun k a hk=> ?_⟩
   obtain⟨v,hv,_,g2⟩:=q3 i x hx (fun row h=>by cases h) k a hk
   exact⟨v,hv, .pure _ _ (hs.prep hi (g2 hp'))⟩
  ·obtain⟨v,hv,g1,g2⟩:=q3 i2 x2 hx2 (fun row h=>by cases h) k a hk
   exact⟨v,hv,fun h=>(g1 h).keep (fun _ _ _=>rfl) (fun x a h=>hs.prep hi h),fun h=>hs.prep hi (g2 h)⟩

theorem ZdK {id t n i:Nat} {l:List (D t)} {pm:List Bool} {row cs:List (AV D)} {ids:List Nat} {ps:List Prop} {y:D t} (hi:Inv U w E hp) (ho:hp[id]?=some (.dp t l pm (some (i,row)) n)) (hid:ids.contains id=false) (hv:vws hp ids row=(ps,cs)) (hps:ZD ps) (hy:U.cells t y=cs):
  ∃E',Inv U w E' (ZC (Y6 hp ids) id (.dp t (l.set i y) (pm.set i false) none n))∧Zg U w E hp w E' (ZC (Y6 hp ids) id (.dp t (l.set i y) (pm.set i false) none n)):=by
 obtain⟨E1,hm1,hS,i1,s1⟩:=U1 ids E hp hi
 have ho1:(Y6 hp ids)[id]?=some (.dp t l pm (some (i,row)) n):=by rw[Z4v _ _ _ hid];exact ho
 suffices hh:Inv U w E1 (ZC (Y6 hp ids) id (.dp t (l.set i y) (pm.set i false) none n))∧Zg U w E1 (Y6 hp ids) w E1 (ZC (Y6 hp ids) id (.dp t (l.set i y) (pm.set i false) none n))from⟨E1,hh.1,s1.trans hh.2⟩
 refine Z4K i1 ho1 rfl rfl rfl rfl fun hs=> ?_
 have hob:=i1.obj id _ ho1
 have hob0:=hi.obj id _ ho
 rw[hm1]at hob⊢
 cases hm:E.m id with
 |none=>
  rw[hm]at hob
  obtain⟨_,_,h,_⟩:=hob
  cases h
 |some q=>
  obtain⟨b,cap⟩:=q
  rw[hm]at hob hob0
  obtain⟨c,e,h1,h2,h3,h4,h5,h6,h0,hrow,q,q1,q2,q3⟩:=hob
  obtain⟨c0,e0,k1,_,_,_,_,_,_,hrow0,_⟩:=hob0
  rw[h1]at k1
  injection k1 with k1;injection k1 with k1 _;injection k1 with k1;subst k1
  obtain⟨hil,hrl,hr⟩:=hrow0 i row rfl
  refine⟨c,e,h1,⟨h2.1,by rw[List.length_set];exact h2.2.1,by rw[List.length_set];exact h2.2.2.1,by rw[List.length_set,List.length_set];exact h2.2.2.2⟩,fun k a hk=>by simp[Zf.flat]at hk,fun h=>(by cases h),h5,h6,h0,fun i' row' h=>(by cases h),q,q1,q2,fun i2 x2 hx2 _ k a hk=> ?_⟩
  by_cases he:i2=i
  ·subst he
   rw[List.getElem?_set_self hil]at hx2
   injection hx2 with hx2;subst hx2
   rw[hy]at hk
   have hcs:cs=(row.map (vw hp ids 8)).map (·.2):=by have:=congrArg Prod.snd hv;exact this.symm
   have hkl:k<row.length:=by
    have:=(List.getElem?_eq_some_iff.1 hk).1
    rw[hcs]at this;simpa using this
   obtain⟨v,hvv,hrv⟩:=hr k _ (List.getElem?_eq_getElem hkl)
   have hone:=U2 (S':=E1.S) (ids:=ids) (vs:= [v]) (cs:= [row[k]]) hi hS s1.smono (by
    have hall:ZD (vws hp ids row).1:=by rw[hv];exact hps
    simp only[vws]at hall⊢
    rw[Z0k]at hall⊢
    intro z hz
    exact hall z (by
     obtain⟨d,hd,rfl⟩:=List.mem_map.1 hz
     rw[List.mem_singleton]at hd;subst hd
     exact List.mem_map.2 ⟨_,List.getElem_mem hkl,rfl⟩)) ⟨rfl,fun k' x' c' hx' hc'=>by
      cases k' with
      |zero=>simp at hx' hc';subst hx';subst hc';exact hrv
      |succ k'=>simp at hx'⟩
   have hpr:=hone.2 0 v _ rfl rfl
   have ha:a=(vw hp ids 8 row[k]).2:=by
    rw[hcs,List.map_map,List.getElem?_map,List.getElem?_eq_getElem hkl]at hk
    simpa using hk.symm
   have hpl:i2<pm.length:=by rw[h2.2.2.2];exact hil
   refine⟨v,hvv,fun h=> ?_,fun _=> ?_⟩
   ·rw[List.getElem?_set_self hpl]at h;cases h
   ·rw[ha];exact hs.prep i1 hpr
  ·rw[List.getElem?_set_ne (fun h=>he h.symm)]at hx2
   obtain⟨v,hvv,g1,g2⟩:=q3 i2 x2 hx2 (fun row' h=>by injection h with h;injection h with h _;exact he h.symm) k a hk
   rw[List.getElem?_set_ne (fun h=>he h.symm)]
   exact⟨v,hvv,fun h=>(g1 h).keep (fun _ _ _=>rfl) (fun x a h=>hs.prep i1 h),fun h=>hs.prep i1 (g2 h)⟩

theorem ZdL {id t n:Nat} {l:List (D t)} {pm:List Bool} (hi:Inv U w E hp) (ho:hp[id]?=some (.dp t l pm none n)):
  ∃E',Inv U w E' (ZC hp id (.arr t l n false))∧Zg U w E hp w E' (ZC hp id (.arr t l n false)):=by
 have hob:=hi.obj id _ ho
 cases hm:E.m id with
 |none=>
  refine⟨E,Z4K hi ho rfl rfl rfl rfl fun hs=> ?_⟩
  rw[hm]at hob⊢
  obtain⟨rfl,_,_,rfl⟩:=hob
  exact⟨rfl,rfl⟩
 |some p=>
  obtain⟨b,cap⟩:=p
  rw[hm]at hob
  obtain⟨c,e,h1,h2,h3,h4,h5,h6,h0,_,q,q1,q2,q3⟩:=hob
  let E':Emb:= { m:=fun j=>if j=id then some (b,(cap.n:Cap))else E.m j,S:=fun b'=>E.S b'∨∃j k,q j=some (b',k) }
  have mid:E'.m id=some (b,(cap.n:Cap)):=by simp[E']
  have mold:∀j,j≠id→E'.m j=E.m j:=fun j hj=>by simp only[E'];rw[if_neg hj]
  have hBid:∀b',(b'=b∨cap.ns b')→Blk E id b':=fun b' h=>⟨b,cap,hm,h⟩
  have get:∀j oj,(ZC hp id (.arr t l n false))[j]?=some oj→(j=id∧oj= .arr t l n false)∨(j≠id∧hp[j]?=some oj):=by
   intro j oj h
   rw[YQ]at h
   by_cases hj:j=id
   ·subst hj;rw[if_pos rfl,ho]at h;simp at h;exact .inl ⟨rfl,h.symm⟩
   ·rw[if_neg hj]at h;exact .inr ⟨hj,h⟩
  have hblk:∀j oj b',(ZC hp id (.arr t l n false))[j]?=some oj→oj.fz=false→Blk E' j b'→∃o1:Zf D,hp[j]?=some o1∧o1.fz=false∧Blk E j b':=by
   intro j oj b' h g hb
   rcases get j oj h with⟨rfl,rfl⟩|⟨hj,h⟩
   ·obtain⟨b0,c0,hm0,hb0⟩:=hb
    rw[mid]at hm0
    injection hm0 with hm0;injection hm0 with e1 e2
    subst e1;subst e2
    rcases hb0 with rfl|hb0
    ·exact⟨_,ho,rfl, .of hm⟩
    ·exact hb0.elim
   ·exact⟨oj,h,g,hb.congr (mold j hj).symm⟩
  have hsn:∀b',E'.S b'→E.S b'∨Blk E id b':=by
   rintro b' (h|⟨j,k,h⟩)
   ·exact .inl h
   ·exact .inr (hBid b' (.inr (q1 _ _ _ h).1))
  have hs:Zg U w E hp w E' (ZC hp id (.arr t l n false)):=by
   refine⟨rfl,rfl,rfl,fun _ _ _=>rfl,Nat.le_refl _,fun _ _ _=>rfl, ?_,fun _ h=> .inl h,fun b' h=> ?_, ?_⟩
   ·rintro b' _ ⟨j,oj,g1,g2,g3⟩
    obtain⟨o1,f1,f2,f3⟩:=hblk j oj b' g1 g2 g3
    exact⟨j,o1,f1,f2,f3⟩
   ·rcases hsn b' h with h|h
    ·exact .inl h
    ·exact .inr (.inl ⟨id,_,ho,rfl,h⟩)
   ·intro j oj hj
    by_cases hji:j=id
    ·subst hji
     rw[ho]at hj;injection hj with hj;subst hj
     exact⟨.arr t l n false,by rw[YQ,if_pos rfl,ho];rfl,rfl,Nat.le_refl _,fun _=>by rw[mid,hm];rfl⟩
    ·exact⟨oj,by rw[YQ,if_neg hji];exact hj,rfl,Nat.le_refl _,fun _=>by rw[mold j hji]⟩
  have hnot:∀j oj b',(ZC hp id (.arr t l n false))[j]?=some oj→oj.fz=false→Blk E' j b'→¬E'.S b':=by
   rintro j oj b' g1 g2 g3 (h|⟨j2,k,h⟩)
   ·obtain⟨o1,f1,f2,f3⟩:=hblk j oj b' g1 g2 g3
    exact(hi.blk f1 f2 f3).2 h
   ·obtain⟨o1,f1,f2,f3⟩:=hblk j oj b' g1 g2 g3
    have:=hi.inj j id o1 _ b' f1 ho f2 rfl f3 (hBid b' (.inr (q1 _ _ _ h).1))
    subst this
    obtain⟨b0,c0,hm0,hb0⟩:=g3
    rw[mid]at hm0
    injection hm0 with hm0;injection hm0 with e1 e2
    subst e1;subst e2
    rcases hb0 with rfl|hb0
    ·exact(q1 _ _ _ h).2 rfl
    ·exact hb0.elim
  refine⟨E',⟨fun j oj hj=> ?_,fun i j oi oj b' g1 g2 f1 f2 m1 m2=> ?_,fun b' hb'=> ?_,hi.gl' hs⟩,hs⟩
  ·rcases get j oj hj with⟨rfl,rfl⟩|⟨hji,h⟩
   ·rw[mid]
    refine⟨c,e,h1,⟨h2.1,h2.2.1,h2.2.2.1⟩,fun k a hk=> ?_,fun h=>(by cases h),fun hf=>hnot _ _ b hj hf (.of mid),fun _ b' hn=>hn.elim,fun _=>h0⟩
    obtain⟨i,x,k',hx,hk',rfl⟩:=ZdH hk
    obtain⟨v,hv,g1,g2⟩:=q3 i x hx (fun row h=>by cases h) k' a hk'
    refine⟨v,hv, ?_⟩
    have hil:i<pm.length:=by rw[h2.2.2.2];exact(List.getElem?_eq_some_iff.1 hx).1
    cases hpb:pm[i]? with
    |none=>rw[List.getElem?_eq_getElem hil]at hpb;cases hpb
    |some bb=>
     cases bb with
     |false=>exact hs.prep hi (g2 hpb)
     |true=>
      have hN:=g1 hpb
      show ZE U w E'.S v a
      cases a with
      |sl e2 l2=>
       cases hq:q (i * U.width t+k')with
       |none=>
        rw[hq]at hN
        obtain⟨rfl,a0,rfl⟩:=hN
        exact .sl0 _ _ _
       |some p=>
        obtain⟨b2,kk⟩:=p
        rw[hq]at hN
        obtain⟨rfl,c2,e3,g3,g4,g5,g6⟩:=hN
        refine .sl e2 l2 b2 0 kk (fun k=>c2.getD k undef) (.inr ⟨_,_,hq⟩) g5 (fun k c hk=> ?_) (fun k c hk=> ?_)
        ·obtain⟨x2,hx2,_⟩:=g6 k c hk
         simp[World.cell?,g3,List.getD,hx2]
        ·obtain⟨x2,hx2,hr2⟩:=g6 k c hk
         simpa[List.getD,hx2]using hs.prep hi hr2
      |_=>exact hs.prep hi hN.2
   ·rw[mold j hji]
    refine(hi.obj j oj h).keep (fun _ _ _ _ _=>rfl) (fun b h=> .inl h) (fun b' b0 cp hm' hbb hf hS=> ?_) (Nat.le_refl _) (fun x a h=>hs.rep hi h) (fun x a h=>hs.prep hi h)
    exact absurd hS (hnot j oj b' hj hf ⟨b0,cp,by rw[mold j hji];exact hm',hbb⟩)
  ·obtain⟨o1,p1,r1,s1⟩:=hblk i oi b' g1 f1 m1
   obtain⟨o2,p2,r2,s2⟩:=hblk j oj b' g2 f2 m2
   exact hi.inj i j o1 o2 b' p1 p2 r1 r2 s1 s2
  ·rcases hsn b' hb' with h|h
   ·exact hi.sb b' h
   ·exact(hi.blk ho rfl h).1

/-! ### Opening a row with own arrays -/
def Xf:Nat→List (AV D)→List Nat
 |_,[]=> []
 |k, .sl _ _::r=>k::Xf (k+1) r
 |k,_::r=>Xf (k+1) r
theorem Z4L:∀(row:List (AV D)) (k0 m k:Nat),(Xf k0 row)[m]?=some k→k0≤k
 | [],k0,m,k,h=>by simp[Xf]at h
 |a::r,k0,m,k,h=>by
  cases a with
  |sl e l=>
   cases m with
   |zero=>simp[Xf]at h;omega
   |succ m=>have:=Z4L r (k0+1) m k (by simpa[Xf]using h);omega
  |_=>have:=Z4L r (k0+1) m k (by simpa[Xf]using h);omega
theorem Z71:∀(row:List (AV D)) (k0 m m' k:Nat),(Xf k0 row)[m]?=some k→(Xf k0 row)[m']?=some k→m=m'
 | [],k0,m,m',k,h,_=>by simp[Xf]at h
 |a::r,k0,m,m',k,h,h'=>by
  cases a with
  |sl e l=>
   cases m with
   |zero=>
    cases m' with
    |zero=>rfl
    |succ m'=>
     simp[Xf]at h h'
     have:=Z4L r (k0+1) m' k h';omega
   |succ m=>
    cases m' with
    |zero=>
     simp[Xf]at h h'
     have:=Z4L r (k0+1) m k h;omega
    |succ m'=>rw[Z71 r (k0+1) m m' k (by simpa[Xf]using h) (by simpa[Xf]using h')]
  |_=>exact Z71 r (k0+1) m m' k (by simpa[Xf]using h) (by simpa[Xf]using h')
theorem Z9n:∀(row:List (AV D)) (n:Nat),(Xb n row).2.length=row.length
 | [],n=>rfl
 |a::r,n=>by cases a <;> simp[Xb,Z9n r]
theorem Z72:∀(row:List (AV D)) (n k0 j:Nat) (a':AV D),(Xb n row).2[j]?=some a'→
  (∃m e l,(Xf k0 row)[m]?=some (k0+j)∧row[j]?=some (.sl e l)∧a'= .os (n+m) l.length∧(Xb n row).1[m]?=some (.arr e l l.length false))∨((∀e l,a'≠ .sl e l)∧row[j]?=some a')
 | [],n,k0,j,a',h=>by simp[Xb]at h
 |a::r,n,k0,j,a',h=>by
  cases a with
  |sl e l=>
   cases j with
   |zero=>
    simp[Xb]at h
    exact .inl ⟨0,e,l,by simp[Xf],rfl,by rw[←h];rfl,by simp[Xb]⟩
   |succ j=>
    rcases Z72 r (n+1) (k0+1) j a' (by simpa[Xb]using h)with⟨m,e',l',g1,g2,g3,g4⟩|⟨g1,g2⟩
    ·exact .inl ⟨m+1,e',l',by simpa[Xf,Nat.add_assoc,Nat.add_comm 1 j]using g1,by simpa using g2,by rw[g3];congr 1;omega,by simpa[Xb]using g4⟩
    ·exact .inr ⟨g1,by simpa using g2⟩
  |_=>
   cases j with
   |zero=>
    simp[Xb]at h
    exact .inr ⟨fun e l=>by rw[←h];simp,by simpa using h⟩
   |succ j=>
    rcases Z72 r n (k0+1) j a' (by simpa[Xb]using h)with⟨m,e',l',g1,g2,g3,g4⟩|⟨g1,g2⟩
    ·exact .inl ⟨m,e',l',by simpa[Xf,Nat.add_assoc,Nat.add_comm 1 j]using g1,by simpa using g2,g3,by simpa[Xb]using g4⟩
    ·exact .inr ⟨g1,by simpa using g2⟩
theorem Z73:∀(row:List (AV D)) (n k0 m:Nat) (o:Zf D),(Xb n row).1[m]?=some o→∃j e l,(Xf k0 row)[m]?=some (k0+j)∧row[j]?=some (.sl e l)∧o= .arr e l l.length false
 | [],n,k0,m,o,h=>by simp[Xb]at h
 |a::r,n,k0,m,o,h=>by
  cases a with
  |sl e l=>
   cases m with
   |zero=>
    simp[Xb]at h
    exact⟨0,e,l,by simp[Xf],rfl,h.symm⟩
   |succ m=>
    obtain⟨j,e',l',g1,g2,g3⟩:=Z73 r (n+1) (k0+1) m o (by simpa[Xb]using h)
    exact⟨j+1,e',l',by simpa[Xf,Nat.add_assoc,Nat.add_comm 1 j]using g1,by simpa using g2,g3⟩
  |_=>
   obtain⟨j,e',l',g1,g2,g3⟩:=Z73 r n (k0+1) m o (by simpa[Xb]using h)
   exact⟨j+1,e',l',by simpa[Xf,Nat.add_assoc,Nat.add_comm 1 j]using g1,by simpa using g2,g3⟩

theorem ZdM {id t n i:Nat} {l:List (D t)} {pm:List Bool} {x:D t} (hi:Inv U w E hp) (ho:hp[id]?=some (.dp t l pm none n)) (hx:l[i]?=some x) (hpm:pm[i]?=some true):
  ∃E',Inv U w E' (ZC hp id (.dp t l pm (some (i,(Xb hp.length (U.cells t x)).2)) n)++(Xb hp.length (U.cells t x)).1)∧
   Zg U w E hp w E' (ZC hp id (.dp t l pm (some (i,(Xb hp.length (U.cells t x)).2)) n)++(Xb hp.length (U.cells t x)).1):=by
 have hob:=hi.obj id _ ho
 cases hm:E.m id with
 |none=>
  rw[hm]at hob
  obtain⟨rfl,_⟩:=hob
  simp at hx
 |some p=>
 obtain⟨b,cap⟩:=p
 rw[hm]at hob
 obtain⟨c,e,h1,h2,h3,h4,h5,h6,h0,_,q,q1,q2,q3⟩:=hob
 have hcell:=Z72 (U.cells t x) hp.length 0
 have hnew:=Z73 (U.cells t x) hp.length 0
 have hlen2:(Xb hp.length (U.cells t x)).2.length=U.width t:=by rw[Z9n,U.len]
 have hlt:id<hp.length:=(List.getElem?_eq_some_iff.1 ho).1
 generalize hR:Xb hp.length (U.cells t x)=R at *
 generalize hPO:Xf 0 (U.cells t x)=PO at *
 have hPOinj:∀m m' k,PO[m]?=some k→PO[m']?=some k→m=m':=fun m m' k g1 g2=>Z71 (U.cells t x) 0 m m' k (by rw[hPO];exact g1) (by rw[hPO];exact g2)
 have hrow:=q3 i x hx (fun row h=>by cases h)
 have hN:∀j e2 l2,(U.cells t x)[j]?=some (.sl e2 l2)→∃v,c[i * U.width t+j]?=some v∧Z1O U w E.S (q (i * U.width t+j)) v (.sl e2 l2):=fun j e2 l2 hj=>by
  obtain⟨v,hv,g,_⟩:=hrow j _ hj
  exact⟨v,hv,g hpm⟩
 have hkw:∀ {j:Nat} {a:AV D},(U.cells t x)[j]?=some a→j<U.width t:=fun hj=>by rw[←U.len t x];exact(List.getElem?_eq_some_iff.1 hj).1
 let E':Emb:= { m:=fun j=>if j=id then some (b,⟨cap.n,fun b'=>cap.ns b'∧¬∃j k,(i * U.width t≤j∧j<i * U.width t+U.width t)∧q j=some (b',k)⟩)else if hp.length≤j then(match PO[j-hp.length]? with|some k=>(q (i * U.width t+k)).map (fun p=>(p.1,(p.2:Cap)))|none=>none)else E.m j,S:=E.S }
 let hp':=ZC hp id (.dp t l pm (some (i,R.2)) n)++R.1
 have hsl:(ZC hp id (.dp t l pm (some (i,R.2)) n)).length=hp.length:=Z4u _ _ _
 have mid:E'.m id=some (b,⟨cap.n,fun b'=>cap.ns b'∧¬∃j k,(i * U.width t≤j∧j<i * U.width t+U.width t)∧q j=some (b',k)⟩):=by simp[E']
 have mold:∀j,j≠id→j<hp.length→E'.m j=E.m j:=fun j hj hl=>by simp only[E'];rw[if_neg hj,if_neg (by omega)]
 have mnew:∀m,E'.m (hp.length+m)=(match PO[m]? with|some k=>(q (i * U.width t+k)).map (fun p=>(p.1,(p.2:Cap)))|none=>none):=fun m=>by
  simp only[E'];rw[if_neg (by omega),if_pos (by omega),show hp.length+m-hp.length=m by omega]
 have hBid:∀b',(b'=b∨cap.ns b')→Blk E id b':=fun b' h=>⟨b,cap,hm,h⟩
 have get:∀j oj,hp'[j]?=some oj→(j=id∧oj= .dp t l pm (some (i,R.2)) n)∨(j≠id∧j<hp.length∧hp[j]?=some oj)∨∃m k e2 l2,j=hp.length+m∧PO[m]?=some k∧(U.cells t x)[k]?=some (.sl e2 l2)∧oj= .arr e2 l2 l2.length false:=by
  intro j oj h
  by_cases hj:j<hp.length
  ·rw[show hp'=ZC hp id (.dp t l pm (some (i,R.2)) n)++R.1 from rfl,List.getElem?_append_left (by omega),YQ]at h
   by_cases hji:j=id
   ·subst hji;rw[if_pos rfl,ho]at h;simp at h;exact .inl ⟨rfl,h.symm⟩
   ·rw[if_neg hji]at h;exact .inr (.inl ⟨hji,hj,h⟩)
  ·rw[show hp'=ZC hp id (.dp t l pm (some (i,R.2)) n)++R.1 from rfl,List.getElem?_append_right (by omega),hsl]at h
   obtain⟨k,e2,l2,g1,g2,g3⟩:=hnew _ _ h
   rw[Nat.zero_add]at g1
   exact .inr (.inr ⟨j-hp.length,k,e2,l2,by omega,g1,g2,g3⟩)
 -- whose a block is
 have bid:∀b',Blk E' id b'→b'=b∨(cap.ns b'∧¬∃j k,(i * U.width t≤j∧j<i * U.width t+U.width t)∧q j=some (b',k)):=by
  rintro b' ⟨b0,c0,hm0,hb0⟩
  rw[mid]at hm0
  injection hm0 with hm0;injection hm0 with e1 e2
  subst e1;subst e2
  exact hb0
 have bnew:∀m k b',PO[m]?=some k→Blk E' (hp.length+m) b'→∃kk,q (i * U.width t+k)=some (b',kk):=by
  rintro m k b' hk ⟨b0,c0,hm0,hb0⟩
  rw[mnew,hk]at hm0
  simp only at hm0
  obtain⟨p,hp0,hp1⟩:=Option.map_eq_some_iff.1 hm0
  injection hp1 with e1 e2
  subst e1;subst e2
  rcases hb0 with rfl|hb0
  ·exact⟨p.2,hp0⟩
  ·exact hb0.elim
 have hblk:∀j oj b',hp'[j]?=some oj→oj.fz=false→Blk E' j b'→∃(j1:Nat) (o1:Zf D),hp[j1]?=some o1∧o1.fz=false∧Blk E j1 b':=by
  intro j oj b' h g hb
  rcases get j oj h with⟨rfl,rfl⟩|⟨hj,hjl,h⟩|⟨m,k,e2,l2,rfl,g1,g2,g3⟩
  ·exact⟨j,_,ho,rfl,hBid b' ((bid b' hb).imp (fun h=>h) (·.1))⟩
  ·exact⟨j,oj,h,g,hb.congr (mold j hj hjl).symm⟩
  ·obtain⟨kk,hq⟩:=bnew m k b' g1 hb
   exact⟨id,_,ho,rfl,hBid b' (.inr (q1 _ _ _ hq).1)⟩
 have hs:Zg U w E hp w E' hp':=by
  refine⟨rfl,rfl,rfl,fun _ _ _=>rfl,Nat.le_refl _,fun _ _ _=>rfl, ?_,fun _ h=>h,fun _ h=> .inl h, ?_⟩
  ·rintro b' _ ⟨j,oj,g1,g2,g3⟩
   obtain⟨j1,o1,f1,f2,f3⟩:=hblk j oj b' g1 g2 g3
   exact⟨j1,o1,f1,f2,f3⟩
  ·intro j oj hj
   have hjl:j<hp.length:=(List.getElem?_eq_some_iff.1 hj).1
   have e9:hp'[j]?=(ZC hp id (.dp t l pm (some (i,R.2)) n))[j]?:=List.getElem?_append_left (by omega)
   by_cases hji:j=id
   ·subst hji
    rw[ho]at hj;injection hj with hj;subst hj
    exact⟨.dp t l pm (some (i,R.2)) n,by rw[e9,YQ,if_pos rfl,ho];rfl,rfl,Nat.le_refl _,fun _=>by rw[mid,hm];rfl⟩
   ·exact⟨oj,by rw[e9,YQ,if_neg hji];exact hj,rfl,Nat.le_refl _,fun _=>by rw[mold j hji hjl]⟩
 refine⟨E',⟨fun j oj hj=> ?_,fun i' j oi oj b' g1 g2 f1 f2 m1 m2=> ?_,hi.sb,hi.gl' hs⟩,hs⟩
 ·rcases get j oj hj with⟨rfl,rfl⟩|⟨hji,hjl,h⟩|⟨m,k,e2,l2,rfl,g1,g2,rfl⟩
  ·rw[mid]
   refine⟨c,e,h1,h2,fun k a hk=>by simp[Zf.flat]at hk,fun h=>(by cases h),h5,fun hf b' hn=>h6 hf b' hn.1,h0,fun i' row' h=> ?_,fun j=>if i * U.width t≤j∧j<i * U.width t+U.width t then none else q j,fun j b' k h=> ?_,fun j j' b' k k' h h'=> ?_,fun i2 x2 hx2 hne k a hk=> ?_⟩
   ·injection h with h;injection h with e1 e2
    subst e1;subst e2
    refine⟨(List.getElem?_eq_some_iff.1 hx).1,hlen2,fun k a hk=> ?_⟩
    rcases hcell k a hk with⟨m,e2,l2,g1,g2,rfl,g4⟩|⟨g1,g2⟩
    ·rw[Nat.zero_add]at g1
     obtain⟨v,hv,hNc⟩:=hN k e2 l2 g2
     refine⟨v,hv, ?_⟩
     have hobj:hp'[hp.length+m]?=some (.arr e2 l2 l2.length false):=by
      rw[show hp'=ZC hp j (.dp t l pm (some (i,R.2)) n)++R.1 from rfl,List.getElem?_append_right (by omega),hsl,show hp.length+m-hp.length=m by omega]
      exact g4
     cases hq:q (i * U.width t+k)with
     |none=>
      rw[hq]at hNc
      obtain⟨rfl,a0,rfl⟩:=hNc
      refine .os _ _ _ ⟨⟨_,_,_,rfl⟩,_,hobj,Nat.le_refl _,fun _=> ?_⟩
      rw[mnew,g1]
      simp only[hq,Option.map_none]
      exact⟨rfl,a0,rfl⟩
     |some p=>
      obtain⟨b2,kk⟩:=p
      rw[hq]at hNc
      obtain⟨rfl,_⟩:=hNc
      refine .os _ _ _ ⟨⟨_,_,_,rfl⟩,_,hobj,Nat.le_refl _,fun _=> ?_⟩
      rw[mnew,g1]
      simp only[hq,Option.map_some]
      rfl
    ·obtain⟨v,hv,g3,_⟩:=hrow k a g2
     refine⟨v,hv, ?_⟩
     have:=g3 hpm
     cases a with
     |sl e2 l2=>exact absurd rfl (g1 e2 l2)
     |_=>exact .pure _ _ (hs.prep hi this.2)
   ·simp only at h
    split at h
    ·cases h
    ·rename_i hout
     refine⟨⟨(q1 _ _ _ h).1, ?_⟩,(q1 _ _ _ h).2⟩
     rintro ⟨j2,k2,hin,hq2⟩
     exact hout (q2 _ _ _ _ _ h hq2 ▸hin)
   ·simp only at h h'
    split at h
    ·cases h
    ·split at h'
     ·cases h'
     ·exact q2 _ _ _ _ _ h h'
   ·have hne':i2≠i:=fun e9=>hne R.2 (by rw[e9])
    obtain⟨v,hv,g1,g2⟩:=q3 i2 x2 hx2 (fun row h=>by cases h) k a hk
    have hk9:k<U.width t:=by rw[←U.len t x2];exact(List.getElem?_eq_some_iff.1 hk).1
    refine⟨v,hv,fun h=> ?_,fun h=>hs.prep hi (g2 h)⟩
    simp only
    rw[if_neg (Z9m hne' hk9)]
    exact(g1 h).keep (fun _ _ _=>rfl) (fun x a h=>hs.prep hi h)
  ·rw[mold j hji hjl]
   exact(hi.obj j oj h).keep (fun _ _ _ _ _=>rfl) (fun _ h=>h) (fun _ _ _ _ _ _ h=>h) (Nat.le_refl _) (fun x a h=>hs.rep hi h) (fun x a h=>hs.prep hi h)
  ·obtain⟨v,hv,hNc⟩:=hN k e2 l2 g2
   rw[mnew,g1]
   cases hq:q (i * U.width t+k)with
   |none=>
    rw[hq]at hNc
    obtain⟨rfl,_⟩:=hNc
    simp only[hq,Option.map_none]
    exact⟨rfl,rfl⟩
   |some p=>
    obtain⟨b2,kk⟩:=p
    rw[hq]at hNc
    obtain⟨_,c2,e3,g3,g4,g5,g6⟩:=hNc
    simp only[hq,Option.map_some]
    have hbb:=hi.blk ho rfl (hBid b2 (.inr (q1 _ _ _ hq).1))
    refine⟨c2,e3,g3.1,⟨g4,g5,rfl⟩,fun k a hk=> ?_,fun h=>(by cases h),fun _=>hbb.2,fun _ b' hn=>hn.elim,fun _=>g3.2⟩
    obtain⟨x2,hx2,hr2⟩:=g6 k a hk
    exact⟨x2,hx2,hs.prep hi hr2⟩
 ·have idnew:∀m k b',PO[m]?=some k→(∃a:AV D,(U.cells t x)[k]?=some a)→Blk E' id b'→Blk E' (hp.length+m) b'→False:=by
   rintro m k b' hk ⟨a,ha⟩ hb1 hb2
   obtain⟨kk,hq⟩:=bnew m k b' hk hb2
   rcases bid b' hb1 with rfl|⟨_,hno⟩
   ·exact(q1 _ _ _ hq).2 rfl
   ·exact hno ⟨_,kk,⟨by omega,by have:=hkw ha;omega⟩,hq⟩
  have oldnew:∀j oj m k b',j≠id→j<hp.length→hp[j]?=some oj→oj.fz=false→Blk E' j b'→PO[m]?=some k→Blk E' (hp.length+m) b'→False:=by
   intro j oj m k b' hj hjl h hf hb1 hk hb2
   obtain⟨kk,hq⟩:=bnew m k b' hk hb2
   exact hj (hi.inj j id oj _ b' h ho hf rfl (hb1.congr (mold j hj hjl).symm) (hBid b' (.inr (q1 _ _ _ hq).1)))
  rcases get i' oi g1 with⟨rfl,rfl⟩|⟨n1,l1,h1'⟩|⟨ma,ka,ea,la,rfl,a1,a2,rfl⟩ <;> rcases get j oj g2 with⟨rfl,rfl⟩|⟨n2,l2,h2'⟩|⟨mb,kb,eb,lb,rfl,b1,b2,rfl⟩
  ·rfl
  ·exact absurd (hi.inj i' j _ oj b' ho h2' rfl f2 (hBid b' ((bid b' m1).imp (fun h=>h) (·.1))) (m2.congr (mold j n2 l2).symm)).symm n2
  ·exact(idnew mb kb b' b1 ⟨_,b2⟩ m1 m2).elim
  ·exact absurd (hi.inj i' j oi _ b' h1' ho f1 rfl (m1.congr (mold i' n1 l1).symm) (hBid b' ((bid b' m2).imp (fun h=>h) (·.1)))) n1
  ·exact hi.inj i' j oi oj b' h1' h2' f1 f2 (m1.congr (mold i' n1 l1).symm) (m2.congr (mold j n2 l2).symm)
  ·exact(oldnew i' oi mb kb b' n1 l1 h1' f1 m1 b1 m2).elim
  ·exact(idnew ma ka b' a1 ⟨_,a2⟩ m2 m1).elim
  ·exact(oldnew j oj ma ka b' n2 l2 h2' f2 m2 a1 m1).elim
  ·obtain⟨_,hqa⟩:=bnew ma ka b' a1 m1
   obtain⟨_,hqb⟩:=bnew mb kb b' b1 m2
   have:=q2 _ _ _ _ _ hqa hqb
   have:ka=kb:=by omega
   subst this
   rw[hPOinj ma mb ka a1 b1]

theorem Z4M:∀(row:List (AV D)) (ps:List Prop) (ids:List Nat) (cs:List (AV D)),Wb hp row=some (ps,ids,cs)→ids=W8 row∧cs.length=row.length∧∀k∈ids,∃e l ln,hp[k]?=some (.arr e l ln false)
 | [],ps,ids,cs,h=>by
  simp only[Wb,Option.some.injEq,Prod.mk.injEq]at h
  obtain⟨rfl,rfl,rfl⟩:=h
  exact⟨rfl,rfl,fun _ h=>by cases h⟩
 |a::r,ps,ids,cs,h=>by
  cases a with
  |os k n=>
   simp only[Wb]at h
   split at h
   case h_2=>cases h
   rename_i e l ln ps' ids' cs' ho hr
   simp only[Option.some.injEq,Prod.mk.injEq]at h
   obtain⟨rfl,rfl,rfl⟩:=h
   obtain⟨h1,h2,h3⟩:=Z4M r _ _ _ hr
   refine⟨by rw[W8,h1],by simp[h2],fun q hq=> ?_⟩
   rcases List.mem_cons.1 hq with rfl|hq
   ·exact⟨_,_,_,ho⟩
   ·exact h3 q hq
  |v x=>
   simp only[Wb]at h
   split at h
   case h_2=>cases h
   rename_i ps' ids' cs' hr
   simp only[Option.some.injEq,Prod.mk.injEq]at h
   obtain⟨rfl,rfl,rfl⟩:=h
   obtain⟨h1,h2,h3⟩:=Z4M r _ _ _ hr
   exact⟨by rw[W8,h1];intro k n;simp,by simp[h2],h3⟩
  |db b=>
   simp only[Wb]at h
   split at h
   case h_2=>cases h
   rename_i ps' ids' cs' hr
   simp only[Option.some.injEq,Prod.mk.injEq]at h
   obtain⟨rfl,rfl,rfl⟩:=h
   obtain⟨h1,h2,h3⟩:=Z4M r _ _ _ hr
   exact⟨by rw[W8,h1];intro k n;simp,by simp[h2],h3⟩
  |_=>simp[Wb]at h
theorem Z4N:∀(row:List (AV D)) (ps:List Prop) (ids:List Nat) (cs:List (AV D)),Wb hp row=some (ps,ids,cs)→ZD ps→∀(j:Nat) a,cs[j]?=some a→
  (∃k n e l,row[j]?=some (.os k n)∧hp[k]?=some (.arr e l n false)∧a= .sl e l)∨(∃x,row[j]?=some (.v x)∧a= .v x)∨∃b,row[j]?=some (.db b)∧a= .v (.bool b)
 | [],ps,ids,cs,h,hps,j,a,ha=>by
  simp only[Wb,Option.some.injEq,Prod.mk.injEq]at h
  obtain⟨rfl,rfl,rfl⟩:=h
  simp at ha
 |c::r,ps,ids,cs,h,hps,j,a,ha=>by
  cases c with
  |os k n=>
   simp only[Wb]at h
   split at h
   case h_2=>cases h
   rename_i e l ln ps' ids' cs' ho hr
   simp only[Option.some.injEq,Prod.mk.injEq]at h
   obtain⟨rfl,rfl,rfl⟩:=h
   obtain⟨rfl,hps⟩:=hps
   cases j with
   |zero=>simp at ha;exact .inl ⟨k,n,e,l,rfl,ho,ha.symm⟩
   |succ j=>simpa using Z4N r _ _ _ hr hps j a (by simpa using ha)
  |v x=>
   simp only[Wb]at h
   split at h
   case h_2=>cases h
   rename_i ps' ids' cs' hr
   simp only[Option.some.injEq,Prod.mk.injEq]at h
   obtain⟨rfl,rfl,rfl⟩:=h
   cases j with
   |zero=>simp at ha;exact .inr (.inl ⟨x,rfl,ha.symm⟩)
   |succ j=>simpa using Z4N r _ _ _ hr hps j a (by simpa using ha)
  |db b=>
   simp only[Wb]at h
   split at h
   case h_2=>cases h
   rename_i ps' ids' cs' hr
   simp only[Option.some.injEq,Prod.mk.injEq]at h
   obtain⟨rfl,rfl,rfl⟩:=h
   cases j with
   |zero=>simp at ha;exact .inr (.inr ⟨b,rfl,ha.symm⟩)
   |succ j=>simpa using Z4N r _ _ _ hr hps j a (by simpa using ha)
  |_=>simp[Wb]at h
theorem TS:∀(row:List (AV D)) (j k n:Nat),row[j]?=some (.os k n)→k∈W8 row
 | [],j,k,n,h=>by simp at h
 |a::r,j,k,n,h=>by
  cases j with
  |zero=>simp at h;subst h;simp[W8]
  |succ j=>
   have:=TS r j k n (by simpa using h)
   cases a <;> simp[W8,this]
theorem Z9o:∀(row:List (AV D)),X4 (W8 row)=true→∀(j j' k n n':Nat),row[j]?=some (.os k n)→row[j']?=some (.os k n')→j=j'
 | [],_,j,j',k,n,n',h,_=>by simp at h
 |a::r,hn,j,j',k,n,n',h,h'=>by
  have hr:X4 (W8 r)=true:=by
   cases a with
   |os q m=>simp only[W8,X4,Bool.and_eq_true]at hn;exact hn.2
   |_=>exact hn
  cases j with
  |zero=>
   cases j' with
   |zero=>rfl
   |succ j'=>
    simp at h;subst h
    have:=TS r j' k n' (by simpa using h')
    simp only[W8,X4,Bool.and_eq_true,Bool.not_eq_true',List.contains_eq_mem,decide_eq_false_iff_not]at hn
    exact absurd this hn.1
  |succ j=>
   cases j' with
   |zero=>
    simp at h';subst h'
    have:=TS r j k n (by simpa using h)
    simp only[W8,X4,Bool.and_eq_true,Bool.not_eq_true',List.contains_eq_mem,decide_eq_false_iff_not]at hn
    exact absurd this hn.1
   |succ j'=>rw[Z9o r hr j j' k n n' (by simpa using h) (by simpa using h')]
theorem Z4O:∀(ids:List Nat) (hp:Z3 D) (j:Nat),j ∉ ids→(WC hp ids)[j]?=hp[j]?
 | [],hp,j,_=>rfl
 |k::r,hp,j,h=>by
  have hk:j≠k:=fun e=>h (by simp[e])
  have hr:j ∉ r:=fun e=>h (by simp[e])
  simp only[WC]
  split
  ·rw[Z4O r _ j hr,YQ,if_neg hk]
  ·exact Z4O r hp j hr
theorem Z74:∀(ids:List Nat) (hp:Z3 D) (j n t:Nat),hp[j]?=some (.dead n t)→(WC hp ids)[j]?=some (.dead n t)
 | [],hp,j,n,t,h=>h
 |k::r,hp,j,n,t,h=>by
  simp only[WC]
  split
  ·rename_i e l m f hk
   have hjk:j≠k:=by rintro rfl;rw[h]at hk;cases hk
   exact Z74 r _ j n t (by rw[YQ,if_neg hjk];exact h)
  ·exact Z74 r hp j n t h
theorem Z75:∀(ids:List Nat) (hp:Z3 D) (j e:Nat) (l:List (D e)) (n:Nat) (f:Bool),j∈ids→hp[j]?=some (.arr e l n f)→(WC hp ids)[j]?=some (.dead (n+1) e)
 | [],hp,j,e,l,n,f,h,_=>by cases h
 |k::r,hp,j,e,l,n,f,h,ho=>by
  simp only[WC]
  by_cases hjk:j=k
  ·subst hjk
   rw[ho]
   exact Z74 r _ j _ _ (by rw[YQ,if_pos rfl,ho];rfl)
  ·have hr:j∈r:=by
    rcases List.mem_cons.1 h with h|h
    ·exact absurd h hjk
    ·exact h
   split
   ·exact Z75 r _ j e l n f hr (by rw[YQ,if_neg hjk];exact ho)
   ·exact Z75 r hp j e l n f hr ho

theorem ZdN {id t n i:Nat} {l:List (D t)} {pm:List Bool} {row cs:List (AV D)} {ids:List Nat} {ps:List Prop} {y:D t} (hi:Inv U w E hp) (ho:hp[id]?=some (.dp t l pm (some (i,row)) n)) (hc:Wb hp row=some (ps,ids,cs)) (hnd:X4 (id::ids)=true) (hps:ZD ps) (hy:U.cells t y=cs):
  ∃E',Inv U w E' (WC (ZC hp id (.dp t (l.set i y) (pm.set i true) none n)) ids)∧Zg U w E hp w E' (WC (ZC hp id (.dp t (l.set i y) (pm.set i true) none n)) ids):=by
 have hob:=hi.obj id _ ho
 cases hm:E.m id with
 |none=>
  rw[hm]at hob
  obtain⟨_,_,h,_⟩:=hob
  cases h
 |some p=>
 obtain⟨b,cap⟩:=p
 rw[hm]at hob
 obtain⟨c,e,h1,h2,h3,h4,h5,h6,h0,hrow,q,q1,q2,q3⟩:=hob
 obtain⟨hil,hrl,hr⟩:=hrow i row rfl
 obtain⟨hids,hcl,harr⟩:=Z4M row ps ids cs hc
 have hcell:=Z4N row ps ids cs hc hps
 have hid:id ∉ ids:=by
  simp only[X4,Bool.and_eq_true,Bool.not_eq_true',List.contains_eq_mem,decide_eq_false_iff_not]at hnd
  exact hnd.1
 have hndi:X4 (W8 row)=true:=by
  simp only[X4,Bool.and_eq_true]at hnd
  rw[←hids];exact hnd.2
 let E':Emb:= { m:=fun j=>if j=id then some (b,⟨cap.n,fun b'=>cap.ns b'∨∃k c',k∈ids∧E.m k=some (b',c')⟩)else if j∈ids then none else E.m j,S:=E.S }
 let o1:Zf D:= .dp t (l.set i y) (pm.set i true) none n
 let hp':=WC (ZC hp id o1) ids
 have mid:E'.m id=some (b,⟨cap.n,fun b'=>cap.ns b'∨∃k c',k∈ids∧E.m k=some (b',c')⟩):=by simp[E']
 have mnil:∀j,j∈ids→E'.m j=none:=fun j hj=>by
  simp only[E'];rw[if_neg (by rintro rfl;exact hid hj),if_pos hj]
 have mold:∀j,j≠id→j ∉ ids→E'.m j=E.m j:=fun j hj hl=>by simp only[E'];rw[if_neg hj,if_neg hl]
 have hBid:∀b',(b'=b∨cap.ns b')→Blk E id b':=fun b' h=>⟨b,cap,hm,h⟩
 have gid:hp'[id]?=some o1:=by
  show(WC (ZC hp id o1) ids)[id]?=_
  rw[Z4O ids _ id hid,YQ,if_pos rfl,ho];rfl
 have gin:∀j e l m,j∈ids→hp[j]?=some (.arr e l m false)→hp'[j]?=some (.dead (m+1) e):=fun j e l m hj h=>by
  have hji:j≠id:=by rintro rfl;exact hid hj
  exact Z75 ids _ j e l m false hj (by rw[YQ,if_neg hji];exact h)
 have gold:∀j,j≠id→j ∉ ids→hp'[j]?=hp[j]?:=fun j hj hl=>by
  show(WC (ZC hp id o1) ids)[j]?=_
  rw[Z4O ids _ j hl,YQ,if_neg hj]
 have get:∀j oj,hp'[j]?=some oj→(j=id∧oj=o1)∨(j∈ids∧∃n t,oj= .dead n t)∨(j≠id∧j ∉ ids∧hp[j]?=some oj):=by
  intro j oj h
  by_cases hji:j=id
  ·subst hji;rw[gid]at h;injection h with h;exact .inl ⟨rfl,h.symm⟩
  ·by_cases hjl:j∈ids
   ·obtain⟨e9,l9,n9,h9⟩:=harr j hjl
    rw[gin j e9 l9 n9 hjl h9]at h;injection h with h
    exact .inr (.inl ⟨hjl,_,_,h.symm⟩)
   ·rw[gold j hji hjl]at h;exact .inr (.inr ⟨hji,hjl,h⟩)
 have bid:∀b',Blk E' id b'→(b'=b∨cap.ns b')∨∃k c',k∈ids∧E.m k=some (b',c'):=by
  rintro b' ⟨b0,c0,hm0,hb0⟩
  rw[mid]at hm0
  injection hm0 with hm0;injection hm0 with e1 e2
  subst e1;subst e2
  rcases hb0 with h|h|h
  ·exact .inl (.inl h)
  ·exact .inl (.inr h)
  ·exact .inr h
 have hblk:∀j oj b',hp'[j]?=some oj→oj.fz=false→Blk E' j b'→∃(j1:Nat) (o1:Zf D),hp[j1]?=some o1∧o1.fz=false∧Blk E j1 b':=by
  intro j oj b' h g hb
  rcases get j oj h with⟨rfl,rfl⟩|⟨hj,n9,t9,rfl⟩|⟨hj,hjl,h⟩
  ·rcases bid b' hb with h9|⟨k,c',hk,hk2⟩
   ·exact⟨j,_,ho,rfl,hBid b' h9⟩
   ·obtain⟨e9,l9,n9,h9⟩:=harr k hk
    exact⟨k,_,h9,rfl, .of hk2⟩
  ·cases g
  ·exact⟨j,oj,h,g,hb.congr (mold j hj hjl).symm⟩
 have hs:Zg U w E hp w E' hp':=by
  refine⟨rfl,rfl,rfl,fun _ _ _=>rfl,Nat.le_refl _,fun _ _ _=>rfl, ?_,fun _ h=>h,fun _ h=> .inl h, ?_⟩
  ·rintro b' _ ⟨j,oj,g1,g2,g3⟩
   obtain⟨j1,o1,f1,f2,f3⟩:=hblk j oj b' g1 g2 g3
   exact⟨j1,o1,f1,f2,f3⟩
  ·intro j oj hj
   by_cases hji:j=id
   ·subst hji
    rw[ho]at hj;injection hj with hj;subst hj
    exact⟨o1,gid,rfl,Nat.le_refl _,fun _=>by rw[mid,hm];rfl⟩
   ·by_cases hjl:j∈ids
    ·obtain⟨e9,l9,n9,h9⟩:=harr j hjl
     rw[h9]at hj;injection hj with hj;subst hj
     exact⟨_,gin j e9 l9 n9 hjl h9,rfl,Nat.le_succ _,fun h=>absurd h (by simp only[Zf.len];omega)⟩
    ·exact⟨oj,by rw[gold j hji hjl];exact hj,rfl,Nat.le_refl _,fun _=>by rw[mold j hji hjl]⟩
 refine⟨E',⟨fun j oj hj=> ?_,fun i' j oi oj b' g1 g2 f1 f2 m1 m2=> ?_,hi.sb,hi.gl' hs⟩,hs⟩
 ·rcases get j oj hj with⟨rfl,rfl⟩|⟨hjl,n9,t9,rfl⟩|⟨hji,hjl,h⟩
  ·rw[mid]
   have hpl:i<pm.length:=by rw[h2.2.2.2];exact hil
   have hns:∀k c' b',k∈ids→E.m k=some (b',c')→(b'<w.heap.size∧¬E.S b')∧b'≠b:=fun k c' b' hk hk2=>by
    obtain⟨e9,l9,n9,h9⟩:=harr k hk
    refine⟨hi.blk h9 rfl (.of hk2), ?_⟩
    rintro rfl
    exact hid (hi.inj k j _ _ b' h9 ho rfl rfl (.of hk2) (hBid b' (.inl rfl)) ▸hk)
   refine⟨c,e,h1,⟨h2.1,by rw[List.length_set];exact h2.2.1,by rw[List.length_set];exact h2.2.2.1,by rw[List.length_set,List.length_set];exact h2.2.2.2⟩,fun k a hk=>by simp[Zf.flat]at hk,fun h=>(by cases h),h5,fun hf b' hn=> ?_,h0,fun i' row' h=>(by cases h),
    fun k=>if i * U.width t≤k∧k<i * U.width t+U.width t then(match row[k-i * U.width t]? with|some (.os kk _)=>(E.m kk).map (fun p=>(p.1,p.2.n))|_=>none)else q k,fun k b' kk h=> ?_,fun k k' b' kk kk' h h'=> ?_,fun i2 x2 hx2 _ k a hk=> ?_⟩
   ·rcases hn with hn|⟨k,c',hk,hk2⟩
    ·exact h6 hf b' hn
    ·exact(hns k c' b' hk hk2).1
   ·simp only at h
    split at h
    ·split at h
     ·rename_i k9 n9 hr9
      obtain⟨p,hp0,hp1⟩:=Option.map_eq_some_iff.1 h
      injection hp1 with e1 e2
      subst e1;subst e2
      have hk9:k9∈ids:=hids ▸TS row _ _ _ hr9
      exact⟨.inr ⟨k9,p.2,hk9,hp0⟩,(hns k9 p.2 p.1 hk9 hp0).2⟩
     ·cases h
    ·exact⟨.inl (q1 _ _ _ h).1,(q1 _ _ _ h).2⟩
   ·have mixed:∀k9 p (k':Nat) (b' kk':Nat),k9∈ids→E.m k9=some p→p.1=b'→q k'=some (b',kk')→False:=by
     intro k9 p k' b' kk' hk9 hp0 e1 hq
     obtain⟨e9,l9,n9,h9⟩:=harr k9 hk9
     subst e1
     exact hid (hi.inj k9 j _ _ p.1 h9 ho rfl rfl (.of hp0) (hBid p.1 (.inr (q1 _ _ _ hq).1)) ▸hk9)
    simp only at h h'
    split at h
    ·rename_i hin
     split at h
     ·rename_i k9 n9 hr9
      obtain⟨p,hp0,hp1⟩:=Option.map_eq_some_iff.1 h
      injection hp1 with e1 e2
      have hk9:k9∈ids:=hids ▸TS row _ _ _ hr9
      split at h'
      ·rename_i hin'
       split at h'
       ·rename_i k8 n8 hr8
        obtain⟨p8,hp8,hp81⟩:=Option.map_eq_some_iff.1 h'
        injection hp81 with e81 e82
        have hk8:k8∈ids:=hids ▸TS row _ _ _ hr8
        obtain⟨e9,l9,m9,h9⟩:=harr k9 hk9
        obtain⟨e8,l8,m8,h8⟩:=harr k8 hk8
        have hkk:k9=k8:=hi.inj k9 k8 _ _ b' h9 h8 rfl rfl (.of (by rw[hp0, ←e1])) (.of (by rw[hp8, ←e81]))
        subst hkk
        have:=Z9o row hndi _ _ _ _ _ hr9 hr8
        omega
       ·cases h'
      ·exact(mixed k9 p k' b' kk' hk9 hp0 e1 h').elim
     ·cases h
    ·split at h'
     ·split at h'
      ·rename_i k9 n9 hr9
       obtain⟨p,hp0,hp1⟩:=Option.map_eq_some_iff.1 h'
       injection hp1 with e1 e2
       have hk9:k9∈ids:=hids ▸TS row _ _ _ hr9
       exact(mixed k9 p k b' kk hk9 hp0 e1 h).elim
      ·cases h'
     ·exact q2 _ _ _ _ _ h h'
   ·by_cases he:i2=i
    ·subst he
     rw[List.getElem?_set_self hil]at hx2
     injection hx2 with hx2;subst hx2
     have hk9:k<U.width t:=by rw[←U.len t y];exact(List.getElem?_eq_some_iff.1 hk).1
     have hrk:k<row.length:=by omega
     have hin:i2 * U.width t≤i2 * U.width t+k∧i2 * U.width t+k<i2 * U.width t+U.width t:=⟨by omega,by omega⟩
     have hsub:i2 * U.width t+k-i2 * U.width t=k:=by omega
     obtain⟨v,hv,hrv⟩:=hr k _ (List.getElem?_eq_getElem hrk)
     rw[hy]at hk
     refine⟨v,hv,fun _=> ?_,fun h=>by rw[List.getElem?_set_self hpl]at h;cases h⟩
     simp only
     rw[if_pos hin,hsub]
     rcases hcell k a hk with⟨kk,n9,e9,l9,g1,g2,rfl⟩|⟨x,g1,rfl⟩|⟨bb,g1,rfl⟩
     ·rw[g1]
      rw[List.getElem?_eq_getElem hrk]at g1
      injection g1 with g1
      rw[g1]at hrv
      obtain⟨_,o9,ho9,hle9,hh9⟩:=W1 hrv
      rw[g2]at ho9;injection ho9 with ho9;subst ho9
      have hh9:=hh9 rfl
      have hob9:=hi.obj kk _ g2
      simp only
      cases hm9:E.m kk with
      |none=>
       rw[hm9]at hh9 hob9
       simp only[Option.map_none]
       exact⟨hob9.1,hh9.2⟩
      |some p9=>
       obtain⟨b9,cap9⟩:=p9
       rw[hm9]at hh9 hob9
       obtain⟨c9,e8,f1,f2,f3,_,_,_,f0⟩:=hob9
       simp only[Option.map_some]
       refine⟨?_,c9,e8,⟨f1,f0 rfl⟩,f2.1,f2.2.1,fun z a9 hz=>f3 z a9 hz⟩
       have:=f2.2.2
       rw[←this];exact hh9
     ·rw[g1]
      rw[List.getElem?_eq_getElem hrk]at g1
      injection g1 with g1
      rw[g1]at hrv
      have:=Yo hrv
      subst this
      exact⟨rfl, .v _⟩
     ·rw[g1]
      rw[List.getElem?_eq_getElem hrk]at g1
      injection g1 with g1
      rw[g1]at hrv
      have:=Wy hrv
      subst this
      exact⟨rfl, .v _⟩
    ·rw[List.getElem?_set_ne (fun h=>he h.symm)]at hx2
     have hk9:k<U.width t:=by rw[←U.len t x2];exact(List.getElem?_eq_some_iff.1 hk).1
     obtain⟨v,hvv,g1,g2⟩:=q3 i2 x2 hx2 (fun row' h=>by injection h with h;injection h with h _;exact he h.symm) k a hk
     rw[List.getElem?_set_ne (fun h=>he h.symm)]
     simp only
     rw[if_neg (Z9m he hk9)]
     exact⟨v,hvv,fun h=>(g1 h).keep (fun _ _ _=>rfl) (fun x a h=>hs.prep hi h),fun h=>hs.prep hi (g2 h)⟩
  ·rw[mnil j hjl]
   trivial
  ·rw[mold j hji hjl]
   exact(hi.obj j oj h).keep (fun _ _ _ _ _=>rfl) (fun _ h=>h) (fun _ _ _ _ _ _ h=>h) (Nat.le_refl _) (fun x a h=>hs.rep hi h) (fun x a h=>hs.prep hi h)
 ·have one:∀j oj b',hp'[j]?=some oj→oj.fz=false→Blk E' j b'→Blk E' id b'→j=id:=by
   intro j oj b' g f m1 m2
   rcases get j oj g with⟨rfl,rfl⟩|⟨hjl,n9,t9,rfl⟩|⟨hji,hjl,h⟩
   ·rfl
   ·cases f
   ·have m1':=m1.congr (mold j hji hjl).symm
    rcases bid b' m2 with h9|⟨k,c',hk,hk2⟩
    ·exact hi.inj j id oj _ b' h ho f rfl m1' (hBid b' h9)
    ·obtain⟨e9,l9,n9,h9⟩:=harr k hk
     exact absurd (hi.inj j k oj _ b' h h9 f rfl m1' (.of hk2) ▸hk) hjl
  rcases get i' oi g1 with⟨rfl,rfl⟩|⟨hjl,n9,t9,rfl⟩|⟨n1,l1,h1'⟩
  ·exact(one j oj b' g2 f2 m2 m1).symm
  ·cases f1
  ·rcases get j oj g2 with⟨rfl,rfl⟩|⟨hjl,n9,t9,rfl⟩|⟨n2,l2,h2'⟩
   ·exact one i' oi b' g1 f1 m1 m2
   ·cases f2
   ·exact hi.inj i' j oi oj b' h1' h2' f1 f2 (m1.congr (mold i' n1 l1).symm) (m2.congr (mold j n2 l2).symm)
theorem ZdO {a:Ans D} {ps:List Prop} {hp':Z3 D} (h:TR U hp a=some (ps,hp')) (hps:ZD ps) (hi:Inv U w E hp):
  ∃E',Inv U w E' hp'∧Zg U w E hp w E' hp':=by
 cases a with
 |gdp id=>
  simp only[TR]at h
  split at h
  case h_2=>cases h
  rename_i t l n ho
  simp only[Option.some.injEq,Prod.mk.injEq]at h
  obtain⟨_,rfl⟩:=h
  exact⟨E,ZdI hi ho⟩
 |gop id i b row=>
  simp only[TR]at h
  split at h
  case h_2=>cases h
  rename_i t l pm n ho
  cases b with
  |true=>
   simp only[Option.some.injEq,Prod.mk.injEq]at h
   obtain⟨rfl,rfl⟩:=h
   obtain⟨⟨x,hx,rfl⟩,hpm⟩:=hps.1
   exact ZdM hi ho hx hpm
  |false=>
   simp only[Option.some.injEq,Prod.mk.injEq]at h
   obtain⟨rfl,rfl⟩:=h
   obtain⟨⟨x,hx,rfl⟩,hpm⟩:=hps.1
   exact⟨E,ZdJ hi ho hx hpm⟩
 |gcl id b o'=>
  simp only[TR]at h
  split at h
  case h_2=>cases h
  rename_i t l pm i row n ho
  cases b with
  |true=>
   simp only at h
   split at h
   case h_2=>cases h
   rename_i ps' ids cs hcr
   split at h
   case h_2=>cases h
   rename_i hnd
   simp only[Option.some.injEq,Prod.mk.injEq]at h
   obtain⟨rfl,rfl⟩:=h
   obtain⟨y,rfl,hy⟩:=hps.1
   exact ZdN hi ho hcr hnd hps.2 hy
  |false=>
   simp only at h
   split at h
   case h_2=>cases h
   rename_i hid
   simp only[Option.some.injEq,Prod.mk.injEq]at h
   obtain⟨rfl,rfl⟩:=h
   obtain⟨y,rfl,hy⟩:=hps.1
   exact ZdK hi ho hid rfl hps.2 hy
 |gfz id=>
  simp only[TR]at h
  split at h
  case h_2=>cases h
  rename_i t l pm n ho
  simp only[Option.some.injEq,Prod.mk.injEq]at h
  obtain⟨_,rfl⟩:=h
  exact ZdL hi ho
 |_=>simp[TR]at h
theorem Z0s:∀(π π':List (Ans D)) (hp hp':Z3 D) (E:Emb) (ps:List Prop),U5 U π hp=some (ps,hp',π')→ZD ps→Inv U w E hp→∃E',Inv U w E' hp'∧Zg U w E hp w E' hp'
 | [],π',hp,hp',E,ps,h,hps,hi=>by
  simp only[U5,Option.some.injEq,Prod.mk.injEq]at h
  obtain⟨_,rfl,_⟩:=h
  exact⟨E,hi,Zg.refl ..⟩
 |a::π,π',hp,hp',E,ps,h,hps,hi=>by
  simp only[U5]at h
  split at h
  ·split at h
   case h_2=>cases h
   rename_i qs hp1 hg
   split at h
   case h_2=>cases h
   rename_i rs hp2 π2 hr
   simp only[Option.some.injEq,Prod.mk.injEq]at h
   obtain⟨rfl,rfl,rfl⟩:=h
   rw[YG]at hps
   obtain⟨E1,i1,s1⟩:=ZdO hg hps.1 hi
   obtain⟨E2,i2,s2⟩:=Z0s π _ hp1 _ E1 rs hr hps.2 i1
   exact⟨E2,i2,s1.trans s2⟩
  ·simp only[Option.some.injEq,Prod.mk.injEq]at h
   obtain⟨_,rfl,_⟩:=h
   exact⟨E,hi,Zg.refl ..⟩
end
end Go.Eng
