/- The engine, part 3: what the abstract operations say of the model's. -/
import Derived.Test.YtcclngfmkodgjaaGreatEng2
set_option linter.unusedVariables false
set_option linter.unusedSectionVars false
set_option linter.unusedSimpArgs false
namespace Go.Eng
open Go
variable {D:Den} [Gl D]

def XX (U:Zu D) (w:World) (E:Emb) (hp:Z3 D) (a:Act) (fr:Fr D):Prop:=∀s,Rep U w E hp (a.tmps.getD s undef) (ZL fr s)

def Oks (P:Program) (U:Zu D) (o:Oper) (a:Act) (w:World) (E:Emb) (hp:Z3 D) (av:AV D) (hp':Z3 D):Prop:=
 ∀(next:Act→World→Prop) (Q:Exit→Act→World→Prop),
  (∀v w' E',Inv U w' E' hp'→Zg U w E hp w' E' hp'→Rep U w' E' hp' v av→next (a.put o.dst v) w')→o.wp P a w next Q

section
variable {P:Program} {U:Zu D} {o:Oper} {a:Act} {w:World} {E:Emb} {hp:Z3 D}

theorem Wm {v:Value} {w':World} {E':Emb} {hp':Z3 D} {av:AV D} (hr:(execOp a.eval o).run P w= .ok (.value v) w')
  (hi:Inv U w' E' hp') (hs:Zg U w E hp w' E' hp') (hv:Rep U w' E' hp' v av):Oks P U o a w E hp av hp':=by
 intro next Q h
 unfold Oper.wp
 rw[hr]
 exact h v w' E' hi hs hv
theorem Zcn {w':World} {E':Emb} {hp':Z3 D} (hr:(execOp a.eval o).run P w= .ok .skip w')
  (hi:Inv U w' E' hp') (hs:Zg U w E hp w' E' hp'):Oks P U o a w E hp (.v (.tuple #[])) hp':=by
 intro next Q h
 unfold Oper.wp
 rw[hr]
 exact h undef w' E' hi hs (.v _)
theorem YC {v:Value} {av:AV D} (hi:Inv U w E hp) (hr:(execOp a.eval o).run P w= .ok (.value v) w) (hv:Rep U w E hp v av):Oks P U o a w E hp av hp:=
 Wm hr hi (Zg.refl U w E hp) hv

theorem Zco (x:Value):Rep U w E hp x (Z6g x):=by
 unfold Z6g;split
 ·exact .db _
 ·exact .v _
theorem Z4r:∀(cs:List Value) (ks:List (Option Nat)),ZW U w E hp cs (U0 cs ks)
 | [],ks=>by simp[U0,ZW]
 |x::r,ks=>by
  have hc:Rep U w E hp x (zc1 x ks):=by
   unfold zc1;split
   ·exact .em _ _
   ·exact Zco _
  obtain⟨h1,h2⟩:=Z4r r ks.tail
  refine⟨by simp[U0,h1],fun k y d hy hd=> ?_⟩
  cases k with
  |zero=>simp[U0]at hy hd;subst hy;subst hd;exact hc
  |succ k=>exact h2 k y d (by simpa using hy) (by simpa[U0]using hd)

theorem Zcp (ty:Nat) (x:Value):Rep U w E hp x (Z6h P ty x):=by
 unfold Z6h
 split
 ·split
  ·exact .em _ _
  ·exact .v _
 ·exact .db _
 ·rename_i cs
  have h:=Z4r (U:=U) (w:=w) (E:=E) (hp:=hp) cs.toList (UB P 10 ty)
  exact .agg cs.toList _ h.1 h.2
 ·exact .v _

theorem ZY {fr:Fr D} (hi:Inv U w E hp) (hf:XX U w E hp a fr) (ty:Nat) (x:Operand):Rep U w E hp (a.eval x) (Zv P fr ty x):=by
 cases x with
 |tmp t=>exact hf t
 |const x=>exact Zcp ty x
 |global g=>
  show Rep U w E hp (.pointer (some ⟨g,0,none⟩)) (match Gl.row (D:=D) g with|some r=> .rp r 0|none=> .un)
  cases h:Gl.row (D:=D) g with
  |some r=>exact .pure _ _ (hi.gl g r h)
  |none=>exact .un _
 |func f=>exact Rep.fn _ [] [] [] [] rfl rfl (fun k x c h=>by simp at h) (fun k x c h=>by simp at h)

theorem Z8L {fr:Fr D} (hi:Inv U w E hp) (hf:XX U w E hp a fr):∀(xs:List Operand) (tys:List Nat),ZW U w E hp (xs.map a.eval) (W6 P fr tys xs)
 | [],tys=>⟨rfl,fun k x c h=>by simp at h⟩
 |x::r,tys=>by
  obtain⟨h1,h2⟩:=Z8L hi hf r tys.tail
  refine⟨by simp[W6,h1],fun k y c hy hc=> ?_⟩
  cases k with
  |zero=>simp[W6]at hy hc;subst hy;subst hc;exact ZY hi hf _ _
  |succ k=>simp[W6]at hy hc;exact h2 k y c (by simpa using hy) hc

theorem WV {x y:Value} {c:AV D} (hc:toV c=some y) (h:Rep U w E hp x c):x=y:=by
 cases c <;> simp[toV]at hc
 ·subst hc;exact Yo h
 ·subst hc;exact Wy h

def Emb.upd (E:Emb) (id:Nat) (mb:Option (Nat×Cap)):Emb:= { E with m:=fun j=>if j=id then mb else E.m j }

theorem Z4s (o:Zf D) (mb:Option (Nat×Cap)):Evo U E hp (E.upd hp.length mb) (hp++ [o]):=by
 intro id o' h
 have hlt:id<hp.length:=(List.getElem?_eq_some_iff.1 h).1
 refine⟨o',by rw[List.getElem?_append_left hlt];exact h,rfl,Nat.le_refl _,fun _=> ?_⟩
 simp only[Emb.upd]
 rw[if_neg (by omega)]

theorem Inv.mlt (hi:Inv U w E hp) {id b:Nat} {o:Zf D} {cap:Cap} (ho:hp[id]?=some o) (hm:E.m id=some (b,cap)):b<w.heap.size:=by
 have:=hi.obj id o ho
 rw[hm]at this
 obtain⟨c,e,h1,_⟩:=this
 exact(Array.getElem?_eq_some_iff.1 h1).1
theorem Inv.blt (hi:Inv U w E hp) {id b:Nat} {o:Zf D} (ho:hp[id]?=some o) (hb:Blk E id b) (hf:o.fz=false∨∃cap,E.m id=some (b,cap)):b<w.heap.size:=by
 rcases hf with hf|⟨cap,hm⟩
 ·exact(hi.blk ho hf hb).1
 ·exact hi.mlt ho hm
theorem Z1O.keep {w':World} {S S':Nat→Prop} {qj:Option (Nat×Nat)} {v:Value} {a:AV D} (h:Z1O U w S qj v a) (hb:∀b k,qj=some (b,k)→w'.heap[b]?=w.heap[b]?)
  (hp:∀x a,ZE U w S x a→ZE U w' S' x a):Z1O U w' S' qj v a:=by
 cases a with
 |sl e l=>
  cases qj with
  |none=>exact h
  |some q=>
   obtain⟨b,k⟩:=q
   obtain⟨h1,c,e',h2,h3,h4,h5⟩:=h
   refine⟨h1,c,e',⟨by rw[hb b k rfl];exact h2.1,h2.2⟩,h3,h4,fun i a hi=> ?_⟩
   obtain⟨x,hx,hr⟩:=h5 i a hi
   exact⟨x,hx,hp _ _ hr⟩
 |_=>exact⟨h.1,hp _ _ h.2⟩
theorem DpC.keep {w':World} {E':Emb} {hp':Z3 D} {o:Zf D} {b e:Nat} {cap:Cap} {c:List Value} (h:DpC U w E hp b cap c e o) (hb:∀b',cap.ns b'→w'.heap[b']?=w.heap[b']?)
  (hrep:∀x a,Rep U w E hp x a→Rep U w' E' hp' x a) (hprep:∀x a,ZE U w E.S x a→ZE U w' E'.S x a):DpC U w' E' hp' b cap c e o:=by
 cases o with
 |dp t l pm op n=>
  obtain⟨h0,h1,q,h2,h3,h4⟩:=h
  refine⟨h0,fun i row he=> ?_,q,h2,h3,fun i x hx hne k a hk=> ?_⟩
  ·obtain⟨g1,g2,g3⟩:=h1 i row he
   refine⟨g1,g2,fun k a hk=> ?_⟩
   obtain⟨x,hx,hr⟩:=g3 k a hk
   exact⟨x,hx,hrep x a hr⟩
  ·obtain⟨v,hv,g1,g2⟩:=h4 i x hx hne k a hk
   exact⟨v,hv,fun hp=>(g1 hp).keep (fun b' k' hq=>hb b' (h2 _ _ _ hq).1) hprep,fun hp=>hprep _ _ (g2 hp)⟩
 |box e' row f=>exact h
 |arr t l n f=>exact h
 |_=>trivial
theorem Vx.keep {w':World} {E':Emb} {hp':Z3 D} {o:Zf D} {mb:Option (Nat×Cap)} (h:Vx U w E hp o mb)
  (hb:∀b b0 cap,mb=some (b0,cap)→(b=b0∨cap.ns b∧o.fz=false)→w'.heap[b]?=w.heap[b]?) (hS:∀b,E.S b→E'.S b)
  (hS':∀b b0 cap,mb=some (b0,cap)→(b=b0∨cap.ns b)→o.fz=false→E'.S b→E.S b) (hz:w.heap.size≤w'.heap.size)
  (hrep:∀x a,Rep U w E hp x a→Rep U w' E' hp' x a) (hprep:∀x a,ZE U w E.S x a→ZE U w' E'.S x a):Vx U w' E' hp' o mb:=by
 cases mb with
 |none=>exact h
 |some q=>
  obtain⟨b,cap⟩:=q
  obtain⟨c,e,h1,h2,h3,h4,h5,h6,h7⟩:=h
  refine⟨c,e,by rw[hb b b cap rfl (.inl rfl)];exact h1,h2,fun k a hk=> ?_,fun hf=>hS b (h4 hf),fun hf hs=>h5 hf (hS' b b cap rfl (.inl rfl) hf hs),fun hf b' hn=>⟨by have:=(h6 hf b' hn).1;omega,fun hs=>(h6 hf b' hn).2 (hS' b' b cap rfl (.inr hn) hf hs)⟩, ?_⟩
  ·obtain⟨x,hx,hr⟩:=h3 k a hk
   exact⟨x,hx,hr.mono hprep hrep⟩
  ·cases hf:o.fz with
   |false=>exact h7.keep (fun b' hn=>hb b' b cap rfl (.inr ⟨hn,hf⟩)) hrep hprep
   |true=>
    cases o with
    |dp t l pm op n=>cases hf
    |_=>trivial

theorem W9 {α:Type} {l:List α} {x y:α} {i:Nat} (h:(l++ [x])[i]?=some y):(i<l.length∧l[i]?=some y)∨(i=l.length∧y=x):=by
 by_cases hi:i<l.length
 ·left;rw[List.getElem?_append_left hi]at h;exact⟨hi,h⟩
 ·right
  rw[List.getElem?_append_right (by omega)]at h
  cases hk:i-l.length with
  |zero=>rw[hk]at h;simp at h;exact⟨by omega,h.symm⟩
  |succ k=>rw[hk]at h;simp at h

theorem Xp {id k b:Nat} {mb:Option (Nat×Cap)} (h:id≠k):Blk (E.upd k mb) id b↔Blk E id b:=by
 unfold Blk Emb.upd;simp only[if_neg h]
theorem Z6w {k b:Nat} :¬Blk (E.upd k none) k b:=by rintro ⟨b0,cap,hm,_⟩;simp[Emb.upd]at hm
theorem WW {k b b0 n:Nat} :Blk (E.upd k (some (b0,(n:Cap)))) k b↔b=b0:=by
 constructor
 ·rintro ⟨b1,cap,hm,hb⟩
  simp only[Emb.upd,if_true,Option.some.injEq,Prod.mk.injEq]at hm
  obtain⟨rfl,rfl⟩:=hm
  rcases hb with h|h
  ·exact h
  ·exact h.elim
 ·rintro rfl;exact⟨b,(n:Cap),by simp[Emb.upd], .inl rfl⟩

theorem Z6x (hi:Inv U w E hp) (t:Nat) (f:Bool):
  Inv U w (E.upd hp.length none) (hp++ [.arr t [] 0 f])∧Zg U w E hp w (E.upd hp.length none) (hp++ [.arr t [] 0 f]):=by
 have hown:∀b,Own (E.upd hp.length none) (hp++ [Zf.arr t [] 0 f]) b→Own E hp b:=by
  rintro b ⟨id,o,ho,hf,hm⟩
  rcases W9 ho with⟨hlt,ho'⟩|⟨rfl,_⟩
  ·exact⟨id,o,ho',hf,(Xp (by omega)).1 hm⟩
  ·exact absurd hm Z6w
 have hs:Zg U w E hp w (E.upd hp.length none) (hp++ [.arr t [] 0 f]):=
  ⟨rfl,rfl,rfl,fun _ _ _=>rfl,Nat.le_refl _,fun _ _ _=>rfl,fun b _ h=>hown b h,fun _ h=>h,fun _ h=> .inl h,Z4s _ _⟩
 refine⟨⟨fun id o ho=> ?_,fun i j oi oj b h1 h2 f1 f2 m1 m2=> ?_,hi.sb,hi.gl' hs⟩,hs⟩
 ·rcases W9 ho with⟨hlt,ho'⟩|⟨rfl,rfl⟩
  ·have:=hi.obj id o ho'
   have e:(E.upd hp.length none).m id=E.m id:=by simp only[Emb.upd];rw[if_neg (by omega)]
   rw[e]
   exact this.keep (fun _ _ _ _ _=>rfl) (fun _ h=>h) (fun _ _ _ _ _ _ h=>h) (Nat.le_refl _) (fun x a h=>hs.rep hi h) (fun x a h=>hs.prep hi h)
  ·simp only[Emb.upd,if_true];exact⟨rfl,rfl⟩
 ·have e1:i<hp.length∧hp[i]?=some oi:=by
   rcases W9 h1 with h|⟨rfl,_⟩
   ·exact h
   ·exact absurd m1 Z6w
  have e2:j<hp.length∧hp[j]?=some oj:=by
   rcases W9 h2 with h|⟨rfl,_⟩
   ·exact h
   ·exact absurd m2 Z6w
  exact hi.inj i j oi oj b e1.2 e2.2 f1 f2 ((Xp (by omega)).1 m1) ((Xp (by omega)).1 m2)

theorem WX {o':Obj} {k:Nat} (h:k<w.heap.size):({ w with heap:=w.heap.push o' } :World).heap[k]?=w.heap[k]?:=by
 show(w.heap.push o')[k]?=_
 rw[Array.getElem?_push,if_neg (by omega)]

theorem Z1T (hi:Inv U w E hp) (o:Zf D) (c:List Value) (e cap:Nat) (hcap:WU U cap c.length o) (hf:o.fz=false)
  (hrep:∀(k:Nat) a,(o.flat U)[k]?=some a→∃x,c[k]?=some x∧WA U w E hp o x a) (hnd:∀E' w' hp' b cap c,DpC U w' E' hp' b cap c e o:=by intros;first|exact fun _=>rfl|trivial):
  Inv U { w with heap:=w.heap.push (.cells ⟨c⟩ e (0,0)) } (E.upd hp.length (some (w.heap.size,cap))) (hp++ [o])∧
  Zg U w E hp { w with heap:=w.heap.push (.cells ⟨c⟩ e (0,0)) } (E.upd hp.length (some (w.heap.size,cap))) (hp++ [o]):=by
 have hs:Zg U w E hp { w with heap:=w.heap.push (.cells ⟨c⟩ e (0,0)) } (E.upd hp.length (some (w.heap.size,cap))) (hp++ [o]):=by
  refine⟨rfl,rfl,rfl,fun q _ _=>Z0e w _ _ q,by simp,fun b hb _=>WX hb, ?_,fun _ h=>h,fun _ h=> .inl h,Z4s _ _⟩
  rintro b hb ⟨id,o',ho,hf',hm⟩
  rcases W9 ho with⟨hlt,ho'⟩|⟨rfl,_⟩
  ·exact⟨id,o',ho',hf',(Xp (by omega)).1 hm⟩
  ·have:=WW.1 hm;omega
 refine⟨⟨fun id o' ho=> ?_,fun i j oi oj b h1 h2 f1 f2 m1 m2=> ?_,fun b hb=> ?_,hi.gl' hs⟩,hs⟩
 ·rcases W9 ho with⟨hlt,ho'⟩|⟨rfl,rfl⟩
  ·have h:=hi.obj id o' ho'
   have e:(E.upd hp.length (some (w.heap.size,cap))).m id=E.m id:=by simp only[Emb.upd];rw[if_neg (by omega)]
   rw[e]
   exact h.keep (fun b b0 cp hm hb=>WX (by
     rcases hb with rfl|⟨hn,hf0⟩
     ·exact hi.mlt ho' hm
     ·exact(hi.blk ho' hf0 ⟨b0,cp,hm, .inr hn⟩).1)) (fun _ h=>h) (fun _ _ _ _ _ _ h=>h) (by simp) (fun x a h=>hs.rep hi h) (fun x a h=>hs.prep hi h)
  ·simp only[Emb.upd,if_true]
   have hb:(w.heap.push (.cells ⟨c⟩ e (0,0)))[w.heap.size]?=some (.cells ⟨c⟩ e (0,0)):=by simp
   refine⟨c,e,hb,hcap,fun k a hk=> ?_,fun(h:o'.fz=true)=>(by rw[hf]at h;cases h),fun _ h=> ?_,fun _ b' hn=>hn.elim,hnd _ _ _ _ _ _⟩
   ·obtain⟨x,hx,hr⟩:=hrep k a hk;exact⟨x,hx,hs.crep hi hr⟩
   ·exact absurd (hi.sb _ h) (by omega)
 ·rcases W9 h1 with⟨l1,h1'⟩|⟨rfl,rfl⟩ <;> rcases W9 h2 with⟨l2,h2'⟩|⟨rfl,rfl⟩
  ·exact hi.inj i j oi oj b h1' h2' f1 f2 ((Xp (by omega)).1 m1) ((Xp (by omega)).1 m2)
  ·have:=(hi.blk h1' f1 ((Xp (by omega)).1 m1)).1
   have:=WW.1 m2;omega
  ·have:=(hi.blk h2' f2 ((Xp (by omega)).1 m2)).1
   have:=WW.1 m1;omega
  ·rfl
 ·have:=hi.sb b hb;simp;omega

theorem TL:∀(cs:List (AV D)) (E:Emb) (hp:Z3 D) (vs:List Value),Inv U w E hp→ZW U w E hp vs cs→
  ∃E',Inv U w E' (hp++(YB hp.length cs).1)∧Zg U w E hp w E' (hp++(YB hp.length cs).1)∧ZW U w E' (hp++(YB hp.length cs).1) vs (YB hp.length cs).2
 | [],E,hp,vs,hi,hr=>⟨E,by simpa[YB]using hi,by simpa[YB]using Zg.refl U w E hp,by simpa[YB]using hr⟩
 |c::r,E,hp,vs,hi,hr=>by
  obtain⟨hl,hr⟩:=hr
  cases vs with
  |nil=>simp at hl
  |cons x vs=>
   have hx:=hr 0 x c rfl rfl
   have hvs:ZW U w E hp vs r:=⟨by simpa using hl,fun k y d hy hd=>hr (k+1) y d (by simpa using hy) (by simpa using hd)⟩
   have plain:(∀t,c≠ .em t)→∃E',Inv U w E' (hp++(YB hp.length (c::r)).1)∧Zg U w E hp w E' (hp++(YB hp.length (c::r)).1)∧ZW U w E' (hp++(YB hp.length (c::r)).1) (x::vs) (YB hp.length (c::r)).2:=by
    intro hne
    obtain⟨E',h1,h2,h3,h4⟩:=TL r E hp vs hi hvs
    have e:YB hp.length (c::r)=((YB hp.length r).1,c::(YB hp.length r).2):=by
     cases c <;> first|rfl|exact absurd rfl (hne _)
    rw[e]
    refine⟨E',h1,h2,by simp[h3],fun k y d hy hd=> ?_⟩
    cases k with
    |zero=>simp at hy hd;subst hy;subst hd;exact h2.rep hi hx
    |succ k=>exact h4 k y d (by simpa using hy) (by simpa using hd)
   cases c with
   |em t=>
    obtain⟨i1,s1⟩:=Z6x hi t false
    have hvs1:ZW U w (E.upd hp.length none) (hp++ [.arr t [] 0 false]) vs r:=⟨hvs.1,fun k y d hy hd=>s1.rep hi (hvs.2 k y d hy hd)⟩
    obtain⟨E',h1,h2,h3,h4⟩:=TL r _ _ vs i1 hvs1
    have e:YB hp.length (.em t::r)=(.arr t [] 0 false::(YB (hp.length+1) r).1, .os hp.length 0::(YB (hp.length+1) r).2):=rfl
    have e2:hp++ [Zf.arr t [] 0 false]++(YB (hp++ [Zf.arr t [] 0 false]).length r).1=hp++(Zf.arr t [] 0 false::(YB (hp.length+1) r).1):=by simp
    rw[e2]at h1 h2
    rw[e]
    refine⟨E',h1,s1.trans h2,by simpa using h3,fun k y d hy hd=> ?_⟩
    cases k with
    |zero=>
     simp at hy hd;subst hy;subst hd
     have hh:Rep U w (E.upd hp.length none) (hp++ [.arr t [] 0 false]) x (.os hp.length 0):=by
      obtain⟨a0,rfl⟩:=WT hx
      exact .os _ _ _ ⟨⟨a0,0,0,rfl⟩, .arr t [] 0 false,by simp,Nat.le_refl _,fun _=>by simp[Emb.upd,X3]⟩
     exact h2.rep i1 hh
    |succ k=>
     have:=h4 k y d (by simpa using hy) (by simpa using hd)
     rwa [e2]at this
   |_=>exact plain (fun t h=>by cases h)

theorem Wa {v:Value} {c:AV D} (hok:X7 c=true) (h:Rep U w E hp v c):ZW U w E hp v.cells.toList (ZH c):=by
 have one:∀(v:Value) (c:AV D),(∀cs,v≠ .agg cs)→(∀cs,c≠ .agg cs)→Rep U w E hp v c→ZW U w E hp v.cells.toList (ZH c):=by
  intro v c hv hc h
  have e1:v.cells= #[v]:=by cases v <;> first|rfl|exact absurd rfl (hv _)
  have e2:ZH c= [c]:=by cases c <;> first|rfl|exact absurd rfl (hc _)
  rw[e1,e2]
  refine⟨rfl,fun k x d hx hd=> ?_⟩
  cases k with
  |zero=>simp at hx hd;subst hx;subst hd;exact h
  |succ k=>simp at hx
 cases c with
 |agg cs=>
  obtain⟨vs,rfl,h2⟩:=Vv h
  exact h2
 |un=>simp[X7]at hok
 |v x=>
  have:=Yo h;subst this
  exact one _ _ (fun cs e=>by subst e;simp[X7]at hok) (fun cs e=>by cases e) h
 |os id n=>exact one _ _ (fun cs e=>by obtain⟨⟨a,k,c,hv⟩,_⟩:=W1 h;rw[e]at hv;cases hv) (fun cs e=>by cases e) h
 |op id n i off=>exact one _ _ (fun cs e=>by obtain⟨⟨a,hv⟩,_⟩:=Wz h;rw[e]at hv;cases hv) (fun cs e=>by cases e) h
 |db b=>have:=Wy h;subst this;exact one _ _ (fun cs e=>by cases e) (fun cs e=>by cases e) h
 |tup cs=>obtain⟨vs,rfl,_⟩:=Z0c h;exact one _ _ (fun cs e=>by cases e) (fun cs e=>by cases e) h
 |sl t l=>exact one _ _ (fun cs e=>by have:=Vw h;rw[e]at this;cases this) (fun cs e=>by cases e) h
 |em t=>obtain⟨a,rfl⟩:=WT h;exact one _ _ (fun cs e=>by cases e) (fun cs e=>by cases e) h
 |rp row o=>exact one _ _ (fun cs e=>by have:=UA h;rw[e]at this;cases this) (fun cs e=>by cases e) h
 |sn b t l=>obtain⟨a,len,cap,rfl,_,_⟩:=Z0d h;exact one _ _ (fun cs e=>by cases e) (fun cs e=>by cases e) h
 |oss id n a b=>exact one _ _ (fun cs e=>by obtain⟨⟨a,k,c,hv⟩,_⟩:=Vd h;rw[e]at hv;cases hv) (fun cs e=>by cases e) h
 |fn f first cap=>obtain⟨vs,ws,rfl,_,_⟩:=Uz h;exact one _ _ (fun cs e=>by cases e) (fun cs e=>by cases e) h

theorem Z1U (e:Nat) (v:Value):(newVar e v).run P w= .ok ⟨w.heap.size,0,none⟩ { w with heap:=w.heap.push (.cells v.cells e (0,0)) } :=by
 simp[newVar,newRow,newObj,Sem.run]

theorem Z6y {e:Nat} {v:Value} {c:AV D} {π:List (Ans D)} (hi:Inv U w E hp) (hok:X7 c=true) (hc:Rep U w E hp v c)
  (hr:(execOp a.eval o).run P w= .ok (.value (.pointer (some ⟨w.heap.size,0,none⟩))) { w with heap:=w.heap.push (.cells v.cells e (0,0)) }):
  Oks P U o a w E hp (Wk hp e c π).val (Wk hp e c π).hp:=by
 obtain⟨E1,i1,s1,r1⟩:=TL (ZH c) E hp v.cells.toList hi (Wa hok hc)
 have e1:Wk hp e c π=⟨[], .op (hp.length+(YB hp.length (ZH c)).1.length) 1 0 0,hp++(YB hp.length (ZH c)).1++ [.box e (YB hp.length (ZH c)).2 false],π⟩:=rfl
 rw[e1]
 generalize YB hp.length (ZH c)=q at *
 obtain⟨i2,s2⟩:=Z1T i1 (.box e q.2 false) v.cells.toList e 1 (by simp[WU];exact r1.1) rfl (fun k c' hk=>by
  have hk':q.2[k]?=some c':=hk
  have hlt:k<v.cells.toList.length:=by rw[r1.1];exact(List.getElem?_eq_some_iff.1 hk').1
  exact⟨v.cells.toList[k],List.getElem?_eq_getElem hlt,r1.2 k _ c' (List.getElem?_eq_getElem hlt) hk'⟩)
 refine Wm hr i2 (s1.trans s2) (.op _ _ _ _ _ ⟨⟨_,rfl⟩, .box e q.2 false, ?_,Nat.le_refl _,fun _=> ?_⟩)
 ·simp
 ·simp[Emb.upd,XW]

theorem Z4t {t off b base:Nat} {row:List (AV D)} {av:AV D} {vs:Nat→Value} (h:ld P t off row=some av)
  (hc:∀(k:Nat) c,row[k]?=some c→w.cell? ⟨b,base+k,none⟩=some (vs k)) (hr:∀(k:Nat) c,row[k]?=some c→Rep U w E hp (vs k) c):
  ∃v,(loadVar t ⟨b,base+off,none⟩).run P w= .ok v w∧Rep U w E hp v av:=by
 unfold ld at h
 have hadd:∀j,(⟨b,base+off,none⟩:Addr).add j=⟨b,base+(off+j),none⟩:=by
  intro j;unfold Addr.add;split
  ·simp_all
  ·simp;omega
 split at h
 ·rename_i hag
  split at h
  ·rename_i n hn
   split at h
   ·rename_i hle
    injection h with h;subst h
    have hle':off+n≤row.length:=Nat.le_of_ble_eq_true hle
    obtain⟨i,hi,hin⟩:∃i,P.info? t=some i∧i.size=n:=by
     simp only[ZT,Option.map_eq_some_iff]at hn;exact hn
    have hl:=run_loadCells (P:=P) w ⟨b,base+off,none⟩ n (fun j=>vs (off+j)) (fun j hj=>by
     rw[hadd];exact hc (off+j) row[off+j] (List.getElem?_eq_getElem (by omega)))
    have hund:∃d,P.underlying t=some d∧((∃fs,d= .struct fs)∨(∃k e,d= .array k e)):=by
     unfold Z1P at hag;split at hag <;> rename_i hd
     ·exact⟨_,hd, .inl ⟨_,rfl⟩⟩
     ·exact⟨_,hd, .inr ⟨_,_,rfl⟩⟩
     ·cases hag
     ·cases hag
    obtain⟨d,hd,hd'⟩:=hund
    refine⟨.agg ((List.range n).map fun j=>vs (off+j)).toArray, ?_, .agg _ _ (by simp;omega) (fun k x c hx hcc=> ?_)⟩
    ·rcases hd' with⟨fs,rfl⟩|⟨k,e,rfl⟩ <;> simp[loadVar,isAgg,run_underlying hd,sizeOf,typeInfo,program,Sem.run,hi,hin,hl]
    ·rw[List.getElem?_map]at hx
     have hk:k<n:=by
      by_cases hk:k<n
      ·exact hk
      ·rw[List.getElem?_eq_none (by simp;omega)]at hx;simp at hx
     rw[List.getElem?_range hk]at hx
     simp at hx;subst hx
     rw[List.getElem?_take_of_lt hk,List.getElem?_drop]at hcc
     exact hr _ _ hcc
   ·cases h
  ·cases h
 ·rename_i hag
  have hlt:off<row.length:=(List.getElem?_eq_some_iff.1 h).1
  have hcell:=hc off av h
  have hund:∃d,P.underlying t=some d∧(∀fs,d≠ .struct fs)∧(∀k e,d≠ .array k e):=by
   unfold Z1P at hag;split at hag <;> rename_i hd
   ·cases hag
   ·cases hag
   ·rename_i d h1 h2
    exact⟨d,hd,fun fs e=>h1 fs e,fun k e e'=>h2 k e e'⟩
   ·cases hag
  obtain⟨d,hd,n1,n2⟩:=hund
  refine⟨vs off, ?_,hr _ _ h⟩
  have hag':(isAgg t).run P w= .ok false w:=by
   simp only[isAgg,Sem.run_bind,run_underlying hd,Result.andThen_ok]
   cases d <;> first|rfl|exact absurd rfl (n1 _)|exact absurd rfl (n2 _ _)
  simp[loadVar,hag',load,Sem.run,hcell]
 ·cases h

theorem Z1V {o':Zf D} {b:Nat} {cap:Cap} (h:Vx U w E hp o' (some (b,cap))):
  ∃vs:Nat→Value,(∀(k:Nat) c,(o'.flat U)[k]?=some c→w.cell? ⟨b,0+k,none⟩=some (vs k))∧(∀(k:Nat) c,(o'.flat U)[k]?=some c→WA U w E hp o' (vs k) c):=by
 obtain⟨c,e,hb,hcap,hr,_,_⟩:=h
 refine⟨fun k=>c.getD k undef,fun k d hk=> ?_,fun k d hk=> ?_⟩
 ·obtain⟨x,hx,_⟩:=hr k d hk
  simp[World.cell?,hb,List.getD,hx]
 ·obtain⟨x,hx,h⟩:=hr k d hk
  simpa[List.getD,hx]using h

theorem Zcq {t:Nat} {l:List (D t)} {pm:List Bool} {i0:Nat} {row:List (AV D)} {ln b:Nat} {cap:Cap} (h:Vx U w E hp (.dp t l pm (some (i0,row)) ln) (some (b,cap))):
  ∃vs:Nat→Value,(∀(k:Nat) c,row[k]?=some c→w.cell? ⟨b,i0 * U.width t+k,none⟩=some (vs k))∧(∀(k:Nat) c,row[k]?=some c→Rep U w E hp (vs k) c):=by
 obtain⟨c,e,hb,_,_,_,_,_,_,hd,_⟩:=h
 obtain⟨_,_,hr⟩:=hd i0 row rfl
 refine⟨fun k=>c.getD (i0 * U.width t+k) undef,fun k d hk=> ?_,fun k d hk=> ?_⟩
 ·obtain⟨x,hx,_⟩:=hr k d hk
  simp[World.cell?,hb,List.getD,hx]
 ·obtain⟨x,hx,h⟩:=hr k d hk
  simpa[List.getD,hx]using h

theorem Z1W {t:Nat} {l:List (D t)} {i:Nat} {x:D t} (h:l[i]?=some x) {j:Nat} {c:AV D} (hj:(U.cells t x)[j]?=some c):
  (Z5 U t l)[i * U.width t+j]?=some c:=by
 induction l generalizing i with
 |nil=>simp at h
 |cons y r ih=>
  have hlt:j<U.width t:=by rw[←U.len t x];exact(List.getElem?_eq_some_iff.1 hj).1
  cases i with
  |zero=>
   simp at h;subst h
   simp only[Z5,List.flatMap_cons,Nat.zero_mul,Nat.zero_add]
   rw[List.getElem?_append_left (by rw[U.len];exact hlt)];exact hj
  |succ i=>
   simp only[Z5,List.flatMap_cons]
   rw[List.getElem?_append_right (by rw[U.len,Nat.succ_mul];omega),U.len]
   have:=ih (i:=i) (by simpa using h)
   rw[show(i+1) * U.width t+j-U.width t=i * U.width t+j from by rw[Nat.succ_mul];omega]
   exact this

theorem VB {t:Nat} (x y:List (D t)):Z5 U t (x++y)=Z5 U t x++Z5 U t y:=by simp[Z5]

theorem Yp (t:Nat) (l:List (D t)):(Z5 U t l).length=l.length * U.width t:=by
 induction l with
 |nil=>simp[Z5]
 |cons y r ih=>simp only[Z5,List.flatMap_cons,List.length_append,List.length_cons,U.len,Nat.succ_mul]at *;omega

theorem TM {t a b k:Nat} {l:List (D t)} {c:AV D} (h:(Z5 U t ((l.take b).drop a))[k]?=some c):(Z5 U t l)[a * U.width t+k]?=some c:=by
 have h1:Z5 U t l=Z5 U t (l.take b)++Z5 U t (l.drop b):=by rw[←VB,List.take_append_drop]
 have h2:Z5 U t (l.take b)=Z5 U t ((l.take b).take a)++Z5 U t ((l.take b).drop a):=by rw[←VB,List.take_append_drop]
 have hk:=(List.getElem?_eq_some_iff.1 h).1
 by_cases ha:a≤(l.take b).length
 ·have hl:(Z5 U t ((l.take b).take a)).length=a * U.width t:=by rw[Yp,List.length_take,Nat.min_eq_left ha]
  rw[h1,List.getElem?_append_left (by rw[h2,List.length_append,hl];omega),h2,List.getElem?_append_right (by omega),hl]
  rw[show a * U.width t+k-a * U.width t=k from by omega];exact h
 ·rw[List.drop_of_length_le (by omega)]at hk
  simp[Z5]at hk

theorem Z8M {t:Nat} {π:List (Ans D)} {p:AV D} {v:Value} {r:Res D} (hi:Inv U w E hp) (h:Z0f P U hp t π p=some r) (hobl:ZD r.obl) (hp':Rep U w E hp v p):
  r.hp=hp∧∃x,(Instr.loadAt t v).run P w= .ok x w∧Rep U w E hp x r.val:=by
 unfold Z0f at h
 split at h
 ·rename_i row off
  split at h
  ·rename_i av hav
   injection h with h;subst h
   cases UA hp' with
   |rp _ _ b base vs hS hc hr=>
    obtain⟨x,hx,hrep⟩:=Z4t hav hc (fun k c hk=>Rep.pure (hp:=hp) _ _ (hr k c hk))
    exact⟨rfl,x,by simp[Instr.loadAt,Instr.sureAddr,hx],hrep⟩
  ·cases h
 ·rename_i id n i off
  split at h
  ·rename_i e row f ho
   split at h
   ·rename_i hn
    split at h
    ·rename_i hi0
     split at h
     ·rename_i av hav
      injection h with h;subst h
      have hn':n=1:=Nat.eq_of_beq_eq_true hn
      have hi0':i=0:=Nat.eq_of_beq_eq_true hi0
      subst hn';subst hi0'
      have hop:=Wz hp'
      ·obtain⟨_,o',ho',hle,hh⟩:=hop
       rw[ho]at ho';injection ho' with ho';subst ho'
       have hh:=hh rfl
       cases hm:E.m id with
       |none=>rw[hm]at hh;exact hh.elim
       |some q=>
        obtain⟨b,cap⟩:=q
        rw[hm]at hh
        simp only[XW]at hh
        have hob:=hi.obj id _ ho
        rw[hm]at hob
        obtain⟨vs,hc,hr⟩:=Z1V hob
        obtain⟨x,hx,hrep⟩:=Z4t hav hc (fun k c hk=>(hr k c hk).rep)
        refine⟨rfl,x, ?_,hrep⟩
        subst hh
        simp only[Nat.zero_mul,Nat.zero_add]at hx⊢
        simp[Instr.loadAt,Instr.sureAddr,hx]
     ·cases h
    ·cases h
   ·cases h
  ·rename_i e l ln f ho
   split at h
   ·rename_i rw' π'
    split at h
    ·rename_i av hav
     injection h with h;subst h
     obtain⟨⟨hnl,y,hy,hcells⟩,_⟩:=hobl
     have hop:=Wz hp'
     ·obtain⟨_,o',ho',hle,hh⟩:=hop
      rw[ho]at ho';injection ho' with ho';subst ho'
      have hh:=hh hnl
      cases hm:E.m id with
      |none=>rw[hm]at hh;exact hh.elim
      |some q=>
       obtain⟨b,cap⟩:=q
       rw[hm]at hh
       simp only[XW,Zf.wid]at hh
       have hob:=hi.obj id _ ho
       rw[hm]at hob
       obtain⟨vs,hc,hr⟩:=Z1V hob
       have hfl:∀(k:Nat) c,rw'[k]?=some c→(Z5 U e l)[i * U.width e+k]?=some c:=fun k c hk=>Z1W hy (by rw[hcells];exact hk)
       obtain⟨x,hx,hrep⟩:=Z4t (b:=b) (base:=i * U.width e) (vs:=fun k=>vs (i * U.width e+k)) hav
        (fun k c hk=>by have:=hc _ c (hfl k c hk);simpa using this) (fun k c hk=>(hr _ c (hfl k c hk)).rep)
       refine⟨rfl,x, ?_,hrep⟩
       subst hh
       simp[Instr.loadAt,Instr.sureAddr,hx]
    ·cases h
   ·cases h
  ·rename_i e l pm i0 row ln ho
   split at h
   ·rename_i av hav
    injection h with h;subst h
    obtain⟨⟨hnl,rfl⟩,_⟩:=hobl
    obtain⟨_,o',ho',hle,hh⟩:=Wz hp'
    rw[ho]at ho';injection ho' with ho';subst ho'
    have hh:=hh hnl
    cases hm:E.m id with
    |none=>rw[hm]at hh;exact hh.elim
    |some q=>
     obtain⟨b,cap⟩:=q
     rw[hm]at hh
     simp only[XW,Zf.wid]at hh
     have hob:=hi.obj id _ ho
     rw[hm]at hob
     obtain⟨vs,hc,hr⟩:=Zcq hob
     obtain⟨x,hx,hrep⟩:=Z4t (b:=b) (base:=i * U.width e) (vs:=vs) hav hc hr
     refine⟨rfl,x, ?_,hrep⟩
     subst hh
     simp[Instr.loadAt,Instr.sureAddr,hx]
   ·cases h
  ·cases h
 ·cases h
end
end Go.Eng
