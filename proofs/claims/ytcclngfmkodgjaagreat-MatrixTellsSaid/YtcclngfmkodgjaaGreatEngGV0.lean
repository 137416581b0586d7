/- Part of the proof of MatrixTells: plain laws of the printed mirrors. No conditions. -/
import Derived.Test.YtcclngfmkodgjaaGreatEngGP1
set_option linter.unusedVariables false
set_option linter.unusedSectionVars false
set_option linter.unusedSimpArgs false
namespace Go.Eng
open Go Classical

/-! ### Bits -/
def tb (x:Int) (t:Nat):Bool:=x.toNat.testBit t
theorem Zhd {a b:Int} (a0:0≤a) (a1:a<1024) (b0:0≤b) (b1:b<1024):Y2 .i64 a b=((a.toNat|||b.toNat:Nat):Int):=by
 have e:(BitVec.ofInt 64 a|||BitVec.ofInt 64 b).toNat=a.toNat|||b.toNat:=by
  rw[VU _ _ a0,VU _ _ b0,BitVec.toNat_or,BitVec.toNat_ofNat,BitVec.toNat_ofNat,Nat.mod_eq_of_lt (by omega),Nat.mod_eq_of_lt (by omega)]
 have hl:a.toNat|||b.toNat<2 ^ 10:=Nat.or_lt_two_pow (by omega) (by omega)
 show Z4 (((BitVec.ofInt 64 a|||BitVec.ofInt 64 b).toNat:Nat):Int)=_
 rw[e,Zc (by omega) (by omega)]
theorem Z5U {a b:Int} (a0:0≤a) (a1:a<1024) (b0:0≤b) (b1:b<1024):a≤Y2 .i64 a b∧0≤Y2 .i64 a b∧Y2 .i64 a b<1024∧∀t,tb (Y2 .i64 a b) t=(tb a t||tb b t):=by
 rw[Zhd a0 a1 b0 b1]
 have hl:a.toNat|||b.toNat<2 ^ 10:=Nat.or_lt_two_pow (by omega) (by omega)
 have hg:a.toNat≤a.toNat|||b.toNat:=Nat.left_le_or
 refine⟨by omega,by omega,by omega,fun t=> ?_⟩
 unfold tb
 rw[Int.toNat_natCast,Nat.testBit_or]
theorem Z5V {a b:Int} (a0:0≤a) (b0:0≤b) (h:∀t,tb a t=tb b t):a=b:=by
 have:a.toNat=b.toNat:=Nat.eq_of_testBit_eq h
 omega
theorem ZbD {k t:Nat} :tb ((2 ^ k:Nat):Int) t=decide (k=t):=by
 unfold tb
 rw[Int.toNat_natCast,Nat.testBit_two_pow]
theorem VX {t:Nat} :tb 0 t=false:=by simp[tb]
theorem Z5W {k:Nat} (h:k<10):((2 ^ k:Nat):Int) <1024:=by
 have:2 ^ k<2 ^ 10:=Nat.pow_lt_pow_right (by decide) h
 omega

/-! ### What spreads -/
inductive Der (E R:Int→List Int) (S:Int→Nat→Prop):Bool→Int→Nat→Prop
 |seed {d:Int} {t:Nat} (h:S d t):Der E R S false d t
 |hop {k:Bool} {d x:Int} {t:Nat} (h:Der E R S k d t) (hx:x∈E d):Der E R S k x t
 |route {d x:Int} {t:Nat} (h:Der E R S false d t) (hx:x∈R d):Der E R S true x t

def Xo (x y:Z9):Prop:=(∀t,tb x.plain t=true→tb y.plain t=true)∧∀t,tb x.led t=true→tb y.led t=true
theorem Xo.refl {x:Z9} :Xo x x:=⟨fun _ h=>h,fun _ h=>h⟩
theorem Xo.trans {x y z:Z9} (h:Xo x y) (g:Xo y z):Xo x z:=⟨fun t a=>g.1 t (h.1 t a),fun t a=>g.2 t (h.2 t a)⟩
section
variable (E R:Int→List Int) (S:Int→Nat→Prop) (N:Nat)
structure Z03 (d:Int) (x:Z9):Prop where
 p0:0≤x.plain
 p1:x.plain<1024
 l0:0≤x.led
 l1:x.led<1024
 sp:∀t,tb x.plain t=true→Der E R S false d t
 sl:∀t,tb x.led t=true→Der E R S true d t
def WQ (all:List Z9):Prop:=all.length=N∧∀d,inL all d→Z03 E R S d (Z0 all d)
variable {E R S N}
def TA (x:Z9):Int:=x.plain+x.led
def pot (all:List Z9):Int:=(all.map TA).sum
theorem Z8a:∀(l:List Int) (k:Nat) (x y:Int),l[k]?=some y→(l.set k x).sum=l.sum-y+x
 | [],k,x,y,h=>by simp at h
 |a::l,0,x,y,h=>by simp at h;subst h;simp;omega
 |a::l,k+1,x,y,h=>by
  simp at h
  have:=Z8a l k x y (by simpa using h)
  simp[this];omega
theorem Zhe {all:List Z9} {d:Int} {x:Z9} (hd:inL all d):pot (all.set d.toNat x)=pot all-TA (Z0 all d)+TA x:=by
 unfold pot
 rw[List.map_set]
 exact Z8a _ _ _ _ (by rw[List.getElem?_map,Y8 hd];rfl)
theorem Z8b {M:Int} :∀(l:List Int),(∀x∈l,x≤M)→l.sum≤M * l.length
 | [],_=>by simp
 |a::l,h=>by
  have:=Z8b l (fun x hx=>h x (by simp[hx]))
  have:=h a (by simp)
  simp[Int.mul_add];omega
theorem Z5X {all:List Z9} (h:WQ E R S N all):pot all≤2046 * N:=by
 have:=Z8b (M:=2046) (all.map TA) (fun x hx=>by
  obtain⟨y,hy,rfl⟩:=List.mem_map.1 hx
  obtain⟨d,hd,rfl⟩:=W0 hy
  have:=h.2 d hd
  have:=this.p1;have:=(h.2 d hd).l1
  unfold TA;omega)
 rw[List.length_map,h.1]at this
 exact this
structure W4 (E R:Int→List Int) (S:Int→Nat→Prop) (N:Nat) (a:List Z9) (q:List Zw) (b:List Z9) (r:List Zw):Prop where
 ok:WQ E R S N b
 mono:∀d,inL a d→Xo (Z0 a d) (Z0 b d)
 ext:∃e,r=q++e∧(∀x∈e,x.done=false∧0≤x.task.domain∧x.task.domain<N)∧∀d,inL a d→Z0 b d=Z0 a d∨∃x∈e,x.task.domain=d
 pot:(r.length:Int) -q.length≤pot b-pot a
theorem W4.refl {a:List Z9} {q:List Zw} (h:WQ E R S N a):W4 E R S N a q a q:=
 ⟨h,fun _ _=>Xo.refl,⟨[],by simp,by simp,fun _ _=> .inl rfl⟩,by omega⟩
theorem W4.trans {a b c:List Z9} {q r s:List Zw} (ha:WQ E R S N a) (h:W4 E R S N a q b r) (g:W4 E R S N b r c s):W4 E R S N a q c s:=by
 obtain⟨e,rfl,e1,e2⟩:=h.ext
 obtain⟨f,rfl,f1,f2⟩:=g.ext
 have hin:∀d,inL a d→inL b d:=fun d hd=>⟨hd.1,by have:=hd.2;have:=ha.1;have:=h.ok.1;omega⟩
 refine⟨g.ok,fun d hd=>(h.mono d hd).trans (g.mono d (hin d hd)),⟨e++f,by simp,fun x hx=> ?_,fun d hd=> ?_⟩,by have:=h.pot;have:=g.pot;omega⟩
 ·rcases List.mem_append.1 hx with hx|hx
  ·exact e1 x hx
  ·exact f1 x hx
 ·rcases f2 d (hin d hd)with h1|⟨x,hx,h1⟩
  ·rcases e2 d hd with h2|⟨x,hx,h2⟩
   ·exact .inl (h1.trans h2)
   ·exact .inr ⟨x,by simp[hx],h2⟩
  ·exact .inr ⟨x,by simp[hx],h1⟩
def orL (x y:Z9):Z9:=⟨Y2 .i64 x.plain y.plain,Y2 .i64 x.led y.led⟩
theorem Zhf {d:Int} {x y:Z9} (hx:Z03 E R S d x) (hy:Z03 E R S d y):Z03 E R S d (orL x y)∧Xo x (orL x y)∧Xo y (orL x y)∧(orL x y≠x→TA x+1≤TA (orL x y)):=by
 obtain⟨a1,a2,a3,a4⟩:=Z5U hx.p0 hx.p1 hy.p0 hy.p1
 obtain⟨b1,b2,b3,b4⟩:=Z5U hx.l0 hx.l1 hy.l0 hy.l1
 refine⟨⟨a2,a3,b2,b3,fun t h=> ?_,fun t h=> ?_⟩,⟨fun t h=> ?_,fun t h=> ?_⟩,⟨fun t h=> ?_,fun t h=> ?_⟩,fun h=> ?_⟩
 ·have h:tb (Y2 .i64 x.plain y.plain) t=true:=h
  rw[a4 t,Bool.or_eq_true]at h
  exact h.elim (hx.sp t) (hy.sp t)
 ·have h:tb (Y2 .i64 x.led y.led) t=true:=h
  rw[b4 t,Bool.or_eq_true]at h
  exact h.elim (hx.sl t) (hy.sl t)
 ·show tb (Y2 .i64 x.plain y.plain) t=true
  rw[a4 t,h];rfl
 ·show tb (Y2 .i64 x.led y.led) t=true
  rw[b4 t,h];rfl
 ·show tb (Y2 .i64 x.plain y.plain) t=true
  rw[a4 t,h];simp
 ·show tb (Y2 .i64 x.led y.led) t=true
  rw[b4 t,h];simp
 ·show x.plain+x.led+1≤Y2 .i64 x.plain y.plain+Y2 .i64 x.led y.led
  by_cases e1:Y2 .i64 x.plain y.plain=x.plain
  ·by_cases e2:Y2 .i64 x.led y.led=x.led
   ·exact absurd (show orL x y=x by unfold orL;rw[e1,e2]) h
   ·omega
  ·omega
noncomputable def Wt (all:List Z9) (q:List Zw) (d:Int) (y:Z9):List Z9×List Zw:=
 if orL (Z0 all d) y≠Z0 all d then(all.set d.toNat (orL (Z0 all d) y),q++ [⟨⟨d⟩,false⟩])else(all,q)
theorem ZbE {all:List Z9} {q:List Zw} {d:Int} {y:Z9} (h:WQ E R S N all) (hd:inL all d) (hy:Z03 E R S d y):
  W4 E R S N all q (Wt all q d y).1 (Wt all q d y).2∧Xo y (Z0 (Wt all q d y).1 d):=by
 obtain⟨o1,o2,o3,o4⟩:=Zhf (h.2 d hd) hy
 unfold Wt
 by_cases c:orL (Z0 all d) y≠Z0 all d
 ·rw[if_pos c]
  have hgs:∀x,inL all x→Z0 (all.set d.toNat (orL (Z0 all d) y)) x=if x=d then orL (Z0 all d) y else Z0 all x:=fun x hx=>WG hd hx
  refine⟨⟨⟨by rw[List.length_set];exact h.1,fun x hx=> ?_⟩,fun x hx=> ?_,⟨[⟨⟨d⟩,false⟩],rfl,fun x hx=> ?_,fun x hx=> ?_⟩, ?_⟩, ?_⟩
  ·have hx:=Ut.1 hx
   rw[hgs x hx]
   by_cases e:x=d
   ·rw[if_pos e,e];exact o1
   ·rw[if_neg e];exact h.2 x hx
  ·rw[hgs x hx]
   by_cases e:x=d
   ·rw[if_pos e,e];exact o2
   ·rw[if_neg e];exact Xo.refl
  ·simp only[List.mem_singleton]at hx
   subst hx
   have:=hd.1;have:=hd.2;have:=h.1
   exact⟨rfl,by simp only;omega,by simp only;omega⟩
  ·rw[hgs x hx]
   by_cases e:x=d
   ·exact .inr ⟨_,List.mem_singleton.2 rfl,e.symm⟩
   ·rw[if_neg e];exact .inl rfl
  ·simp only
   rw[Zhe hd]
   have:=o4 c
   simp;omega
  ·rw[hgs d hd,if_pos rfl];exact o3
 ·rw[if_neg c]
  have c:orL (Z0 all d) y=Z0 all d:=Classical.byContradiction c
  refine⟨W4.refl h, ?_⟩
  rw[c]at o3;exact o3
def Z42 (E R:Int→List Int) (all:List Z9) (d:Int):Prop:=(∀h∈E d,Xo (Z0 all d) (Z0 all h))∧∀r∈R d,∀t,tb (Z0 all d).plain t=true→tb (Z0 all r).led t=true
theorem Zhg {all:List Z9} (hE:∀d,0≤d→d<(N:Int)→∀h∈E d,0≤h∧h<(N:Int)) (hR:∀d,0≤d→d<(N:Int)→∀h∈R d,0≤h∧h<(N:Int)) (hS:∀d t,S d t→0≤d∧d<(N:Int))
  (hc:∀d,0≤d→d<(N:Int)→Z42 E R all d) (hs:∀d t,S d t→tb (Z0 all d).plain t=true):
  ∀k d t,Der E R S k d t→(0≤d∧d<(N:Int))∧(if k then tb (Z0 all d).led t=true else tb (Z0 all d).plain t=true):=by
 intro k d t h
 induction h with
 |seed h=>exact⟨hS _ _ h,hs _ _ h⟩
 | @hop k d x t h hx ih=>
  obtain⟨i1,i2⟩:=ih
  have hcd:=(hc d i1.1 i1.2).1 x hx
  refine⟨hE d i1.1 i1.2 x hx, ?_⟩
  cases k
  ·exact hcd.1 t i2
  ·exact hcd.2 t i2
 | @route d x t h hx ih=>
  obtain⟨i1,i2⟩:=ih
  exact⟨hR d i1.1 i1.2 x hx,(hc d i1.1 i1.2).2 x hx t i2⟩
end
end Go.Eng

set_option linter.unusedVariables false
set_option linter.unusedSectionVars false
set_option linter.unusedSimpArgs false
namespace Go.Eng
open Go Classical

section
variable {α:Type} [Inhabited α] (dom:α→Int) (H:Int→List α) (N:Nat) (root:α)
def VY (w:List α):Int:=dom (w.getLast?.getD default)
structure ZbF (ws:List (List α)) (i:Int):Prop where
 pos:0<ws.length
 i0:0≤i
 il:i≤ws.length
 root:Z0 ws 0= [root]
 nd:∀j k,inL ws j→inL ws k→VY dom (Z0 ws j)=VY dom (Z0 ws k)→j=k
 rng:∀j,inL ws j→0≤VY dom (Z0 ws j)∧VY dom (Z0 ws j) <N
 par:∀j,inL ws j→0<j→∃k h,0≤k∧k<j∧h∈H (VY dom (Z0 ws k))∧Z0 ws j=Z0 ws k++ [h]
 closed:∀k,inL ws k→k<i→∀h∈H (VY dom (Z0 ws k)),∃m,inL ws m∧VY dom (Z0 ws m)=dom h∧(Z0 ws m).length≤(Z0 ws k).length+1
 mono:∀j k,inL ws j→inL ws k→j≤k→(Z0 ws j).length≤(Z0 ws k).length
 top:∀j k,inL ws j→inL ws k→i≤k→(Z0 ws j).length≤(Z0 ws k).length+1
variable {dom H N root}
theorem Zhh {ws:List (List α)} {d:Int} :d∈ws.map (VY dom)↔∃j,inL ws j∧VY dom (Z0 ws j)=d:=by
 rw[List.mem_map]
 constructor
 ·rintro ⟨w,hw,e⟩
  obtain⟨j,hj,ej⟩:=W0 hw
  exact⟨j,hj,by rw[ej];exact e⟩
 ·rintro ⟨j,hj,e⟩
  exact⟨_,ZR hj,e⟩
def HIn (dom:α→Int) (H:Int→List α) (N:Nat):Prop:=∀d,0≤d→d<(N:Int)→∀h∈H d,0≤dom h∧dom h<(N:Int)
section
variable (hH:HIn dom H N) (hr:0≤dom root∧dom root<(N:Int))
include hH hr
end
theorem Z8c:∀(N:Nat) (l:List Int),l.Nodup→(∀x∈l,0≤x∧x<(N:Int))→l.length≤N
 |0,l,_,h=>by
  cases l with
  |nil=>simp
  |cons a l=>have:=h a (by simp);omega
 |N+1,l,hn,h=>by
  by_cases hm:(N:Int)∈l
  ·have h1:=Z8c N (l.erase (N:Int)) (hn.erase _) (fun x hx=>by
    rw[hn.mem_erase_iff]at hx
    have:=h x hx.2
    have:=hx.1
    omega)
   rw[List.length_erase_of_mem hm]at h1
   omega
  ·have h1:=Z8c N l hn (fun x hx=>by
    have:=h x hx
    have:x≠(N:Int):=fun e=>hm (e ▸hx)
    omega)
   omega
theorem ZbF.len {ws:List (List α)} {i:Int} (g:ZbF dom H N root ws i):ws.length≤N:=by
 have hn:(ws.map (VY dom)).Nodup:=by
  rw[List.nodup_iff_pairwise_ne,List.pairwise_iff_getElem]
  intro a b ha hb hab e
  rw[List.length_map]at ha hb
  rw[List.getElem_map,List.getElem_map]at e
  have ea:Z0 ws (a:Int)=ws[a]:=Xn (List.getElem?_eq_getElem ha)
  have eb:Z0 ws (b:Int)=ws[b]:=Xn (List.getElem?_eq_getElem hb)
  have:=g.nd a b ⟨by omega,by omega⟩ ⟨by omega,by omega⟩ (by rw[ea,eb];exact e)
  omega
 have:=Z8c N _ hn (fun x hx=>by
  obtain⟨j,hj,rfl⟩:=Zhh.1 hx
  exact g.rng j hj)
 simpa using this
structure V9 (dom:α→Int) (H:Int→List α) (N:Nat) (a:Int) (D:Int→Int):Prop where
 zero:D a=0
 only:∀d,D d=0→d=a
 ge:∀d, -1≤D d
 lt:∀d,D d<N
 rng:∀d,0≤D d→0≤d∧d<N
 edge:∀i,0≤D i→∀h∈H i,0≤D (dom h)∧D (dom h)≤D i+1
 pre:∀d,0<D d→∃i h,D i=D d-1∧h∈H i∧dom h=d
theorem V9.back {a b:Int} {D E:Int→Int} (hD:V9 dom H N a D) (hE:V9 dom H N b E) (hs:∀i h,0≤i→i<(N:Int)→h∈H i→∃h'∈H (dom h),dom h'=i):
  ∀(n:Nat) (d:Int),D d=n→0≤E d→0≤E a∧E a≤E d+n
 |0,d,h,h2=>by
  have:=hD.only d h
  subst this;exact⟨h2,by omega⟩
 |n+1,d,h,h2=>by
  obtain⟨i,x,e1,e2,e3⟩:=hD.pre d (by omega)
  have hi:=hD.rng i (by omega)
  obtain⟨y,y1,y2⟩:=hs i x hi.1 hi.2 e2
  rw[e3]at y1
  have h3:=hE.edge d h2 y y1
  rw[y2]at h3
  have:=V9.back hD hE hs n i (by omega) h3.1
  exact⟨this.1,by omega⟩
theorem V9.both {a b:Int} {D E:Int→Int} (hD:V9 dom H N a D) (hE:V9 dom H N b E) (hs:∀i h,0≤i→i<(N:Int)→h∈H i→∃h'∈H (dom h),dom h'=i):D b=E a:=by
 have k1:0≤D b→0≤E a∧E a≤D b:=fun h=>by
  have:=V9.back hD hE hs (D b).toNat b (by omega) (by rw[hE.zero];omega)
  rw[hE.zero]at this;omega
 have k2:0≤E a→0≤D b∧D b≤E a:=fun h=>by
  have:=V9.back hE hD hs (E a).toNat a (by omega) (by rw[hD.zero];omega)
  rw[hD.zero]at this;omega
 have:=hD.ge b
 have:=hE.ge a
 by_cases h:0≤D b
 ·have:=k1 h;have:=k2 this.1;omega
 ·by_cases h':0≤E a
  ·have:=k2 h';omega
  ·omega
theorem V9.conn {E:Int→Int→Prop} {a:Int} {D:Int→Int} (hD:V9 dom H N a D) (hE:∀i j,(∃h∈H i,dom h=j)→0≤i→i<(N:Int)→E i j):∀(n:Nat) (d:Int),D d=n→YS E a d
 |0,d,h=>by have:=hD.only d h;subst this;exact .refl _
 |n+1,d,h=>by
  obtain⟨i,x,e1,e2,e3⟩:=hD.pre d (by omega)
  have hi:=hD.rng i (by omega)
  exact .trans (V9.conn hD hE n i (by omega)) (.edge (hE i d ⟨x,e2,e3⟩ hi.1 hi.2))
end
end Go.Eng

set_option linter.unusedVariables false
set_option linter.unusedSectionVars false
set_option linter.unusedSimpArgs false
namespace Go.Eng
open Go Classical
attribute [local congr] Yl
variable {n:Z2}

noncomputable def Yn (n:Z2) (p:Int):Int:=
 if ZM n∧inL n.ports p∧0≤(Z0 n.ports p).link then
  (if(Z0 n.links (Z0 n.ports p).link).a=p then(Z0 n.links (Z0 n.ports p).link).b else(Z0 n.links (Z0 n.ports p).link).a)
 else -1

theorem ZM.link (h:ZM n) {p:Int} (hp:inL n.ports p) (hl:0≤(Z0 n.ports p).link):
  inL n.links (Z0 n.ports p).link∧((Z0 n.links (Z0 n.ports p).link).a=p∨(Z0 n.links (Z0 n.ports p).link).b=p):=by
 have:=(h.ports p hp).2.2.2.2.2.2.2.2
 rcases this with h1|h1
 ·omega
 ·exact h1

theorem Zhi (hs:SmN n) {p:Int} :Z2I n p=some (Yn n p):=by
 unfold Z2I Yn
 by_cases hr:ZM n
 case neg=>
  by_cases h1:p<0
  ·simp[h1,hr]
  by_cases h2:(n.ports.length:Int)≤p
  ·simp[h1,h2,hr]
  have hp:inL n.ports p:=⟨by omega,by omega⟩
  simp only[Wc hs,hr,Zb hp,Zh,Option.bind_some,Zi,Zj,Zk,Zl,Zm,Zn,Zo,Zp,Ze,Zd,decide_eq_true_eq,Zq,ge_iff_le,gt_iff_lt,Zr,Bool.false_eq_true,decide_false]
  simp
 by_cases hp:inL n.ports p
 case neg=>
  have:p<0∨(n.ports.length:Int)≤p:=by unfold inL at hp;omega
  simp only[hp,Zh,Option.bind_some,Zi,Zj,Zk,Zl,Zm,Zn,Zo,Zp,Ze,Zd,decide_eq_true_eq,Zq,ge_iff_le,gt_iff_lt,Zr,Bool.false_eq_true,decide_false]
  rcases this with h|h <;> simp[h]
 have h1:¬p<0:=by have:=hp.1;omega
 have h2:¬(n.ports.length:Int)≤p:=by have:=hp.2;omega
 by_cases hl:0≤(Z0 n.ports p).link
 ·have hk:=hr.link hp hl
  have h3:¬(Z0 n.ports p).link<0:=by omega
  simp only[Wc hs,hr,Zb hp,Zb hk.1,hp,hl,h1,h2,h3,Zh,Option.bind_some,Zi,Zj,Zk,Zl,Zm,Zn,Zo,Zp,Ze,Zd,decide_eq_true_eq,Zq,ge_iff_le,gt_iff_lt,Zr,Bool.false_eq_true,decide_false,if_false,if_true,and_self]
  split <;> rfl
 ·have h3:(Z0 n.ports p).link<0:=by omega
  simp only[Zb hp,hl,h1,h2,h3,Zh,Option.bind_some,Zi,Zj,Zk,Zl,Zm,Zn,Zo,Zp,Ze,Zd,decide_eq_true_eq,Zq,ge_iff_le,gt_iff_lt,Zr,Bool.false_eq_true,decide_false,if_false,if_true,and_false]

theorem Zhj {p:Int} (h:0≤Yn n p):ZM n∧inL n.ports p∧0≤(Z0 n.ports p).link:=by
 unfold Yn at h
 split at h
 ·assumption
 ·omega

structure Z8d (n:Z2) (p q:Int):Prop where
 ip:inL n.ports p
 iq:inL n.ports q
 ik:inL n.links (Z0 n.ports p).link
 link:(Z0 n.ports q).link=(Z0 n.ports p).link
 dev:(Z0 n.ports q).dev≠(Z0 n.ports p).dev
 ends:(p=(Z0 n.links (Z0 n.ports p).link).a∧q=(Z0 n.links (Z0 n.ports p).link).b)∨(p=(Z0 n.links (Z0 n.ports p).link).b∧q=(Z0 n.links (Z0 n.ports p).link).a)

theorem Z43 {p:Int} (h:0≤Yn n p):Z8d n p (Yn n p):=by
 have hh:=Zhj h
 obtain⟨hr,hp,hl⟩:=hh
 obtain⟨hk,he⟩:=hr.link hp hl
 have hL:=hr.links _ hk
 obtain⟨ha,hb,hd,la,lb⟩:=hL
 have heq:Yn n p=if(Z0 n.links (Z0 n.ports p).link).a=p then(Z0 n.links (Z0 n.ports p).link).b else(Z0 n.links (Z0 n.ports p).link).a:=by
  unfold Yn;rw[if_pos ⟨hr,hp,hl⟩]
 have hne:(Z0 n.links (Z0 n.ports p).link).a≠(Z0 n.links (Z0 n.ports p).link).b:=fun e=>hd (by rw[e])
 by_cases h1:(Z0 n.links (Z0 n.ports p).link).a=p
 ·rw[if_pos h1]at heq
  rw[heq]
  exact⟨hp,hb,hk,by rw[lb],by rw[h1]at hd;exact fun e=>hd e.symm, .inl ⟨h1.symm,rfl⟩⟩
 ·rw[if_neg h1]at heq
  have h2:(Z0 n.links (Z0 n.ports p).link).b=p:=he.resolve_left h1
  rw[heq]
  exact⟨hp,ha,hk,by rw[la],by rw[h2]at hd;exact hd, .inr ⟨h2.symm,rfl⟩⟩

theorem Z8d.back (hr:ZM n) {p q:Int} (h:Z8d n p q):Yn n q=p:=by
 unfold Yn
 have h0:=h.ik.1
 rw[if_pos ⟨hr,h.iq,by rw[h.link];exact h0⟩,h.link]
 have hd:=h.dev
 rcases h.ends with⟨e1,e2⟩|⟨e1,e2⟩
 ·rw[if_neg, ←e1]
  intro e
  rw[←e1]at e
  exact hd (by rw[e])
 ·rw[if_pos e2.symm, ←e1]

noncomputable def toI (n:Z2) (p q v:Int):Int:=if v=(Z0 n.ports p).native then(Z0 n.ports q).native else if v∈(Z0 n.ports q).tagged then v else 0
noncomputable def Vs (n:Z2) (p v:Int):Int×Int×Bool:=
 if 0≤Yn n p∧Ws (Z0 n.ports p) v∧toI n p (Yn n p) v≠0 then(Yn n p,toI n p (Yn n p) v,true)else(0,0,false)

theorem Zhk (hs:SmN n) {p v:Int} :Z2J n p v=some (Vs n p v):=by
 unfold Z2J Vs
 simp only[Zhi hs,Zh,Option.bind_some,Zi,Zj,Zk,Zl,Zm,Zn,Zo,Zp,Ze,Zd,decide_eq_true_eq,Zq,ge_iff_le,gt_iff_lt,Zr,Bool.false_eq_true,decide_false]
 by_cases h:0≤Yn n p
 case neg=>
  have:Yn n p<0:=by omega
  simp[h,this]
 have hO:=Z43 h
 have h1:¬Yn n p<0:=by omega
 have f1:Few (Z0 n.ports p).tagged:=hs.tagged _ (ZR hO.ip)
 have f2:Few (Z0 n.ports (Yn n p)).tagged:=hs.tagged _ (ZR hO.iq)
 simp only[h1,h,Zb hO.ip,Zb hO.iq,Z86 f1,Z3Y f2,Zh,Option.bind_some,Zi,Zj,Zk,Zl,Zm,Zn,Zo,Zp,Ze,Zd,decide_eq_true_eq,Zq,ge_iff_le,gt_iff_lt,Zr,Bool.false_eq_true,decide_false,if_false,true_and]
 by_cases hm:Ws (Z0 n.ports p) v
 case neg=>simp[hm]
 simp only[hm,if_true,true_and]
 unfold toI
 by_cases h2:v=(Z0 n.ports p).native
 ·simp only[h2,if_true]
  split <;> simp_all
 ·simp only[h2,if_false]
  by_cases h3:v∈(Z0 n.ports (Yn n p)).tagged
  ·simp only[h3,if_true]
   split <;> simp_all
  ·simp[h3]

end Go.Eng

set_option linter.unusedVariables false
set_option linter.unusedSectionVars false
set_option linter.unusedSimpArgs false
namespace Go.Eng
open Go Classical
attribute [local congr] Yl

theorem W5 {α:Type} {l:List α} {i:Int} :Xg i (l.length:Int)=some (decide (inL l i)):=by
 simp only[Xg,Zh,Option.bind_some,Zi,Zj,Zk,Zl,Zm,Zn,Zo,Zp,Ze,Zd,decide_eq_true_eq,Zq,ge_iff_le,gt_iff_lt,Zr,Bool.false_eq_true,decide_false];exact Yw Iff.rfl

theorem Z5Y {n:Z2} {a b:Int} (hl:Few n.domains):Ue n a b=some (XM n.domains a b):=by
 unfold Ue
 rw[Uo n.domains (fun d=>d.dev=a∧d.vlan=b) hl (fun i h0 h1 h2=>by
  simp (disch:=omega) only[Z15,h1,Zb h2,Zc,Zh,Option.bind_some,Zi,Zj,Zk,Zl,Zm,Zn,Zo,Zp,Ze,Zd,decide_eq_true_eq,Zq,ge_iff_le,gt_iff_lt,Zr,Bool.false_eq_true,decide_false,XF,XG,XH,XI,XJ,XK,XL,decide_true,if_true];exact WO Iff.rfl) (by simp[Z15])]
 simp only[Zh,Option.bind_some,Zi,Zj,Zk,Zl,Zm,Zn,Zo,Zp,Ze,Zd,decide_eq_true_eq,Zq,ge_iff_le,gt_iff_lt,Zr,Bool.false_eq_true,decide_false]
 rfl

theorem TB {l:List Int} {x:Int} (hl:Few l):V1 l x=some (decide (x∈l)):=by
 unfold V1
 rw[YD l (fun _ y=>¬y=x) (.inl ()) (.inr ()) hl (fun i h0 h1 h2=>by
  simp (disch:=omega) only[Z16,h1,Zb h2,Zc,Zh,Option.bind_some,Zi,Zj,Zk,Zl,Zm,Zn,Zo,Zp,Ze,Zd,decide_eq_true_eq,Zq,ge_iff_le,gt_iff_lt,Zr,Bool.false_eq_true,decide_false,XF,XG,XH,XI,XJ,XK,XL,decide_true,if_true];exact WO Iff.rfl) (by simp[Z16])]
 simp only[Zh,Option.bind_some,Zi,Zj,Zk,Zl,Zm,Zn,Zo,Zp,Ze,Zd,decide_eq_true_eq,Zq,ge_iff_le,gt_iff_lt,Zr,Bool.false_eq_true,decide_false,Z1F]
 refine Yw ?_
 constructor
 ·intro h
  apply Classical.byContradiction
  intro hn
  exact h fun y hy e=>hn (e ▸hy)
 ·intro h hn
  exact hn x h rfl

theorem Zhl {l:List Int} {a b:Int} (hl:Few l):Z3e l a b=some (decide (Z5P l a b)):=by
 unfold Z3e
 rw[YD l (fun i x=>a≤x∧x≤b∧(0<i→Z0 l (i-1) <x)) (.inl ()) (.inr ()) hl (fun i h0 h1 h2=>by
  by_cases hi:0<i
  ·have h3:inL l (i-1):=⟨by omega,by omega⟩
   simp (disch:=omega) only[Qq,h1,hi,Zb h2,Zc,Zb h3,Zh,Option.bind_some,Zi,Zj,Zk,Zl,Zm,Zn,Zo,Zp,Ze,Zd,decide_eq_true_eq,Zq,ge_iff_le,gt_iff_lt,Zr,Bool.false_eq_true,decide_false,XF,XG,XH,XI,XJ,XK,XL,decide_true,if_true]
   exact V6 (by grind)
  ·simp (disch:=omega) only[Qq,h1,hi,Zb h2,Zc,Zh,Option.bind_some,Zi,Zj,Zk,Zl,Zm,Zn,Zo,Zp,Ze,Zd,decide_eq_true_eq,Zq,ge_iff_le,gt_iff_lt,Zr,Bool.false_eq_true,decide_false,XF,XG,XH,XI,XJ,XK,XL,decide_true,if_true,if_false]
   exact V6 (by grind)) (by simp[Qq])]
 simp only[Zh,Option.bind_some,Zi,Zj,Zk,Zl,Zm,Zn,Zo,Zp,Ze,Zd,decide_eq_true_eq,Zq,ge_iff_le,gt_iff_lt,Zr,Bool.false_eq_true,decide_false]
 refine Yw ?_
 unfold Z5P
 constructor
 ·rintro ⟨h1,h2,h3⟩;exact⟨h3,by omega,by omega⟩
 ·rintro ⟨h1,h2,h3⟩;exact⟨by omega,by omega,h1⟩

theorem Z8e {l:List Int} {b:Int} (hl:Few l):Qr l b=some (decide (Up l b)):=by
 simp only[Qr,Zhl hl,Zh,Option.bind_some,Zi,Zj,Zk,Zl,Zm,Zn,Zo,Zp,Ze,Zd,decide_eq_true_eq,Zq,ge_iff_le,gt_iff_lt,Zr,Bool.false_eq_true,decide_false]
 refine Yw ?_
 unfold Up
 cases l <;> simp;omega

theorem ZbG {p:ZO} {v:Int} (hp:Few p.tagged):Qt p v=some (decide (Ws p v)):=by
 simp+contextual only[Qt,TB hp,Zh,Option.bind_some,Zi,Zj,Zk,Zl,Zm,Zn,Zo,Zp,Ze,Zd,decide_eq_true_eq,Zq,ge_iff_le,gt_iff_lt,Zr,Bool.false_eq_true,decide_false]
 exact Yw (by unfold Ws;grind)

section
variable {n:Z2}
theorem Zhm (hs:SmN n):Z8 (Qo n) 0=if Y9 n.domains (Wr n)then some (.inr ())else some (.inl ()):=by
 refine YD (ρ:=Unit⊕Unit) n.domains (Wr n) (.inl ()) (.inr ()) hs.domains (fun i h0 h1 h2=> ?_) (by simp[Qo])
 have:=hs.domains
 by_cases c:inL n.irbs (Z0 n.domains i).irb <;>
  simp (disch:=omega) only[Qo,h1,Zb,h2,c,W5,Z5Y hs.domains,Zc,Zh,Option.bind_some,Zi,Zj,Zk,Zl,Zm,Zn,Zo,Zp,Ze,Zd,decide_eq_true_eq,Zq,ge_iff_le,gt_iff_lt,Zr,Bool.false_eq_true,decide_false,XF,XG,XH,XI,XJ,XK,XL,decide_true,if_true,if_false,Classical.not_not,not_true_eq_false,not_false_eq_true] <;>
  (first|refine WO ?_|refine V6 ?_) <;> unfold Wr <;> grind

theorem Zhn (hs:SmN n) (hb:Y9 n.domains (Wr n)) {i k:Int} (hi:inL n.domains i):Z3c n i k=some (decide (Z01 n i (Z0 n.domains i) k)):=by
 have hp:inL n.domains k→Few (Z0 n.domains k).peers:=fun h=>hs.peers _ (ZR h)
 have hd:∀ {j},inL n.domains j→inL n.devices (Z0 n.domains j).dev:=fun h=>(hb _ h).1
 simp+contextual only[Z3c,W5,Zb,hi,hd,TB,hp,Zh,Option.bind_some,Zi,Zj,Zk,Zl,Zm,Zn,Zo,Zp,Ze,Zd,decide_eq_true_eq,Zq,ge_iff_le,gt_iff_lt,Zr,Bool.false_eq_true,decide_false]
 refine Yw ?_
 unfold Z01 Z5O
 grind

theorem Zho (hs:SmN n) (hb:Y9 n.domains (Wr n)):Z8 (Qp n) 0=if Y9 n.domains (Tt n)then some (.inr ())else some (.inl ()):=by
 refine YD (ρ:=Unit⊕Unit) n.domains (Tt n) (.inl ()) (.inr ()) hs.domains (fun i h0 h1 h2=> ?_) (by simp[Qp])
 have hd:=hs.domains
 have hp:=hs.peers _ (ZR h2)
 simp (disch:=omega) only[Qp,h1,Zb h2,Zc,Zh,Option.bind_some,Zi,Zj,Zk,Zl,Zm,Zn,Zo,Zp,Ze,Zd,decide_eq_true_eq,Zq,ge_iff_le,gt_iff_lt,Zr,Bool.false_eq_true,decide_false,decide_true,if_true]
 rw[YD (Z0 n.domains i).peers (fun j k=>Z01 n i (Z0 n.domains i) k∧Y4 (Z0 n.domains i).peers (fun y=>k=y)=j) (.inl ()) (.inr ()) hp (fun j g0 g1 g2=>by
  have hs1:Z0y (List.length (Z0 n.domains i).peers) 0 j=true:=by rw[Zgv];exact decide_eq_true ⟨by omega,by omega,by omega⟩
  have hft:Few (List.drop (Int.toNat 0) (List.take j.toNat (Z0 n.domains i).peers)):=by simp[Few]at hp⊢;omega
  simp (disch:=omega) only[Z17,g1,Zb g2,Zhn hs hb h2,hs1,TB hft,Zc,Zh,Option.bind_some,Zi,Zj,Zk,Zl,Zm,Zn,Zo,Zp,Ze,Zd,decide_eq_true_eq,Zq,ge_iff_le,gt_iff_lt,Zr,Bool.false_eq_true,decide_false,XF,XG,XH,XI,XJ,XK,XL,decide_true,if_true]
  refine V6 ?_
  rw[Zgu g2]
  simp
  grind) (by simp[Z17])]
 simp only[Zh,Option.bind_some,Zi,Zj,Zk,Zl,Zm,Zn,Zo,Zp,Ze,Zd,decide_eq_true_eq,Zq,ge_iff_le,gt_iff_lt,Zr,Bool.false_eq_true,decide_false]
 exact WO Iff.rfl

theorem Zhp (hs:SmN n):Z3d n=some (decide (Y9 n.domains (Wr n)∧Y9 n.domains (Tt n))):=by
 unfold Z3d
 rw[Zhm hs]
 by_cases hb:Y9 n.domains (Wr n)
 ·rw[Zho hs hb]
  simp only[hb,Zh,Option.bind_some,Zi,Zj,Zk,Zl,Zm,Zn,Zo,Zp,Ze,Zd,decide_eq_true_eq,Zq,ge_iff_le,gt_iff_lt,Zr,Bool.false_eq_true,decide_false,if_true,true_and]
 ·simp[hb]

theorem Zhq (hs:SmN n):Z3f n=some (decide (Y9 n.ports (Uq n))):=by
 unfold Z3f
 rw[YD n.ports (Uq n) (.inl ()) (.inr ()) hs.ports (fun i h0 h1 h2=>by
  have hp:=hs.tagged _ (ZR h2)
  have hps:=hs.ports
  have hl:Z8 (Qs n i (Z0 n.ports i)) 0=if ∀v∈(Z0 n.ports i).tagged,0≤XM n.domains (Z0 n.ports i).dev v then some (.inr ())else some (.inl ()):=by
   rw[YD (Z0 n.ports i).tagged (fun _ v=>0≤XM n.domains (Z0 n.ports i).dev v) (.inl ()) (.inr ()) hp (fun j g0 g1 g2=>by
    simp (disch:=omega) only[Qs,Z5Y hs.domains,Zb g2,Zc,g1,Zh,Option.bind_some,Zi,Zj,Zk,Zl,Zm,Zn,Zo,Zp,Ze,Zd,decide_eq_true_eq,Zq,ge_iff_le,gt_iff_lt,Zr,Bool.false_eq_true,decide_false,XF,XG,XH,XI,XJ,XK,XL,decide_true,if_true]
    exact V6 (by omega)) (by simp[Qs])]
   simp only[Z1F]
  have h3:(((Z0 n.ports i).tagged.length:Int)=0)↔(Z0 n.ports i).tagged= []:=by simp
  by_cases c:inL n.links (Z0 n.ports i).link <;>
  simp (disch:=omega) only[Z18,Z5r,h1,Zb h2,Zb,c,W5,Z5Y hs.domains,Z8e hp,TB hp,hl,h3,Zc,Zh,Option.bind_some,Zi,Zj,Zk,Zl,Zm,Zn,Zo,Zp,Ze,Zd,decide_eq_true_eq,Zq,ge_iff_le,gt_iff_lt,Zr,Bool.false_eq_true,decide_false,XF,XG,XH,XI,XJ,XK,XL,decide_true,if_true,if_false,Classical.not_not,not_true_eq_false,not_false_eq_true] <;>
  (first|refine WO ?_|refine V6 ?_) <;> unfold Uq <;> simp only[c] <;> clear hl <;>
  generalize Z0 n.ports i=p <;>
  generalize (∀v∈p.tagged,0≤XM n.domains p.dev v)=A <;>
  generalize XM n.domains p.dev p.native=B <;>
  generalize Up p.tagged 4094=C <;>
  generalize inL n.devices p.dev=E <;>
  generalize (p.native∈p.tagged)=G <;>
  generalize (p.tagged= [])=F <;> grind) (by simp[Z18])]
 simp only[Zh,Option.bind_some,Zi,Zj,Zk,Zl,Zm,Zn,Zo,Zp,Ze,Zd,decide_eq_true_eq,Zq,ge_iff_le,gt_iff_lt,Zr,Bool.false_eq_true,decide_false]

theorem Zhr (hs:SmN n):Z3g n=some (decide (Y9 n.links (Ur n))):=by
 unfold Z3g
 rw[YD n.links (Ur n) (.inl ()) (.inr ()) hs.links (fun i h0 h1 h2=>by
  have:=hs.links
  simp+contextual (disch:=omega) only[Z19,h1,Zb,h2,W5,Zc,Zh,Option.bind_some,Zi,Zj,Zk,Zl,Zm,Zn,Zo,Zp,Ze,Zd,decide_eq_true_eq,Zq,ge_iff_le,gt_iff_lt,Zr,Bool.false_eq_true,decide_false,decide_true,if_true]
  simp only[XF,XG,XH,XI,XJ,XK,XL,Classical.not_not]
  first|refine WO ?_|refine V6 ?_
  unfold Ur
  grind) (by simp[Z19])]
 simp only[Zh,Option.bind_some,Zi,Zj,Zk,Zl,Zm,Zn,Zo,Zp,Ze,Zd,decide_eq_true_eq,Zq,ge_iff_le,gt_iff_lt,Zr,Bool.false_eq_true,decide_false]

theorem Zhs (hs:SmN n):Z3h n=some (decide (Y9 n.statics (fun _ x=>Tu n x)∧Y9 n.floods (fun _ x=>Tv n x)∧Y9 n.vrfs (fun _ x=>Tw n x)∧Y9 n.irbs (Us n))):=by
  unfold Z3h
  rw[YD n.statics (fun _ x=>Tu n x) (.inl ()) (.inr ()) hs.statics (fun i h0 h1 h2=>by
    have:=hs.statics
    have hp:inL n.ports (Z0 n.statics i).port→∀v,Qt (Z0 n.ports (Z0 n.statics i).port) v=some (decide (Ws (Z0 n.ports (Z0 n.statics i).port) v)):=fun h v=>ZbG (hs.tagged _ (ZR h))
    simp+contextual (disch:=omega) only[Z1a,h1,Zb,h2,W5,hp,Zc,Zh,Option.bind_some,Zi,Zj,Zk,Zl,Zm,Zn,Zo,Zp,Ze,Zd,decide_eq_true_eq,Zq,ge_iff_le,gt_iff_lt,Zr,Bool.false_eq_true,decide_false,decide_true,if_true]
    simp only[XF,XG,XH,XI,XJ,XK,XL,Classical.not_not]
    first|refine WO ?_|refine V6 ?_
    unfold Tu
    grind) (by simp[Z1a]),
   YD n.floods (fun _ x=>Tv n x) (.inl ()) (.inr ()) hs.floods (fun i h0 h1 h2=>by
    have:=hs.floods
    simp+contextual (disch:=omega) only[Z1b,h1,Zb,h2,W5,Zc,Zh,Option.bind_some,Zi,Zj,Zk,Zl,Zm,Zn,Zo,Zp,Ze,Zd,decide_eq_true_eq,Zq,ge_iff_le,gt_iff_lt,Zr,Bool.false_eq_true,decide_false,decide_true,if_true]
    simp only[XF,XG,XH,XI,XJ,XK,XL,Classical.not_not]
    first|refine WO ?_|refine V6 ?_
    unfold Tv
    grind) (by simp[Z1b]),
   YD n.vrfs (fun _ x=>Tw n x) (.inl ()) (.inr ()) hs.vrfs (fun i h0 h1 h2=>by
    have:=hs.vrfs
    simp+contextual (disch:=omega) only[Z1c,h1,Zb,h2,W5,Z8e (hs.imports _ (ZR h2)),Z8e (hs.exports _ (ZR h2)),Zc,Zh,Option.bind_some,Zi,Zj,Zk,Zl,Zm,Zn,Zo,Zp,Ze,Zd,decide_eq_true_eq,Zq,ge_iff_le,gt_iff_lt,Zr,Bool.false_eq_true,decide_false,decide_true,if_true]
    simp only[XF,XG,XH,XI,XJ,XK,XL,Classical.not_not]
    first|refine WO ?_|refine V6 ?_
    unfold Tw
    grind) (by simp[Z1c]),
   YD n.irbs (Us n) (.inl ()) (.inr ()) hs.irbs (fun i h0 h1 h2=>by
    have:=hs.irbs
    simp+contextual (disch:=omega) only[Z1d,h1,Zb,h2,W5,Zc,Zh,Option.bind_some,Zi,Zj,Zk,Zl,Zm,Zn,Zo,Zp,Ze,Zd,decide_eq_true_eq,Zq,ge_iff_le,gt_iff_lt,Zr,Bool.false_eq_true,decide_false,decide_true,if_true]
    simp only[XF,XG,XH,XI,XJ,XK,XL,Classical.not_not]
    first|refine WO ?_|refine V6 ?_
    unfold Us
    grind) (by simp[Z1d])]
  simp only[Zh,Option.bind_some,Zi,Zj,Zk,Zl,Zm,Zn,Zo,Zp,Ze,Zd,decide_eq_true_eq,Zq,ge_iff_le,gt_iff_lt,Zr,Bool.false_eq_true,decide_false]

theorem ZbH (hs:SmN n):Z3i n=some (decide (ZM n)):=by
 simp only[Z3i,Zhp hs,Zhq hs,Zhr hs,Zhs hs,Zh,Option.bind_some,Zi,Zj,Zk,Zl,Zm,Zn,Zo,Zp,Ze,Zd,decide_eq_true_eq,Zq,ge_iff_le,gt_iff_lt,Zr,Bool.false_eq_true,decide_false]
 refine Yw ?_
 rw[Zbn]
 unfold Z3Z
 constructor
 ·rintro ⟨a,b,c,d,e,f,g,h,⟨i,j⟩,k,l,m⟩;exact⟨⟨by omega,by omega,by omega,by omega,by omega,by omega,by omega,by omega⟩,i,j,k,l,m⟩
 ·rintro ⟨⟨a,b,c,d,e,f,g,h⟩,i,j,k,l,m⟩;exact⟨by omega,by omega,by omega,by omega,by omega,by omega,by omega,by omega,⟨i,j⟩,k,l,m⟩
end
end Go.Eng

set_option linter.unusedVariables false
set_option linter.unusedSectionVars false
set_option linter.unusedSimpArgs false
namespace Go.Eng
open Go Classical
attribute [local congr] Yl
variable {n:Z2}

theorem Zht (hs:SmN n) (hr:ZM n) {p:Int} :Z3k n p=some (Yn n p):=by
 unfold Z3k
 rw[Zbk n.links (fun l=>l.a=p∨l.b=p) (fun _ l=>if l.a=p then l.b else l.a) hs.links (fun i h0 h1 h2=>by
  have:=hs.links
  simp (disch:=omega) only[Z1f,h1,Zb h2,Zc,Zh,Option.bind_some,Zi,Zj,Zk,Zl,Zm,Zn,Zo,Zp,Ze,Zd,decide_eq_true_eq,Zq,ge_iff_le,gt_iff_lt,Zr,Bool.false_eq_true,decide_false,decide_true,if_true]
  grind) (by simp[Z1f])]
 simp only[Zh,Option.bind_some,Zi,Zj,Zk,Zl,Zm,Zn,Zo,Zp,Ze,Zd,decide_eq_true_eq,Zq,ge_iff_le,gt_iff_lt,Zr,Bool.false_eq_true,decide_false]
 split
 ·rename_i h
  have hk:=Z81.1 h
  have he:=Z5N h
  generalize Y4 n.links (fun l=>l.a=p∨l.b=p)=f at *
  obtain⟨ha,hb,_,la,lb⟩:=hr.links f hk
  have hp:inL n.ports p∧(Z0 n.ports p).link=f:=by
   rcases he with e|e
   ·rw[←e];exact⟨ha,la⟩
   ·rw[←e];exact⟨hb,lb⟩
  congr 1
  symm
  unfold Yn
  rw[if_pos ⟨hr,hp.1,by rw[hp.2];exact hk.1⟩,hp.2]
 ·rename_i h
  have hn:=Zbj.1 (by omega:Y4 n.links (fun l=>l.a=p∨l.b=p) <0)
  unfold Yn
  rw[if_neg]
  rintro ⟨_,hp,hl⟩
  obtain⟨hk,he⟩:=hr.link hp hl
  exact hn _ hk he

theorem Zhu (hs:SmN n) (hr:ZM n) {p v:Int} :Z0S n p v=some (if(Vs n p v).2.2=true then(XM n.domains (Z0 n.ports (Yn n p)).dev (toI n p (Yn n p) v),true)else(0,false)):=by
 simp only[Z0S,Zhk hs,Option.bind_some]
 unfold Vs
 by_cases h:0≤Yn n p∧Ws (Z0 n.ports p) v∧toI n p (Yn n p) v≠0
 ·have hO:=Z43 h.1
  simp only[if_pos h,Bool.not_true,Bool.false_eq_true,if_false,if_true,Zb hO.iq,Option.bind_some,ZgV hs,if_pos hr]
 ·simp only[if_neg h,Bool.not_false,Bool.false_eq_true,if_false,if_true]

end Go.Eng

set_option linter.unusedVariables false
set_option linter.unusedSectionVars false
set_option linter.unusedSimpArgs false
namespace Go.Eng
open Go Classical
attribute [local congr] Yl
section
variable {n:Z2}
def Z44 (n:Z2) (k:Int) (p:ZO):Prop:=p.dev=(Z0 n.domains k).dev∧Ws p (Z0 n.domains k).vlan
noncomputable def ZS (n:Z2) (k:Int):List Int:=XT n.ports (fun _ p=>Z44 n k p) (fun i _=>i)
end
end Go.Eng

set_option linter.unusedVariables false
set_option linter.unusedSectionVars false
set_option linter.unusedSimpArgs false
namespace Go.Eng
open Go Classical
attribute [local congr] Yl
section
variable {n:Z2}
theorem Z04 {k p:Int} (h:p∈ZS n k):inL n.ports p:=by
 obtain⟨i,hi,_,rfl⟩:=Z3V.1 h
 exact hi
theorem Z05 {k:Int} :(ZS n k).length≤n.ports.length:=Z1G
theorem Z8f (hs:SmN n) {k:Int} :UX n k=some (if inL n.domains k then ZS n k else []):=by
 by_cases hk:inL n.domains k
 case neg=>simp[UX,W5,hk]
 simp only[UX,W5,hk,Zb hk,decide_true,Bool.not_true,Bool.false_eq_true,if_false,if_true,Option.bind_some]
 rw[Tr n.ports (fun _ p=>Z44 n k p) (fun i _=>i) (out:=id) hs.ports (fun i s h0 h1 h2 h3=>by
  have h4:=hs.ports
  have h5:ZZ 8 (s++ [i])=true:=X5 (by simp;omega)
  simp (disch:=omega) only[Z1e,h1,Zb h2,ZbG (hs.tagged _ (ZR h2)),Zc,h5,Zh,Option.bind_some,Zi,Zj,Zk,Zl,Zm,Zn,Zo,Zp,Ze,Zd,decide_eq_true_eq,Zq,ge_iff_le,gt_iff_lt,Zr,Bool.false_eq_true,decide_false,decide_true,if_true,Z44]
  grind) (fun s=>by simp[Z1e])]
 rfl

end
end Go.Eng

set_option linter.unusedVariables false
set_option linter.unusedSectionVars false
set_option linter.unusedSimpArgs false
namespace Go.Eng
open Go Classical

def LeL (l' l:List Int):Prop:=l'.length=l.length∧∀x,inL l x→Z0 l' x≤Z0 l x
theorem LeL.refl (l:List Int):LeL l l:=⟨rfl,fun _ _=>Int.le_refl _⟩
theorem LeL.trans {a b c:List Int} (h:LeL a b) (g:LeL b c):LeL a c:=
 ⟨h.1.trans g.1,fun x hx=>Int.le_trans (h.2 x (by unfold inL at *;rw[g.1];exact hx)) (g.2 x hx)⟩
theorem LeL.inL {a b:List Int} (h:LeL a b) {x:Int} :inL a x↔inL b x:=by unfold Go.Eng.inL;rw[h.1]

section
variable {E:Int→Int→Prop} {N:Nat} {next:Int→List Int}
end
end Go.Eng

set_option linter.unusedVariables false
set_option linter.unusedSectionVars false
set_option linter.unusedSimpArgs false
namespace Go.Eng
open Go Classical
attribute [local congr] Yl
section
variable {n:Z2}
noncomputable def Va (n:Z2) (p v:Int):Int:=XM n.domains (Z0 n.ports (Yn n p)).dev (toI n p (Yn n p) v)
def OkX (n:Z2) (p v:Int):Prop:=0≤Yn n p∧Ws (Z0 n.ports p) v∧toI n p (Yn n p) v≠0
theorem Z5Z {p v:Int} :(Vs n p v).2.2=true↔OkX n p v:=by
 unfold Vs OkX
 by_cases h:0≤Yn n p∧Ws (Z0 n.ports p) v∧toI n p (Yn n p) v≠0
 ·rw[if_pos h];simp[h]
 ·rw[if_neg h];simp[h]
theorem Zhv (hr:ZM n) {p v:Int} (hp:inL n.ports p) (hm:Ws (Z0 n.ports p) v):
  inL n.domains (XM n.domains (Z0 n.ports p).dev v)∧(Z0 n.domains (XM n.domains (Z0 n.ports p).dev v)).dev=(Z0 n.ports p).dev∧(Z0 n.domains (XM n.domains (Z0 n.ports p).dev v)).vlan=v:=by
 have hP:=hr.ports p hp
 have h0:0≤XM n.domains (Z0 n.ports p).dev v:=by
  obtain⟨hv,h|h⟩:=hm
  ·subst h
   exact hP.2.2.2.2.2.2.2.1 (by have:=hP.2.1;omega)
  ·exact hP.2.2.2.2.2.2.1 v h
 have h1:=Z5N (l:=n.domains) (P:=fun d=>d.dev=(Z0 n.ports p).dev∧d.vlan=v) h0
 exact⟨Z81.1 h0,h1.1,h1.2⟩
theorem Zhw {p v:Int} (h:OkX n p v):Ws (Z0 n.ports (Yn n p)) (toI n p (Yn n p) v):=by
 obtain⟨_,hm,hz⟩:=h
 unfold toI at hz⊢
 split at hz
 ·rename_i h1;rw[if_pos h1];exact⟨hz, .inl rfl⟩
 ·rename_i h1;rw[if_neg h1]
  split at hz
  ·rename_i h2;rw[if_pos h2];exact⟨hm.1, .inr h2⟩
  ·exact absurd rfl hz
theorem Zhx (hr:ZM n) {p v:Int} (h:OkX n p v):inL n.domains (Va n p v):=(Zhv hr (Z43 h.1).iq (Zhw h)).1

end
end Go.Eng

set_option linter.unusedVariables false
set_option linter.unusedSectionVars false
set_option linter.unusedSimpArgs false
namespace Go.Eng
open Go Classical
attribute [local congr] Yl
variable {n:Z2}

theorem Zhy (hs:SmN n) (hr:ZM n) {p v:Int} :Z3l n p v=some (Vs n p v):=by
 unfold Z3l
 rw[Zht hs hr]
 simp only[Zh,Option.bind_some,Zi,Zj,Zk,Zl,Zm,Zn,Zo,Zp,Ze,Zd,decide_eq_true_eq,Zq,ge_iff_le,gt_iff_lt,Zr,Bool.false_eq_true,decide_false]
 by_cases h:0≤Yn n p
 case neg=>
  have h1:Yn n p<0:=by omega
  unfold Vs
  simp[h,h1]
 have h1:¬Yn n p<0:=by omega
 have hO:=Z43 h
 have f1:=hs.tagged _ (ZR hO.ip)
 have f2:=hs.tagged _ (ZR hO.iq)
 simp only[h1,if_false,Z5t,Zb hO.ip,Zb hO.iq,TB f1,TB f2,Zh,Option.bind_some,Zi,Zj,Zk,Zl,Zm,Zn,Zo,Zp,Ze,Zd,decide_eq_true_eq,Zq,ge_iff_le,gt_iff_lt,Zr,Bool.false_eq_true,decide_false,XF,XG,XH,XI,XJ,XK,XL]
 have pp:=hr.ports _ hO.ip
 have pq:=hr.ports _ hO.iq
 have u1:=pp.2.2.2.2.1
 have u3:=pq.2.1
 unfold Vs toI Ws
 generalize Yn n p=q at *
 generalize Z0 n.ports p=a at *
 generalize Z0 n.ports q=b at *
 by_cases hv0:v=0
 ·simp[hv0]
 by_cases hv:v=a.native
 ·subst hv
  by_cases hb:b.native=0
  ·have:¬0<b.native:=by omega
   simp[h,hv0,hb,u1]
  ·have:0<b.native:=by omega
   simp[h,hv0,hb,this]
 ·have hv':¬a.native=v:=fun e=>hv e.symm
  by_cases m1:v∈a.tagged <;> by_cases m2:v∈b.tagged <;> simp[h,hv0,hv,hv',m1,m2]

theorem Zhz (hs:SmN n) (hr:ZM n) {p v:Int} :Z1g n p v=some (if(Vs n p v).2.2=true then(XM n.domains (Z0 n.ports (Yn n p)).dev (toI n p (Yn n p) v),true)else(0,false)):=by
 simp only[Z1g,Zhy hs hr,Option.bind_some]
 unfold Vs
 by_cases h:0≤Yn n p∧Ws (Z0 n.ports p) v∧toI n p (Yn n p) v≠0
 ·have hO:=Z43 h.1
  simp only[if_pos h,Bool.not_true,Bool.false_eq_true,if_false,if_true,Zb hO.iq,Option.bind_some,Z5Y hs.domains]
 ·simp only[if_neg h,Bool.not_false,Bool.false_eq_true,if_false,if_true]

end Go.Eng

set_option linter.unusedVariables false
set_option linter.unusedSectionVars false
set_option linter.unusedSimpArgs false
namespace Go.Eng
open Go Classical
attribute [local congr] Yl
section
variable {n:Z2}
theorem ZhA (hs:SmN n) (hr:ZM n) {p v:Int} :Z0S n p v=some (if OkX n p v then(Va n p v,true)else(0,false)):=by
 rw[Zhu hs hr]
 congr 1
 by_cases h:OkX n p v
 ·rw[if_pos h,if_pos (Z5Z.2 h)];rfl
 ·rw[if_neg h,if_neg (fun g=>h (Z5Z.1 g))]
theorem ZhB (hs:SmN n) (hr:ZM n) {p v:Int} :Z1g n p v=some (if OkX n p v then(Va n p v,true)else(0,false)):=by
 rw[Zhz hs hr]
 congr 1
 by_cases h:OkX n p v
 ·rw[if_pos h,if_pos (Z5Z.2 h)];rfl
 ·rw[if_neg h,if_neg (fun g=>h (Z5Z.1 g))]
theorem ZhC (hr:ZM n) {i k:Int} (hi:inL n.domains i) (hk:k∈(Z0 n.domains i).peers):inL n.domains k∧k≠i∧i∈(Z0 n.domains k).peers:=by
 obtain⟨j,hj,rfl⟩:=W0 hk
 have:=(hr.peers i hi j hj).1
 exact⟨this.1,this.2.1,this.2.2.2.2.2.2.2.2⟩
end
end Go.Eng

set_option linter.unusedVariables false
set_option linter.unusedSectionVars false
set_option linter.unusedSimpArgs false
namespace Go.Eng
open Go Classical
attribute [local congr] Yl
section
variable {n:Z2}
theorem Z8g (hs:SmN n) {k:Int} :U8 n k=some (if ZM n∧inL n.domains k then ZS n k else []):=by
 by_cases hr:ZM n
 case neg=>simp[U8,Wc hs,hr]
 by_cases hk:inL n.domains k
 case neg=>simp[U8,Wc hs,Z3X,hr,hk]
 simp only[U8,Wc hs,Z3X,hr,hk,decide_true,and_self,if_true,Option.bind_some]
 rw[Tr n.ports (fun _ p=>Z44 n k p) (fun i _=>i) (out:=id) hs.ports (fun i s h0 h1 h2 h3=>by
  have h4:=hs.ports
  have h5:ZZ 8 (s++ [i])=true:=X5 (by simp;omega)
  simp (disch:=omega) only[Z0Q,h1,Zb h2,Zb hk,Z86 (hs.tagged _ (ZR h2)),Zc,h5,Zh,Option.bind_some,Zi,Zj,Zk,Zl,Zm,Zn,Zo,Zp,Ze,Zd,decide_eq_true_eq,Zq,ge_iff_le,gt_iff_lt,Zr,Bool.false_eq_true,decide_false,decide_true,if_true,Z44]
  grind) (fun s=>by simp[Z0Q])]
 rfl

end
end Go.Eng

set_option linter.unusedVariables false
set_option linter.unusedSectionVars false
set_option linter.unusedSimpArgs false
namespace Go.Eng
open Go Classical
attribute [local congr] Yl

theorem Yi {α:Type} {l:List α} {i:Int} (h:inL l i):lin l i=true:=by rw[Ts];exact decide_eq_true h
theorem Z45 {α β ρ:Type} [Inhabited α] {f:List β×Int→Option ((List β×Int)⊕ρ)} (l:List α) (e:α→β) (s0:List β) {out:List β→ρ} (hb:Few l)
  (h1:∀(i:Int) (s:List β),inL l i→(s.length:Int)=s0.length+i→f (s,i)=some (.inl (s++ [e (Z0 l i)],i+1))) (h2:∀s,f (s,l.length)=some (.inr (out s))):
  Z8 f (s0,0)=some (out (s0++l.map e)):=by
 have:=Xu (f:=f) (r:=out (s0++l.map e)) (fun i=>(s0++(l.take i).map e,(i:Int))) l.length (by unfold Few at hb;omega) (fun i hi=>by
  have hx:l[i]?=some l[i]:=List.getElem?_eq_getElem hi
  have hl:(l.take i).length=i:=by simp;omega
  have h:=h1 (i:Int) (s0++(l.take i).map e) (Vr hx) (by simp;omega)
  rw[Xn hx]at h
  rw[h,List.take_add_one,hx]
  simp only[List.map_append,Option.toList_some,List.map_cons,List.map_nil,List.append_assoc,Int.natCast_add,Int.natCast_one]) (by simp only[List.take_length];exact h2 _)
 simpa using this

def TC (h:Y7):Ya:=⟨h.kind,h.port,h.domain,h.addr⟩
section
variable {n:Z2}
noncomputable def XU (n:Z2) (d:Int):List Y7:=
 XT (ZS n d) (fun _ p=>OkX n p (Z0 n.domains d).vlan) (fun _ p=>⟨1,p,Va n p (Z0 n.domains d).vlan,0⟩)++(Z0 n.domains d).peers.map (fun k=>⟨2,0,k,0⟩)
theorem Z8h (hg:Ym n 200 100) {d:Int} (hd:inL n.domains d):(XU n d).length≤300:=by
 unfold XU
 have h1:(XT (ZS n d) (fun _ p=>OkX n p (Z0 n.domains d).vlan) (fun _ p=>(⟨1,p,Va n p (Z0 n.domains d).vlan,0⟩:Y7))).length≤n.ports.length:=Nat.le_trans Z1G Z05
 have h2:=hg.ports
 have h3:=hg.peers _ (ZR hd)
 simp;omega
theorem ZhD (hs:SmN n) {d:Int} :Z2H n d=some (decide (inL n.domains d∧ZM n)):=by
 unfold Z2H
 rw[Wc hs]
 by_cases h1:d≥0
 ·by_cases h2:d<(n.domains.length:Int)
  ·rw[if_pos (by simpa using h1),if_pos (by simpa using h2)]
   exact Yw ⟨fun h=>⟨⟨h1,h2⟩,h⟩,fun h=>h.2⟩
  ·rw[if_pos (by simpa using h1),if_neg (by simpa using h2)]
   exact(congrArg some (decide_eq_false (p:=inL n.domains d∧ZM n) (fun h=>h2 h.1.2))).symm
 ·rw[if_neg (by simpa using h1)]
  exact(congrArg some (decide_eq_false (p:=inL n.domains d∧ZM n) (fun h=>h1 h.1.1))).symm
theorem ZhE (hg:Ym n 200 100) (hr:ZM n) {d:Int} (hd:inL n.domains d):Z2M n d=some (XU n d):=by
 have hs:=hg.sm
 have hml:(ZS n d).length≤200:=Nat.le_trans Z05 hg.ports
 have hpl:=hg.peers _ (ZR hd)
 simp only[Z2M,ZhD hs,Option.bind_some,decide_eq_true (show inL n.domains d∧ZM n from⟨hd,hr⟩),Bool.not_true,Bool.false_eq_true,if_false,Z8g hs,if_pos (show ZM n∧inL n.domains d from⟨hr,hd⟩),Zb hd]
 have e1:=Tr (f:=fun s:(List Y7)×Int=>match s with|(l9,v10)=>Q5 n d (ZS n d) l9 v10) (ZS n d) (fun _ p=>OkX n p (Z0 n.domains d).vlan) (fun _ p=>(⟨1,p,Va n p (Z0 n.domains d).vlan,0⟩:Y7)) (out:=fun s=>s) (by unfold Few;omega) (fun i s i0 i1 hi hsl=>by
  simp only[Q5,i1,decide_true,if_true,Yi hi,Y8 hi,Option.bind_some,Zb hd,ZhA hs hr,Zc (n:=i+1) (by omega) (by omega)]
  by_cases ho:OkX n (Z0 (ZS n d) i) (Z0 n.domains d).vlan
  ·simp only[if_pos ho,if_true]
   rw[if_pos (X5 (by simp;omega))]
  ·simp only[if_neg ho,Bool.false_eq_true,if_false]) (fun s=>by simp[Q5])
 rw[e1]
 simp only[Option.bind_some]
 have hgl:(XT (ZS n d) (fun _ p=>OkX n p (Z0 n.domains d).vlan) (fun _ p=>(⟨1,p,Va n p (Z0 n.domains d).vlan,0⟩:Y7))).length≤200:=Nat.le_trans Z1G hml
 have e2:=Z45 (f:=fun s:(List Y7)×Int=>match s with|(l30,v31)=>Q6 (Z0 n.domains d) l30 v31) (Z0 n.domains d).peers (fun k=>(⟨2,0,k,0⟩:Y7)) (XT (ZS n d) (fun _ p=>OkX n p (Z0 n.domains d).vlan) (fun _ p=>(⟨1,p,Va n p (Z0 n.domains d).vlan,0⟩:Y7))) (out:=fun s=>s) (by unfold Few;omega) (fun i s hi hlen=>by
  have i0:=hi.1;have i1:=hi.2
  simp only[Q6,i1,decide_true,if_true,Zb hi,Option.bind_some,Zc (n:=i+1) (by omega) (by omega)]
  rw[if_pos (X5 (by simp;omega))]) (fun s=>by simp[Q6])
 rw[e2]
 rfl
theorem ZhF (hg:Ym n 200 100) (hr:ZM n) {d:Int} (hd:inL n.domains d):Z3m n d=some ((XU n d).map TC):=by
 have hs:=hg.sm
 have hml:(ZS n d).length≤200:=Nat.le_trans Z05 hg.ports
 have hpl:=hg.peers _ (ZR hd)
 simp only[Z3m,Z8f hs,if_pos hd,Option.bind_some]
 have e1:=Tr (f:=fun s:(List Ya)×Int=>match s with|(l6,v7)=>Qx n d (ZS n d) l6 v7) (ZS n d) (fun _ p=>OkX n p (Z0 n.domains d).vlan) (fun _ p=>(⟨1,p,Va n p (Z0 n.domains d).vlan,0⟩:Ya)) (out:=fun s=>s) (by unfold Few;omega) (fun i s i0 i1 hi hsl=>by
  simp only[Qx,i1,decide_true,if_true,Yi hi,Y8 hi,Option.bind_some,Zb hd,ZhB hs hr,Zc (n:=i+1) (by omega) (by omega)]
  by_cases ho:OkX n (Z0 (ZS n d) i) (Z0 n.domains d).vlan
  ·simp only[if_pos ho,if_true]
   rw[if_pos (X5 (by simp;omega))]
  ·simp only[if_neg ho,Bool.false_eq_true,if_false]) (fun s=>by simp[Qx])
 rw[e1]
 simp only[Option.bind_some]
 have hgl:(XT (ZS n d) (fun _ p=>OkX n p (Z0 n.domains d).vlan) (fun _ p=>(⟨1,p,Va n p (Z0 n.domains d).vlan,0⟩:Ya))).length≤200:=Nat.le_trans Z1G hml
 have e2:=Z45 (f:=fun s:(List Ya)×Int=>match s with|(l27,v28)=>Qy n d l27 v28) (Z0 n.domains d).peers (fun k=>(⟨2,0,k,0⟩:Ya)) (XT (ZS n d) (fun _ p=>OkX n p (Z0 n.domains d).vlan) (fun _ p=>(⟨1,p,Va n p (Z0 n.domains d).vlan,0⟩:Ya))) (out:=fun s=>s) (by unfold Few;omega) (fun i s hi hlen=>by
  have i0:=hi.1;have i1:=hi.2
  simp only[Qy,i1,decide_true,if_true,Zb hi,Zb hd,Option.bind_some,Zc (n:=i+1) (by omega) (by omega)]
  rw[if_pos (X5 (by simp;omega))]) (fun s=>by simp[Qy,Zb hd])
 rw[e2]
 simp only[Option.bind_some,XU,List.map_append,List.map_map]
 congr 2
 unfold XT
 rw[List.map_filterMap]
 congr 1
 funext q
 split <;> rfl
theorem ZhG {d:Int} {h:Y7} :h∈XU n d↔(∃p∈ZS n d,OkX n p (Z0 n.domains d).vlan∧h=⟨1,p,Va n p (Z0 n.domains d).vlan,0⟩)∨∃k∈(Z0 n.domains d).peers,h=⟨2,0,k,0⟩:=by
 unfold XU
 rw[List.mem_append,Z3V,List.mem_map]
 constructor
 ·rintro (⟨i,hi,h1,rfl⟩|⟨k,hk,rfl⟩)
  ·exact .inl ⟨_,ZR hi,h1,rfl⟩
  ·exact .inr ⟨k,hk,rfl⟩
 ·rintro (⟨p,hp,h1,rfl⟩|⟨k,hk,rfl⟩)
  ·obtain⟨i,hi,rfl⟩:=W0 hp
   exact .inl ⟨i,hi,h1,rfl⟩
  ·exact .inr ⟨k,hk,rfl⟩
theorem ZhH (hr:ZM n):HIn (fun h:Y7=>h.domain) (XU n) n.domains.length:=by
 intro d d0 d1 h hh
 have hd:inL n.domains d:=⟨d0,d1⟩
 rcases ZhG.1 hh with⟨p,_,ho,rfl⟩|⟨k,hk,rfl⟩
 ·exact Zhx hr ho
 ·exact(ZhC hr hd hk).1
end
end Go.Eng

set_option linter.unusedVariables false
set_option linter.unusedSectionVars false
set_option linter.unusedSimpArgs false
namespace Go.Eng
open Go Classical
attribute [local congr] Yl

/-! ### Gathering that may stop -/
theorem ZhI {α:Type} [Inhabited α] {l:List α} {P:Int→α→Prop} :(XT l P (fun i _=>i)).Pairwise (· < ·):=by
 have key:∀(l:List α) (k:Nat),(((l.zipIdx k).filterMap fun q=>if P q.2 q.1 then some (q.2:Int)else none).Pairwise (· < ·))∧∀x∈((l.zipIdx k).filterMap fun q=>if P q.2 q.1 then some (q.2:Int)else none),(k:Int)≤x:=by
  intro l
  induction l with
  |nil=>intro k;simp
  |cons a l ih=>
   intro k
   obtain⟨h1,h2⟩:=ih (k+1)
   rw[List.zipIdx_cons,List.filterMap_cons]
   by_cases hp:P k a
   ·simp only[hp,if_true]
    refine⟨List.pairwise_cons.2 ⟨fun x hx=>by have:=h2 x hx;omega,h1⟩,fun x hx=> ?_⟩
    rcases List.mem_cons.1 hx with rfl|hx
    ·omega
    ·have:=h2 x hx;omega
   ·simp only[hp,if_false]
    exact⟨h1,fun x hx=>by have:=h2 x hx;omega⟩
 exact(key l 0).1

theorem ZhJ {α β:Type} [Inhabited α] {f:List β×Int→Option ((List β×Int)⊕(Unit⊕List β))} (l:List α) (X P:Int→α→Prop) (e:Int→α→β) (hb:Few l)
  (h1:∀(i:Int) (s:List β),0≤i→i<l.length→inL l i→s.length≤i→f (s,i)=some (if X i (Z0 l i)then .inr (.inl ())else .inl (if P i (Z0 l i)then s++ [e i (Z0 l i)]else s,i+1)))
  (h2:∀s,f (s,l.length)=some (.inr (.inr s))):Z8 f ([],0)=if ∃i,inL l i∧X i (Z0 l i)then some (.inl ())else some (.inr (XT l P e)):=by
 by_cases hx:∃i,inL l i∧X i (Z0 l i)
 ·rw[if_pos hx]
  obtain⟨i0,hi0,hX⟩:=hx
  obtain⟨r,hr,hq⟩:=XE (f:=f) (fun s=>0≤s.2∧s.2≤i0∧s.1.length≤s.2) (fun r=>r= .inl ()) (fun s=>(i0-s.2).toNat) (s:=([],0)) (fun s hs=>by
   obtain⟨s,i⟩:=s
   obtain⟨g0,g1,g2⟩:=hs
   simp only at g0 g1 g2
   have h0:=hi0.1;have hl:=hi0.2
   rw[h1 i s g0 (by omega) ⟨g0,by omega⟩ g2]
   by_cases hXi:X i (Z0 l i)
   ·exact⟨_,rfl,by simp[hXi]⟩
   ·have hne:i≠i0:=fun e=>hXi (e ▸hX)
    refine⟨_,rfl, ?_⟩
    rw[if_neg hXi]
    simp only
    refine⟨⟨by omega,by omega, ?_⟩,by omega⟩
    split
    ·simp;omega
    ·omega) ⟨by simp,hi0.1,by simp⟩ (by simp;have:=hi0.2;omega)
  rw[hr,hq]
 ·rw[if_neg hx]
  exact Tr l P e (out:=fun s=>Sum.inr s) hb (fun i s a b c d=>by rw[h1 i s a b c d,if_neg (fun h=>hx ⟨i,c,h⟩)]) h2

/-! ### Prefixes -/
def kOf (p:Yc):Nat:=(32-p.bits).toNat
def pw (k:Nat):Int:=((2 ^ k:Nat):Int)
def X1 (p:Yc):Int:=p.addr-p.addr % pw (kOf p)
def Xj (p:Yc):Int:=p.addr-p.addr % pw (kOf p)+(pw (kOf p) -1)
structure WR (p:Yc):Prop where
 b0:0≤p.bits
 b1:p.bits≤32
 a0:0≤p.addr
 a1:p.addr<4294967296
theorem Z1H (k:Nat):0<pw k:=by unfold pw;have:=Nat.two_pow_pos k;omega
theorem Z60 {k:Nat} (h:k≤32):pw k≤4294967296:=by
 unfold pw
 have:2 ^ k≤2 ^ 32:=Nat.pow_le_pow_right (by decide) h
 omega
theorem TD {p:Yc} (h:WR p):kOf p≤32:=by have:=h.b0;unfold kOf;omega
theorem Z8i {p:Yc} (h:WR p):Q9 p=some (pw (kOf p) -1):=by
 have h0:=h.b0;have h1:=h.b1
 unfold Q9
 rw[Zc (by omega) (by omega)]
 simp only[show decide (0≤32-p.bits)=true from decide_eq_true (by omega),if_true]
 have hk:min (32-p.bits).toNat 32=kOf p:=by unfold kOf;omega
 rw[hk,Int.one_mul]
 have hp:=Z1H (kOf p)
 have hl:=Z60 (TD h)
 have e:((2:Int) ^ kOf p)=pw (kOf p):=by unfold pw;simp
 rw[e]
 congr 1
 by_cases hz:pw (kOf p)=4294967296
 ·rw[hz];decide
 ·have e1:Xz (pw (kOf p))=pw (kOf p):=VT (by omega) (by omega)
  rw[e1,VT (by omega) (by omega)]
theorem Z8j {p:Yc} (h:WR p):Q8 p=some true:=by
 have h0:=h.b0;have h1:=h.b1
 simp[Q8,h0,h1]
theorem Uw {p:Yc} (h:WR p):0≤X1 p∧X1 p≤p.addr∧p.addr≤Xj p∧Xj p<4294967296:=by
 have hp:=Z1H (kOf p)
 have hm:=Int.emod_nonneg p.addr (by omega:pw (kOf p)≠0)
 have hm2:=Int.emod_lt_of_pos p.addr hp
 have hd:=Int.mul_ediv_add_emod p.addr (pw (kOf p))
 have a0:=h.a0;have a1:=h.a1
 refine⟨?_, ?_, ?_, ?_⟩
 ·unfold X1
  have:=Int.ediv_nonneg a0 (by omega:0≤pw (kOf p))
  have:=Int.mul_nonneg (by omega:0≤pw (kOf p)) this
  omega
 ·unfold X1;omega
 ·unfold Xj;omega
 ·have:=Zbv (x:=p.addr) (k:=kOf p) a0 a1 (TD h)
  have hw:Y2 .u32 p.addr ((2 ^ kOf p-1:Nat):Int) <4294967296:=by
   unfold Y2 IntKind.wrap
   simp[IntKind.signed,IntKind.bits]
   omega
  unfold Xj pw
  omega
def WS (p:Yc) (a:Int):Prop:=X1 p≤a∧a≤Xj p
theorem ZhK {p:Yc} {a:Int} :p.addr / pw (kOf p)=a / pw (kOf p)↔WS p a:=by
 have hp:=Z1H (kOf p)
 have hd:=Int.mul_ediv_add_emod p.addr (pw (kOf p))
 have hd2:=Int.mul_ediv_add_emod a (pw (kOf p))
 have hm:=Int.emod_nonneg a (by omega:pw (kOf p)≠0)
 have hm2:=Int.emod_lt_of_pos a hp
 unfold WS X1 Xj
 constructor
 ·intro h;rw[←h]at hd2;omega
 ·rintro ⟨h1,h2⟩
  have e1:p.addr-p.addr % pw (kOf p)=pw (kOf p) * (p.addr / pw (kOf p)):=by omega
  rw[e1]at h1 h2
  have g1:p.addr / pw (kOf p)≤a / pw (kOf p):=by
   rw[Int.le_ediv_iff_mul_le hp,Int.mul_comm];exact h1
  have g2:a / pw (kOf p) <p.addr / pw (kOf p)+1:=by
   rw[Int.ediv_lt_iff_lt_mul hp,Int.add_mul,Int.mul_comm];omega
  omega
theorem ZhL {p:Yc} {a:Int} (h:WR p) (h0:0≤a) (h1:a<4294967296):Z2P p a=some (decide (WS p a)):=by
 have:=Zh2 (x:=p.addr) (y:=a) (k:=kOf p) h.a0 h.a1 h0 h1 (TD h)
 have e:((2 ^ kOf p-1:Nat):Int)=pw (kOf p) -1:=by unfold pw;have:=Nat.two_pow_pos (kOf p);omega
 rw[e]at this
 simp only[Z2P,Z8j h,Z8i h,Option.bind_some,if_true,Ze]
 exact Yw (this.trans ZhK)

/-! ### Leaks, and what an interface sees -/
section
variable {n:Z2}
def Z1I (n:Z2) (a b:Int):Prop:=a=b∨(Z0 n.vrfs a).dev=(Z0 n.vrfs b).dev∧∃t∈(Z0 n.vrfs a).exports,t∈(Z0 n.vrfs b).imports
theorem ZhM (hs:SmN n) (hr:ZM n) {a b:Int} (ha:inL n.vrfs a) (hb:inL n.vrfs b):Z2R n a b=some (decide (Z1I n a b)):=by
 have a0:¬a<0:=by have:=ha.1;omega
 have b0:¬b<0:=by have:=hb.1;omega
 have a1:¬(n.vrfs.length:Int)≤a:=by have:=ha.2;omega
 have b1:¬(n.vrfs.length:Int)≤b:=by have:=hb.2;omega
 have fi:=hs.imports _ (ZR hb)
 have fe:=hs.exports _ (ZR ha)
 have hc:Z2Q (Z0 n.vrfs a).exports (Z0 n.vrfs b)=some (decide (∃t∈(Z0 n.vrfs a).exports,t∈(Z0 n.vrfs b).imports)):=by
  unfold Z2Q Z59
  rw[Uo (Z0 n.vrfs a).exports (fun t=>t∈(Z0 n.vrfs b).imports) fe (fun i h0 h1 h2=>by
   simp (disch:=omega) only[Z0U,Z58,Z3Y fi,h1,Zb h2,Zc,Zh,Option.bind_some,Zi,Zj,Zk,Zl,Zm,Zn,Zo,Zp,Ze,Zd,decide_eq_true_eq,Zq,ge_iff_le,gt_iff_lt,Zr,Bool.false_eq_true,decide_false,decide_true,if_true]
   exact WO Iff.rfl) (by simp[Z0U])]
  simp only[Zh,Option.bind_some,Zi,Zj,Zk,Zl,Zm,Zn,Zo,Zp,Ze,Zd,decide_eq_true_eq,Zq,ge_iff_le,gt_iff_lt,Zr,Bool.false_eq_true,decide_false]
  refine Yw ?_
  have:=Tq (l:=(Z0 n.vrfs a).exports) (P:=fun t=>t∈(Z0 n.vrfs b).imports)
  constructor
  ·intro h
   apply Classical.byContradiction
   intro hn
   have:=this.2 (fun y hy e=>hn ⟨y,hy,e⟩);omega
  ·rintro ⟨t,h1,h2⟩
   apply Classical.byContradiction
   intro hn
   exact this.1 (by omega) t h1 h2
 simp only[Z2R,a0,b0,a1,b1,Wc hs,hr,Zb ha,Zb hb,hc,Zh,Option.bind_some,Zi,Zj,Zk,Zl,Zm,Zn,Zo,Zp,Ze,Zd,decide_eq_true_eq,Zq,ge_iff_le,gt_iff_lt,Zr,Bool.false_eq_true,decide_false,decide_true,if_false,Bool.not_true]
 exact Yw (by unfold Z1I;simp)

noncomputable def XN (n:Z2) (i:Int):Int:=(Z0 n.domains (Z0 n.irbs i).domain).dev
theorem ZM.irb (hr:ZM n) {i:Int} (hi:inL n.irbs i):Us n i (Z0 n.irbs i):=hr.irbs i hi
theorem Z61 (hr:ZM n) {i:Int} (hi:inL n.irbs i):UL n i=some (XN n i):=by
 simp only[UL,Zb hi,Zb (hr.irb hi).1,Option.bind_some];rfl
def Z8k (n:Z2) (irb i:Int):Prop:=XN n irb=XN n i∧Z1I n (Z0 n.irbs i).vrf (Z0 n.irbs irb).vrf
theorem ZhN (hs:SmN n) (hr:ZM n) {irb i:Int} (h1:inL n.irbs irb) (h2:inL n.irbs i):Z2S n irb i=some (decide (Z8k n irb i)):=by
 simp only[Z2S,Z61 hr h1,Z61 hr h2,Zb h1,Zb h2,ZhM hs hr (hr.irb h2).2.1 (hr.irb h1).2.1,Zh,Option.bind_some,Zi,Zj,Zk,Zl,Zm,Zn,Zo,Zp,Ze,Zd,decide_eq_true_eq,Zq,ge_iff_le,gt_iff_lt,Zr,Bool.false_eq_true,decide_false]
 exact Yw Iff.rfl

theorem Ux (ho:n.Ok) (hr:ZM n) {i:Int} (hi:inL n.irbs i):WR (Z0 n.irbs i).net∧1≤(Z0 n.irbs i).net.bits∧(Z0 n.irbs i).net.bits≤30:=by
 have h:=(hr.irb hi).2.2.2.2
 have h2:okI .u32 (Z0 n.irbs i).net.addr:=(ho.2.2.2.2.2.2.2.1.2 _ (ZR hi)).2.2.2.1.1
 simp[okI,IntKind.min,IntKind.max,IntKind.signed,IntKind.bits]at h2
 exact⟨⟨by omega,by omega,by omega,by omega⟩,h.1,h.2⟩

/-! ### Where an address is led -/
noncomputable def Xd (n:Z2) (irb i:Int):Int:=2 * (Z0 n.irbs i).net.bits+if(Z0 n.irbs i).vrf=(Z0 n.irbs irb).vrf then 1 else 0
theorem ZhO {a b irb:Int} (hr:ZM n) (ha:inL n.irbs a) (hb:inL n.irbs b) (hi:inL n.irbs irb):∃r,Z2U a b n n irb=some r∧(r>0↔Xd n irb b<Xd n irb a):=by
 have h1:=(hr.irb ha).2.2.2.2
 have h2:=(hr.irb hb).2.2.2.2
 simp only[Z2U,Z2T,Zb ha,Zb hb,Zb hi,Zh,Option.bind_some,Zi,Zj,Zk,Zl,Zm,Zn,Zo,Zp,Ze,Zd,decide_eq_true_eq,Zq,ge_iff_le,gt_iff_lt,Zr,Bool.false_eq_true,decide_false]
 by_cases hn:(Z0 n.irbs a).net.bits=(Z0 n.irbs b).net.bits
 ·simp only[hn,ne_eq,not_true_eq_false,if_false,if_true]
  by_cases c1:(Z0 n.irbs a).vrf=(Z0 n.irbs irb).vrf <;> by_cases c2:(Z0 n.irbs b).vrf=(Z0 n.irbs irb).vrf <;> simp only[c1,c2,if_true,if_false,Option.bind_some] <;> refine⟨_,rfl, ?_⟩ <;> rw[Zc (by omega) (by omega)] <;> unfold Xd <;> simp[c1,c2,hn] <;> omega
 ·simp only[hn,ne_eq,not_false_eq_true,if_true,if_false]
  refine⟨_,rfl, ?_⟩
  rw[Zc (by omega) (by omega)]
  unfold Xd
  split <;> split <;> omega

def ZbI (key:Int→Int) (l:List Int) (m:Int):Prop:=∃k,inL l k∧Z0 l k=m∧∀j,inL l j→key (Z0 l j)≤key m∧(j<k→key (Z0 l j) <key m)
theorem ZhP {l:List Int} {irb:Int} (hr:ZM n) (hl:Few l) (h0:0<l.length) (hall:∀x∈l,inL n.irbs x) (hi:inL n.irbs irb):∃m,Z2V l n n irb=some m∧ZbI (Xd n irb) l m:=by
 have hz:inL l 0:=⟨by omega,by omega⟩
 have g0:¬(l.length:Int) <1:=by omega
 simp only[Z2V,g0,Zb hz,Zh,Option.bind_some,Zi,Zj,Zk,Zl,Zm,Zn,Zo,Zp,Ze,Zd,decide_eq_true_eq,Zq,ge_iff_le,gt_iff_lt,Zr,Bool.false_eq_true,decide_false,if_false]
 obtain⟨r,hr2,hq⟩:=XE (f:=fun s:Int×Int=>match s with|(v8,v9)=>Qa l n n irb v8 v9)
  (fun s=>1≤s.2∧s.2≤l.length∧∃k,inL l k∧k<s.2∧Z0 l k=s.1∧∀j,inL l j→j<s.2→Xd n irb (Z0 l j)≤Xd n irb s.1∧(j<k→Xd n irb (Z0 l j) <Xd n irb s.1))
  (fun m=>ZbI (Xd n irb) l m) (fun s=>(l.length-s.2).toNat) (s:=(Z0 l 0,1)) (fun s hs=>by
   obtain⟨m,i⟩:=s
   obtain⟨h1,h2,k,hk,hki,hm,hall2⟩:=hs
   simp only at h1 h2 hki hm hall2⊢
   by_cases hlt:i<l.length
   ·have hii:inL l i:=⟨by omega,hlt⟩
    have hmI:inL n.irbs m:=hm ▸hall _ (ZR hk)
    obtain⟨r,e1,e2⟩:=ZhO hr (hall _ (ZR hii)) hmI hi
    have hw:=Zc (n:=i+1) (by omega) (by omega)
    simp only[Qa,hlt,Zb hii,e1,hw,Zh,Option.bind_some,Zi,Zj,Zk,Zl,Zm,Zn,Zo,Zp,Ze,Zd,decide_eq_true_eq,Zq,ge_iff_le,gt_iff_lt,Zr,Bool.false_eq_true,decide_false,decide_true,if_true]
    by_cases hg:Xd n irb m<Xd n irb (Z0 l i)
    ·rw[if_pos (e2.2 hg)]
     refine⟨_,rfl,⟨by omega,by omega,i,hii,by omega,rfl,fun j hj hjl=> ?_⟩,by omega⟩
     simp only at hjl⊢
     by_cases hji:j=i
     ·subst hji;exact⟨Int.le_refl _,fun h=>by omega⟩
     ·have:=(hall2 j hj (by omega)).1
      exact⟨by omega,fun _=>by omega⟩
    ·rw[if_neg (fun h=>hg (e2.1 h))]
     refine⟨_,rfl,⟨by omega,by omega,k,hk,by omega,hm,fun j hj hjl=> ?_⟩,by omega⟩
     simp only at hjl⊢
     by_cases hji:j=i
     ·subst hji;exact⟨by omega,fun h=>by omega⟩
     ·exact hall2 j hj (by omega)
   ·have:i=l.length:=by omega
    subst this
    refine⟨.inr m,by simp[Qa],k,hk,hm,fun j hj=> ?_⟩
    exact hall2 j hj hj.2) ⟨by simp,by simp;omega,0,hz,by simp,rfl,fun j hj hjl=>by
     simp only at hjl
     have:j=0:=by have:=hj.1;omega
     subst this;exact⟨Int.le_refl _,fun h=>by omega⟩⟩ (by simp only;unfold Few at hl;omega)
 exact⟨r,by rw[hr2];rfl,hq⟩

def Z46 (n:Z2) (irb x:Int):Prop:=∃i,inL n.irbs i∧(XN n i=XN n irb∧(Z0 n.irbs i).net.addr=x)
def Wu (n:Z2) (irb x i:Int):Prop:=WS (Z0 n.irbs i).net x∧Z8k n irb i
structure TE (n:Z2) (irb x m:Int):Prop where
 own:¬Z46 n irb x
 im:inL n.irbs m
 cand:Wu n irb x m
 best:∀j,inL n.irbs j→Wu n irb x j→Xd n irb j≤Xd n irb m∧(j<m→Xd n irb j<Xd n irb m)
def Z47 (n:Z2) (irb x:Int):Prop:=Z46 n irb x∨∀j,inL n.irbs j→¬Wu n irb x j

theorem ZhQ (ho:n.Ok) (hs:SmN n) (hr:ZM n) {irb x:Int} (hi:inL n.irbs irb) (x0:0≤x) (x1:x<4294967296):
  ∃r,Z2W n irb x=some r∧((r=(0,false)∧Z47 n irb x)∨∃m,r=(m,true)∧TE n irb x m):=by
 have hf:=hs.irbs
 have hcand:∀y,y∈XT n.irbs (fun i _=>Wu n irb x i) (fun i _=>i)↔inL n.irbs y∧Wu n irb x y:=by
  intro y
  rw[Z3V]
  constructor
  ·rintro ⟨i,h1,h2,rfl⟩;exact⟨h1,h2⟩
  ·rintro ⟨h1,h2⟩;exact⟨y,h1,h2,rfl⟩
 unfold Z2W
 rw[ZhJ n.irbs (fun i y=>XN n i=XN n irb∧y.net.addr=x) (fun i _=>Wu n irb x i) (fun i _=>i) hf (fun i s h0 h1 h2 h3=>by
  have h5:ZZ 8 (s++ [i])=true:=X5 (by simp;omega)
  have hP:=(Ux ho hr h2).1
  simp (disch:=omega) only[Z0V,Z5a,h1,Zb h2,Z61 hr h2,Z61 hr hi,ZhL hP x0 x1,ZhN hs hr hi h2,h5,Zc,Zh,Option.bind_some,Zi,Zj,Zk,Zl,Zm,Zn,Zo,Zp,Ze,Zd,decide_eq_true_eq,Zq,ge_iff_le,gt_iff_lt,Zr,Bool.false_eq_true,decide_false,XF,XG,XH,XI,XJ,XK,XL,decide_true,if_true]
  unfold Wu
  by_cases c1:XN n i=XN n irb∧(Z0 n.irbs i).net.addr=x
  ·simp[c1]
  ·simp only[c1,if_false]
   by_cases c2:WS (Z0 n.irbs i).net x <;> by_cases c3:Z8k n irb i <;> simp[c2,c3]) (fun s=>by simp[Z0V])]
 by_cases hown:Z46 n irb x
 ·have hown':∃i,inL n.irbs i∧(XN n i=XN n irb∧(Z0 n.irbs i).net.addr=x):=hown
  rw[if_pos hown']
  exact⟨_,rfl, .inl ⟨rfl, .inl hown⟩⟩
 ·have hown':¬∃i,inL n.irbs i∧(XN n i=XN n irb∧(Z0 n.irbs i).net.addr=x):=hown
  rw[if_neg hown']
  simp only[Option.bind_some,Ze,decide_eq_true_eq]
  have hsort:=ZhI (l:=n.irbs) (P:=fun i _=>Wu n irb x i)
  have hlen:=Z1G (l:=n.irbs) (P:=fun i _=>Wu n irb x i) (e:=fun i _=>i)
  generalize XT n.irbs (fun i _=>Wu n irb x i) (fun i _=>i)=l at *
  by_cases hl:(l.length:Int)=0
  ·rw[if_pos hl]
   refine⟨_,rfl, .inl ⟨rfl, .inr fun j hj hc=> ?_⟩⟩
   have:=(hcand j).2 ⟨hj,hc⟩
   rw[List.eq_nil_of_length_eq_zero (by omega:l.length=0)]at this
   cases this
  ·rw[if_neg hl]
   obtain⟨m,hm,k,hk,rfl,hbest⟩:=ZhP (n:=n) (irb:=irb) hr (by unfold Few at hf⊢;omega) (by omega) (fun y hy=>((hcand y).1 hy).1) hi
   rw[hm]
   have hmem:=(hcand _).1 (ZR hk)
   refine⟨_,rfl, .inr ⟨_,rfl,hown,hmem.1,hmem.2,fun j hj hc=> ?_⟩⟩
   obtain⟨q,hq,rfl⟩:=W0 ((hcand j).2 ⟨hj,hc⟩)
   refine⟨(hbest q hq).1,fun hlt=>(hbest q hq).2 ?_⟩
   apply Classical.byContradiction
   intro hn
   have hk0:=hk.1;have hq0:=hq.1;have hq1:=hq.2;have hk1:=hk.2
   by_cases e:q=k
   ·subst e;omega
   ·have:=List.pairwise_iff_getElem.1 hsort k.toNat q.toNat (by omega) (by omega) (by omega)
    have e1:=(List.getElem?_eq_some_iff.1 (Y8 hk)).2
    have e2:=(List.getElem?_eq_some_iff.1 (Y8 hq)).2
    rw[e1,e2]at this
    omega

theorem ZhR (ho:n.Ok) (hs:SmN n) {irb x:Int} (x0:0≤x) (x1:x<4294967296):
  ∃r,UM n irb x=some r∧((r=(0,false)∧(ZM n→inL n.irbs irb→Z47 n irb x))∨∃m,r=(m,true)∧ZM n∧inL n.irbs irb∧TE n irb x m):=by
 by_cases hi:inL n.irbs irb
 case neg=>
  have:irb<0∨(n.irbs.length:Int)≤irb:=by unfold inL at hi;omega
  refine⟨(0,false), ?_, .inl ⟨rfl,fun _ h=>absurd h hi⟩⟩
  rcases this with h|h
  ·simp[UM,h]
  ·simp only[UM,Zh,Option.bind_some,Zi,Zj,Zk,Zl,Zm,Zn,Zo,Zp,Ze,Zd,decide_eq_true_eq,Zq,ge_iff_le,gt_iff_lt,Zr,Bool.false_eq_true,decide_false,h];simp
 have a0:¬irb<0:=by have:=hi.1;omega
 have a1:¬(n.irbs.length:Int)≤irb:=by have:=hi.2;omega
 by_cases hr:ZM n
 case neg=>exact⟨(0,false),by simp only[UM,a0,a1,Wc hs,hr,Zh,Option.bind_some,Zi,Zj,Zk,Zl,Zm,Zn,Zo,Zp,Ze,Zd,decide_eq_true_eq,Zq,ge_iff_le,gt_iff_lt,Zr,Bool.false_eq_true,decide_false];simp, .inl ⟨rfl,fun h=>absurd h hr⟩⟩
 obtain⟨r,h1,h2⟩:=ZhQ ho hs hr hi x0 x1
 refine⟨r, ?_, ?_⟩
 ·simp only[UM,a0,a1,Wc hs,hr,h1,Zh,Option.bind_some,Zi,Zj,Zk,Zl,Zm,Zn,Zo,Zp,Ze,Zd,decide_eq_true_eq,Zq,ge_iff_le,gt_iff_lt,Zr,Bool.false_eq_true,decide_false];simp
 ·rcases h2 with⟨e,h⟩|⟨m,e,h⟩
  ·exact .inl ⟨e,fun _ _=>h⟩
  ·exact .inr ⟨m,e,hr,hi,h⟩

end
end Go.Eng

set_option linter.unusedVariables false
set_option linter.unusedSectionVars false
set_option linter.unusedSimpArgs false
namespace Go.Eng
open Go Classical
attribute [local congr] Yl

theorem Z8l {p:Yc} (h:WR p):Qz p=some true:=by
 have:=h.b0;have:=h.b1
 simp only[Qz,Zh,Option.bind_some,Zi,Zj,Zk,Zl,Zm,Zn,Zo,Zp,Ze,Zd,decide_eq_true_eq,Zq,ge_iff_le,gt_iff_lt,Zr,Bool.false_eq_true,decide_false]
 rw[decide_eq_true ⟨by omega,by omega⟩]
theorem ZhS (k:Nat):pw (k+1)=pw k * 2:=by unfold pw;rw[Nat.pow_succ];simp
theorem ZbJ {p:Yc} (h:WR p):QB p=some (pw (kOf p)):=by
 have b0:=h.b0;have b1:=h.b1
 have hk:=TD h
 have hkb:(kOf p:Int)=32-p.bits:=by unfold kOf;omega
 have:=Xu (f:=fun s:Int×Int=>match s with|(v2,v3)=>QA v2 v3) (r:=pw (kOf p)) (fun i=>(pw i,p.bits+(i:Int))) (kOf p) (by omega) (fun i hi=>by
  have h1:=Z1H i
  have h2:=Z60 (k:=i) (by omega)
  have e1:=Zc (n:=pw i * 2) (by omega) (by omega)
  have e2:=Zc (n:=p.bits+(i:Int)+1) (by omega) (by omega)
  have hlt:p.bits+(i:Int) <32:=by omega
  simp only[QA,hlt,decide_true,if_true,e1,e2]
  rw[ZhS]
  simp[Int.add_assoc]) (by
  have hn:¬p.bits+(kOf p:Int) <32:=by omega
  simp[QA,hn])
 have e0:(pw 0,p.bits+((0:Nat):Int))=((1:Int),p.bits):=by simp[pw]
 rw[e0]at this
 simp only[QB,this,Option.bind_some]
theorem Z8m {p:Yc} (h:WR p):QC p=some (X1 p):=by
 have h1:=Uw h
 have hp:=Z1H (kOf p)
 have hq:=Z60 (TD h)
 have ha0:=h.a0;have ha1:=h.a1
 have hd:p.addr / pw (kOf p) * pw (kOf p)=X1 p:=by
  unfold X1
  have:=Int.emod_add_mul_ediv p.addr (pw (kOf p))
  rw[Int.mul_comm]at this
  omega
 have e1:=Zc (n:=p.addr) (by omega) (by omega)
 have hdiv:Int.tdiv p.addr (pw (kOf p))=p.addr / pw (kOf p):=Int.tdiv_eq_ediv_of_nonneg (by omega)
 have hd0:0≤p.addr / pw (kOf p):=Int.ediv_nonneg (by omega) (by omega)
 have hd1:p.addr / pw (kOf p)≤p.addr:=Int.ediv_le_self _ (by omega)
 have e2:=Zc (n:=p.addr / pw (kOf p)) (by omega) (by omega)
 have e3:=Zc (n:=X1 p) (by omega) (by omega)
 have e4:=VT (n:=X1 p) (by omega) (by omega)
 have hne:¬pw (kOf p)=0:=by omega
 simp only[QC,Z8l h,ZbJ h,Zh,Option.bind_some,Zi,Zj,Zk,Zl,Zm,Zn,Zo,Zp,Ze,Zd,decide_eq_true_eq,Zq,ge_iff_le,gt_iff_lt,Zr,Bool.false_eq_true,decide_false,Bool.not_true,hne,ne_eq,not_false_eq_true,if_true,e1,hdiv,e2,hd,e3,e4,if_false]
theorem ZbK {p:Yc} (h:WR p):Z1h p=some (Xj p):=by
 have h1:=Uw h
 have hp:=Z1H (kOf p)
 have hq:=Z60 (TD h)
 have hl:Xj p=X1 p+(pw (kOf p) -1):=rfl
 have e1:=Zc (n:=X1 p) (by omega) (by omega)
 have e2:=Zc (n:=X1 p+pw (kOf p)) (by omega) (by omega)
 have e3:=Zc (n:=X1 p+pw (kOf p) -1) (by omega) (by omega)
 have e4:=VT (n:=X1 p+pw (kOf p) -1) (by omega) (by omega)
 simp only[Z1h,Z8l h,ZbJ h,Z8m h,Zh,Option.bind_some,Zi,Zj,Zk,Zl,Zm,Zn,Zo,Zp,Ze,Zd,decide_eq_true_eq,Zq,ge_iff_le,gt_iff_lt,Zr,Bool.false_eq_true,decide_false,Bool.not_true,if_false,e1,e2,e3,e4]
 congr 1;omega
theorem ZhT {p:Yc} {a:Int} (h:WR p):Z3n p a=some (decide (WS p a)):=by
 simp only[Z3n,Z8l h,Z8m h,ZbK h,Zh,Option.bind_some,Zi,Zj,Zk,Zl,Zm,Zn,Zo,Zp,Ze,Zd,decide_eq_true_eq,Zq,ge_iff_le,gt_iff_lt,Zr,Bool.false_eq_true,decide_false,if_true]
 exact Yw (by unfold WS;simp)

section
variable {n:Z2}
theorem ZbL (hr:ZM n) {i:Int} (hi:inL n.irbs i):Z1i n i=some (XN n i):=by
 simp only[Z1i,Zb hi,Zb (hr.irb hi).1,Option.bind_some];rfl
theorem ZhU (hs:SmN n) {a b:Int} (ha:inL n.vrfs a) (hb:inL n.vrfs b):Z3o n a b=some (decide (Z1I n a b)):=by
 have fi:=hs.imports _ (ZR hb)
 have fe:=hs.exports _ (ZR ha)
 simp only[Z3o,W5,ha,hb,Zh,Option.bind_some,Zi,Zj,Zk,Zl,Zm,Zn,Zo,Zp,Ze,Zd,decide_eq_true_eq,Zq,ge_iff_le,gt_iff_lt,Zr,Bool.false_eq_true,decide_false,Bool.not_true,if_false,decide_true]
 rw[YD (f:=QD n a b) (Z0 n.vrfs a).exports (fun _ t=>¬((Z0 n.vrfs a).dev=(Z0 n.vrfs b).dev∧t∈(Z0 n.vrfs b).imports)) (.inl ()) (.inr ()) fe (fun i h0 h1 h2=>by
  simp (disch:=omega) only[QD,Zb ha,Zb hb,h1,Zb h2,TB fi,Zc,Zh,Option.bind_some,Zi,Zj,Zk,Zl,Zm,Zn,Zo,Zp,Ze,Zd,decide_eq_true_eq,Zq,ge_iff_le,gt_iff_lt,Zr,Bool.false_eq_true,decide_false,XF,XG,XH,XI,XJ,XK,XL,decide_true,if_true]
  by_cases c1:(Z0 n.vrfs a).dev=(Z0 n.vrfs b).dev <;> by_cases c2:Z0 (Z0 n.vrfs a).exports i∈(Z0 n.vrfs b).imports <;> simp[c1,c2]) (by simp[QD,Zb ha])]
 have hk:Y9 (Z0 n.vrfs a).exports (fun _ t=>¬((Z0 n.vrfs a).dev=(Z0 n.vrfs b).dev∧t∈(Z0 n.vrfs b).imports))↔¬((Z0 n.vrfs a).dev=(Z0 n.vrfs b).dev∧∃t∈(Z0 n.vrfs a).exports,t∈(Z0 n.vrfs b).imports):=by
  rw[Z1F]
  constructor
  ·rintro h ⟨h1,t,h2,h3⟩;exact h t h2 ⟨h1,h3⟩
  ·rintro h t h2 ⟨h1,h3⟩;exact h ⟨h1,t,h2,h3⟩
 unfold Z1I
 by_cases e:a=b
 ·simp[e]
 ·by_cases h:Y9 (Z0 n.vrfs a).exports (fun _ t=>¬((Z0 n.vrfs a).dev=(Z0 n.vrfs b).dev∧t∈(Z0 n.vrfs b).imports))
  ·rw[if_pos h]
   have:=hk.1 h
   simp only[e,if_false,false_or,Option.bind_some,this,decide_false]
  ·rw[if_neg h]
   have:=Classical.not_not.1 (fun g=>h (hk.2 g))
   simp only[e,if_false,false_or,Option.bind_some]
   rw[decide_eq_true this]

def Z8n (n:Z2) (irb x i m:Int):Prop:=
 (m= -1∧∀j,inL n.irbs j→j<i→¬Wu n irb x j)∨
 (inL n.irbs m∧m<i∧Wu n irb x m∧∀j,inL n.irbs j→j<i→Wu n irb x j→Xd n irb j≤Xd n irb m∧(j<m→Xd n irb j<Xd n irb m))
theorem ZhV (hr:ZM n) {irb a b:Int} (hi:inL n.irbs irb) (ha:inL n.irbs a) (hb:inL n.irbs b):Z3p n irb a b=some (decide (Xd n irb b<Xd n irb a)):=by
 simp only[Z3p,Zb hi,Zb ha,Zb hb,Zh,Option.bind_some,Zi,Zj,Zk,Zl,Zm,Zn,Zo,Zp,Ze,Zd,decide_eq_true_eq,Zq,ge_iff_le,gt_iff_lt,Zr,Bool.false_eq_true,decide_false]
 by_cases h:(Z0 n.irbs a).net.bits=(Z0 n.irbs b).net.bits
 ·by_cases c1:(Z0 n.irbs a).vrf=(Z0 n.irbs irb).vrf <;> by_cases c2:(Z0 n.irbs b).vrf=(Z0 n.irbs irb).vrf <;> simp[c1,c2,Xd,h] <;> try omega
 ·by_cases c1:(Z0 n.irbs a).vrf=(Z0 n.irbs irb).vrf <;> by_cases c2:(Z0 n.irbs b).vrf=(Z0 n.irbs irb).vrf <;> simp[c1,c2,Xd,h] <;> omega
theorem ZhW (ho:n.Ok) (hs:SmN n) (hr:ZM n) {irb x:Int} (hi:inL n.irbs irb):
  ∃r,Z3q n irb x=some r∧((r=(0,false)∧Z47 n irb x)∨∃m,r=(m,true)∧TE n irb x m):=by
 have hf:=hs.irbs
 obtain⟨q,h1,h2⟩:=XE (f:=fun s:Int×Int=>match s with|(v7,v8)=>QE n irb x v7 v8)
  (fun s=>0≤s.2∧s.2≤n.irbs.length∧Z8n n irb x s.2 s.1∧∀j,inL n.irbs j→j<s.2→¬(XN n j=XN n irb∧(Z0 n.irbs j).net.addr=x))
  (fun r=>match r with| .inl _=>Z46 n irb x| .inr m=>Z8n n irb x n.irbs.length m∧¬Z46 n irb x) (fun s=>(n.irbs.length-s.2).toNat) (s:=(-1,0)) (fun s hI=>by
   obtain⟨m,i⟩:=s
   obtain⟨h0,h1,hb,hn⟩:=hI
   simp only at h0 h1 hb hn⊢
   by_cases hlt:i<n.irbs.length
   ·have hii:inL n.irbs i:=⟨h0,hlt⟩
    have hP:=(Ux ho hr hii).1
    have hw:=Zc (n:=i+1) (by omega) (by unfold Few at hf;omega)
    have skip:¬Wu n irb x i→Z8n n irb x (i+1) m:=fun hc=>by
     rcases hb with⟨e,h⟩|⟨a1,a2,a3,a4⟩
     ·exact .inl ⟨e,fun j hj hji=>by by_cases e:j=i;subst e;exact hc;exact h j hj (by omega)⟩
     ·exact .inr ⟨a1,by omega,a3,fun j hj hji hc'=>by by_cases e:j=i;subst e;exact absurd hc' hc;exact a4 j hj (by omega) hc'⟩
    have own1:¬(XN n i=XN n irb∧(Z0 n.irbs i).net.addr=x)→∀j,inL n.irbs j→j<i+1→¬(XN n j=XN n irb∧(Z0 n.irbs j).net.addr=x):=fun h j hj hji=>by
     by_cases e:j=i;subst e;exact h;exact hn j hj (by omega)
    simp only[QE,hlt,Zb hii,Zb hi,ZbL hr hii,ZbL hr hi,ZhT hP,ZhU hs (hr.irb hii).2.1 (hr.irb hi).2.1,hw,Zh,Option.bind_some,Zi,Zj,Zk,Zl,Zm,Zn,Zo,Zp,Ze,Zd,decide_eq_true_eq,Zq,ge_iff_le,gt_iff_lt,Zr,Bool.false_eq_true,decide_false,decide_true,if_true]
    by_cases c1:XN n i=XN n irb
    case neg=>
     refine⟨_,if_neg c1,⟨by omega,by omega,skip (fun h=>c1 h.2.1.symm),own1 (fun h=>c1 h.1)⟩,by omega⟩
    rw[if_pos c1]
    by_cases c2:(Z0 n.irbs i).net.addr=x
    ·refine⟨_,if_pos c2,i,hii,c1,c2⟩
    rw[if_neg c2]
    by_cases c3:WS (Z0 n.irbs i).net x
    case neg=>refine⟨_,if_neg c3,⟨by omega,by omega,skip (fun h=>c3 h.1),own1 (fun h=>c2 h.2)⟩,by omega⟩
    rw[if_pos c3]
    by_cases c4:Z1I n (Z0 n.irbs i).vrf (Z0 n.irbs irb).vrf
    case neg=>refine⟨_,if_neg c4,⟨by omega,by omega,skip (fun h=>c4 h.2.2),own1 (fun h=>c2 h.2)⟩,by omega⟩
    rw[if_pos c4]
    have hc:Wu n irb x i:=⟨c3,c1.symm,c4⟩
    rcases hb with⟨e,h⟩|⟨a1,a2,a3,a4⟩
    ·refine⟨_,if_pos (by omega),⟨by omega,by omega, .inr ⟨hii,by omega,hc,fun j hj hji hc'=> ?_⟩,own1 (fun h=>c2 h.2)⟩,by omega⟩
     by_cases e:j=i
     ·subst e;exact⟨Int.le_refl _,fun h=>by omega⟩
     ·exact absurd hc' (h j hj (by omega))
    ·rw[if_neg (by have:=a1.1;omega),ZhV hr hi hii a1]
     simp only[Option.bind_some,decide_eq_true_eq]
     by_cases c5:Xd n irb m<Xd n irb i
     ·refine⟨_,if_pos c5,⟨by omega,by omega, .inr ⟨hii,by omega,hc,fun j hj hji hc'=> ?_⟩,own1 (fun h=>c2 h.2)⟩,by omega⟩
      by_cases e:j=i
      ·subst e;exact⟨Int.le_refl _,fun h=>by omega⟩
      ·have:=(a4 j hj (by omega) hc').1;simp only;exact⟨by omega,fun _=>by omega⟩
     ·refine⟨_,if_neg c5,⟨by omega,by omega, .inr ⟨a1,by omega,a3,fun j hj hji hc'=> ?_⟩,own1 (fun h=>c2 h.2)⟩,by omega⟩
      by_cases e:j=i
      ·subst e;simp only;exact⟨by omega,fun h=>by omega⟩
      ·exact a4 j hj (by omega) hc'
   ·have:i=n.irbs.length:=by omega
    subst this
    refine⟨.inr (.inr m),by simp[QE],hb, ?_⟩
    rintro ⟨j,hj,h⟩
    exact hn j hj hj.2 h) ⟨by simp,by simp, .inl ⟨rfl,fun j hj h=>by have:=hj.1;simp at h;omega⟩,fun j hj h=>by have:=hj.1;simp at h;omega⟩ (by simp only;unfold Few at hf;omega)
 simp only[Z3q,W5,hi,h1,Zh,Option.bind_some,Zi,Zj,Zk,Zl,Zm,Zn,Zo,Zp,Ze,Zd,decide_eq_true_eq,Zq,ge_iff_le,gt_iff_lt,Zr,Bool.false_eq_true,decide_false,decide_true,Bool.not_true,if_false]
 rcases q with u|m
 ·exact⟨_,rfl, .inl ⟨rfl, .inl h2⟩⟩
 ·obtain⟨hb,hno⟩:=h2
  rcases hb with⟨rfl,h⟩|⟨a1,a2,a3,a4⟩
  ·exact⟨_,by simp, .inl ⟨rfl, .inr fun j hj=>h j hj hj.2⟩⟩
  ·have:¬m<0:=by have:=a1.1;omega
   exact⟨(m,true),by simp[this], .inr ⟨m,rfl,hno,a1,a3,fun j hj hc=>a4 j hj hj.2 hc⟩⟩
end
end Go.Eng

set_option linter.unusedVariables false
set_option linter.unusedSectionVars false
set_option linter.unusedSimpArgs false
namespace Go.Eng
open Go Classical
attribute [local congr] Yl

theorem ZhX {p:Yc} (h:WR p):Z2O p=some (X1 p):=by
 have:=Zbw (x:=p.addr) (k:=kOf p) h.a0 h.a1 (TD h)
 have e:((2 ^ kOf p-1:Nat):Int)=pw (kOf p) -1:=by unfold pw;have:=Nat.two_pow_pos (kOf p);omega
 rw[e]at this
 simp only[Z2O,Z8j h,Z8i h,Option.bind_some,Bool.not_true,Bool.false_eq_true,if_false,this]
 rfl
theorem ZbM {p:Yc} (h:WR p):Z0T p=some (Xj p):=by
 have:=Zbv (x:=p.addr) (k:=kOf p) h.a0 h.a1 (TD h)
 have e:((2 ^ kOf p-1:Nat):Int)=pw (kOf p) -1:=by unfold pw;have:=Nat.two_pow_pos (kOf p);omega
 rw[e]at this
 simp only[Z0T,Z8j h,Z8i h,Option.bind_some,Bool.not_true,Bool.false_eq_true,if_false,this]
 rfl
section
variable {n:Z2}
/-! ### The address that is chosen -/
def Vt (n:Z2) (x:Int):Prop:=∃y∈n.irbs,y.net.addr=x
theorem ZbN {α:Type} [Inhabited α] {l:List α} {P:α→Prop} :0≤Y4 l P↔∃y∈l,P y:=by
 have:=Tq (l:=l) (P:=P)
 constructor
 ·intro h
  apply Classical.byContradiction
  intro hn
  have:=this.2 (fun y hy e=>hn ⟨y,hy,e⟩);omega
 ·rintro ⟨t,h1,h2⟩
  apply Classical.byContradiction
  intro hn
  exact this.1 (by omega) t h1 h2
theorem ZhY (hs:SmN n) {x:Int} :Z2X n.irbs x=some (decide (Vt n x)):=by
 unfold Z2X Z5c
 rw[Uo n.irbs (fun y=>y.net.addr=x) hs.irbs (fun i h0 h1 h2=>by
  have:=hs.irbs
  simp (disch:=omega) only[Z0W,Z5b,h1,Zb h2,Zc,Zh,Option.bind_some,Zi,Zj,Zk,Zl,Zm,Zn,Zo,Zp,Ze,Zd,decide_eq_true_eq,Zq,ge_iff_le,gt_iff_lt,Zr,Bool.false_eq_true,decide_false,decide_true,if_true]
  exact WO Iff.rfl) (by simp[Z0W])]
 simp only[Zh,Option.bind_some,Zi,Zj,Zk,Zl,Zm,Zn,Zo,Zp,Ze,Zd,decide_eq_true_eq,Zq,ge_iff_le,gt_iff_lt,Zr,Bool.false_eq_true,decide_false]
 exact Yw ZbN
theorem ZhZ (hs:SmN n) {x:Int} :Z2Y n.irbs x=some (decide (Vt n x)):=by
 unfold Z2Y Z5e
 rw[Uo n.irbs (fun y=>y.net.addr=x) hs.irbs (fun i h0 h1 h2=>by
  have:=hs.irbs
  simp (disch:=omega) only[Z0X,Z5d,h1,Zb h2,Zc,Zh,Option.bind_some,Zi,Zj,Zk,Zl,Zm,Zn,Zo,Zp,Ze,Zd,decide_eq_true_eq,Zq,ge_iff_le,gt_iff_lt,Zr,Bool.false_eq_true,decide_false,decide_true,if_true]
  exact WO Iff.rfl) (by simp[Z0X])]
 simp only[Zh,Option.bind_some,Zi,Zj,Zk,Zl,Zm,Zn,Zo,Zp,Ze,Zd,decide_eq_true_eq,Zq,ge_iff_le,gt_iff_lt,Zr,Bool.false_eq_true,decide_false]
 exact Yw ZbN

def YM (n:Z2) (irb to x:Int):Prop:=TE n irb x to∧¬Vt n x

theorem ZbO (ho:n.Ok) (hs:SmN n) (hr:ZM n) {x led:Int} (x0:0≤x) (x1:x<4294967296) (hl:¬Vt n x→inL n.irbs led):
  VH n x led=some (if Vt n x then x+1 else Xj (Z0 n.irbs led).net+1):=by
 simp only[VH,ZhZ hs,Zh,Option.bind_some,Zi,Zj,Zk,Zl,Zm,Zn,Zo,Zp,Ze,Zd,decide_eq_true_eq,Zq,ge_iff_le,gt_iff_lt,Zr,Bool.false_eq_true,decide_false]
 by_cases ht:Vt n x
 ·simp only[ht,if_true]
  have e1:Z4 x=x:=Zc (by omega) (by omega)
  rw[e1,Zc (by omega) (by omega)]
 ·have hi:=hl ht
  have hP:=(Ux ho hr hi).1
  have hb:=Uw hP
  simp only[ht,if_false,Zb hi,ZbM hP,Option.bind_some]
  have e1:Z4 (Xj (Z0 n.irbs led).net)=Xj (Z0 n.irbs led).net:=Zc (by omega) (by omega)
  rw[e1,Zc (by omega) (by omega)]

theorem Zi0 (ho:n.Ok) (hs:SmN n) {irb to:Int} :
  ∃r,Vi n irb to=some r∧((r=(0,false)∧(ZM n→inL n.irbs irb→inL n.irbs to→∀x,0≤x→x<4294967296→¬YM n irb to x))∨
   ∃a,r=(a,true)∧ZM n∧inL n.irbs irb∧inL n.irbs to∧0≤a∧a<4294967296∧YM n irb to a∧∀x,0≤x→x<a→¬YM n irb to x):=by
 by_cases hi:inL n.irbs irb
 case neg=>
  have:irb<0∨(n.irbs.length:Int)≤irb:=by unfold inL at hi;omega
  refine⟨(0,false), ?_, .inl ⟨rfl,fun _ h=>absurd h hi⟩⟩
  simp only[Vi,Zh,Option.bind_some,Zi,Zj,Zk,Zl,Zm,Zn,Zo,Zp,Ze,Zd,decide_eq_true_eq,Zq,ge_iff_le,gt_iff_lt,Zr,Bool.false_eq_true,decide_false,XF,XG,XH,XI,XJ,XK,XL]
  rw[if_pos (by omega)]
 by_cases ht:inL n.irbs to
 case neg=>
  have:to<0∨(n.irbs.length:Int)≤to:=by unfold inL at ht;omega
  refine⟨(0,false), ?_, .inl ⟨rfl,fun _ _ h=>absurd h ht⟩⟩
  simp only[Vi,Zh,Option.bind_some,Zi,Zj,Zk,Zl,Zm,Zn,Zo,Zp,Ze,Zd,decide_eq_true_eq,Zq,ge_iff_le,gt_iff_lt,Zr,Bool.false_eq_true,decide_false,XF,XG,XH,XI,XJ,XK,XL]
  rw[if_pos (by omega)]
 have a0:¬irb<0:=by have:=hi.1;omega
 have a1:¬(n.irbs.length:Int)≤irb:=by have:=hi.2;omega
 have b0:¬to<0:=by have:=ht.1;omega
 have b1:¬(n.irbs.length:Int)≤to:=by have:=ht.2;omega
 by_cases hr:ZM n
 case neg=>
  refine⟨(0,false), ?_, .inl ⟨rfl,fun h=>absurd h hr⟩⟩
  simp only[Vi,a0,a1,b0,b1,Wc hs,hr,Zh,Option.bind_some,Zi,Zj,Zk,Zl,Zm,Zn,Zo,Zp,Ze,Zd,decide_eq_true_eq,Zq,ge_iff_le,gt_iff_lt,Zr,Bool.false_eq_true,decide_false];simp
 have hP:=(Ux ho hr ht).1
 have hb:=Uw hP
 have good_in:∀x,YM n irb to x→X1 (Z0 n.irbs to).net≤x∧x≤Xj (Z0 n.irbs to).net:=fun x h=>h.1.cand.1
 simp only[Vi,a0,a1,b0,b1,Wc hs,hr,Zb ht,ZhX hP,ZbM hP,Zh,Option.bind_some,Zi,Zj,Zk,Zl,Zm,Zn,Zo,Zp,Ze,Zd,decide_eq_true_eq,Zq,ge_iff_le,gt_iff_lt,Zr,Bool.false_eq_true,decide_false,decide_true,Bool.not_true,if_false]
 rw[Zc (n:=X1 (Z0 n.irbs to).net) (by omega) (by omega)]
 obtain⟨r,e,hq⟩:=XE (f:=Qb n irb to (Xj (Z0 n.irbs to).net))
  (fun at_=>X1 (Z0 n.irbs to).net≤at_∧at_≤4294967296∧∀x,0≤x→x<at_→¬YM n irb to x)
  (fun r=>match r with| .inl a=>0≤a∧a<4294967296∧YM n irb to a∧(∀x,0≤x→x<a→¬YM n irb to x)| .inr ()=>∀x,0≤x→x<4294967296→¬YM n irb to x)
  (fun at_=>(4294967297-at_).toNat) (s:=X1 (Z0 n.irbs to).net) (fun at_ hI=>by
   obtain⟨hf,h1,hnone⟩:=hI
   have h0:0≤at_:=by omega
   by_cases hend:at_≤Xj (Z0 n.irbs to).net
   case neg=>
    refine⟨.inr (.inr ()), ?_,fun x hx0 hx1 hg=> ?_⟩
    ·simp only[Qb]
     rw[Zc (by omega) (by omega)]
     simp[hend]
    ·have:=good_in x hg
     exact hnone x hx0 (by omega) hg
   have hu:Xz at_=at_:=VT h0 (by omega)
   have hwl:Z4 (Xj (Z0 n.irbs to).net)=Xj (Z0 n.irbs to).net:=Zc (by omega) (by omega)
   obtain⟨r,hL,hcase⟩:=ZhR ho hs (irb:=irb) (x:=at_) h0 (by omega)
   simp only[Qb,hwl,hend,hu,hL,ZhY hs,decide_true,if_true,Option.bind_some]
   -- the step past an address
   have step:∀nx,at_<nx→nx≤4294967296→(∀x,at_≤x→x<nx→¬YM n irb to x)→
     (X1 (Z0 n.irbs to).net≤nx∧nx≤4294967296∧∀x,0≤x→x<nx→¬YM n irb to x)∧(4294967297-nx).toNat<(4294967297-at_).toNat:=by
    intro nx g1 g2 g3
    refine⟨⟨by omega,g2,fun x hx0 hx1=> ?_⟩,by omega⟩
    by_cases hlt:x<at_
    ·exact hnone x hx0 hlt
    ·exact g3 x (by omega) hx1
   by_cases htk:Vt n at_
   ·-- somebody's address
    have hp:=ZbO ho hs hr (x:=at_) (led:=r.1) h0 (by omega) (fun h=>absurd htk h)
    rw[if_pos htk]at hp
    have hs2:=step (at_+1) (by omega) (by omega) (fun x g1 g2 hg=>by
     have:x=at_:=by omega
     subst this;exact hg.2 htk)
    refine⟨.inl (at_+1), ?_,hs2⟩
    simp only[hp,htk,decide_true,Bool.not_true,Bool.false_eq_true,if_false,Option.bind_some]
    (repeat' split) <;> rfl
   ·rcases hcase with⟨rfl,hno⟩|⟨m,rfl,_,_,hled⟩
    ·-- nobody's, and led nowhere: the interface is not seen
     have hno:=hno hr hi
     refine⟨.inr (.inr ()),by simp[htk],fun x hx0 hx1 hg=> ?_⟩
     rcases hno with⟨j,hj,_,e⟩|hno
     ·exact htk ⟨_,ZR hj,e⟩
     ·exact hno to ht ⟨⟨hf,hend⟩,hg.1.cand.2⟩
    ·by_cases hmt:m=to
     ·subst hmt
      refine⟨.inr (.inl at_),by simp[htk],h0,by omega,⟨hled,htk⟩,hnone⟩
     ·have hPm:=(Ux ho hr hled.im).1
      have hbm:=Uw hPm
      have hp:=ZbO ho hs hr (x:=at_) (led:=m) h0 (by omega) (fun _=>hled.im)
      rw[if_neg htk]at hp
      have hs2:=step (Xj (Z0 n.irbs m).net+1) (by have:=hled.cand.1.2;omega) (by omega) (fun x g1 g2 hg=>by
       have hx:WS (Z0 n.irbs m).net x:=⟨by have:=hled.cand.1.1;omega,by omega⟩
       have hxm:=hg.1.best m hled.im ⟨hx,hled.cand.2⟩
       have hto:WS (Z0 n.irbs to).net at_:=⟨hf,hend⟩
       have hat:=hled.best to ht ⟨hto,hg.1.cand.2⟩
       rcases(by omega:m<to∨to<m)with hlt|hlt
       ·have:=hxm.2 hlt;omega
       ·have:=hat.2 hlt;omega)
      refine⟨.inl (Xj (Z0 n.irbs m).net+1), ?_,hs2⟩
      simp[htk,hmt,hp]) ⟨by omega,by omega,fun x hx0 hx1 hg=>by have:=good_in x hg;omega⟩ (by omega)
 rw[e]
 cases r with
 |inl a=>exact⟨_,rfl, .inr ⟨a,rfl,trivial,hi,ht,hq.1,hq.2.1,hq.2.2.1,hq.2.2.2⟩⟩
 |inr u=>exact⟨_,rfl, .inl ⟨rfl,fun _ _ _=>hq⟩⟩
end
end Go.Eng

set_option linter.unusedVariables false
set_option linter.unusedSectionVars false
set_option linter.unusedSimpArgs false
namespace Go.Eng
open Go Classical
attribute [local congr] Yl
section
variable {n:Z2}
theorem TE.one {irb x a b:Int} (h1:TE n irb x a) (h2:TE n irb x b):a=b:=by
 have u:=h1.best b h2.im h2.cand
 have v:=h2.best a h1.im h1.cand
 rcases(by omega:a<b∨a=b∨b<a)with h|h|h
 ·have:=v.2 h;omega
 ·exact h
 ·have:=u.2 h;omega
theorem Z47.not {irb x a:Int} (h:Z47 n irb x):¬TE n irb x a:=fun g=>by
 rcases h with h|h
 ·exact g.own h
 ·exact h a g.im g.cand

theorem Zi1 (hs:SmN n) {x:Int} :Z3r n x=some (decide (Vt n x)):=by
 have hf:=hs.irbs
 unfold Z3r
 rw[YD (f:=QF n x) n.irbs (fun _ y=>¬y.net.addr=x) (.inl ()) (.inr ()) hf (fun i h0 h1 h2=>by
  simp (disch:=omega) only[QF,h1,Zb h2,Zc,Zh,Option.bind_some,Zi,Zj,Zk,Zl,Zm,Zn,Zo,Zp,Ze,Zd,decide_eq_true_eq,Zq,ge_iff_le,gt_iff_lt,Zr,Bool.false_eq_true,decide_false,XF,XG,XH,XI,XJ,XK,XL,decide_true,if_true]
  by_cases c:(Z0 n.irbs i).net.addr=x <;> simp[c]) (by simp[QF])]
 have hk:Y9 n.irbs (fun _ y=>¬y.net.addr=x)↔¬Vt n x:=by
  rw[Z1F]
  constructor
  ·rintro h ⟨y,h2,h3⟩;exact h y h2 h3
  ·rintro h y h2 h3;exact h ⟨y,h2,h3⟩
 by_cases h:Vt n x
 ·rw[if_neg (fun g=>hk.1 g h),decide_eq_true h];rfl
 ·rw[if_pos (hk.2 h),decide_eq_false h];rfl

theorem Zi2 (ho:n.Ok) (hs:SmN n) (hr:ZM n) {irb to x:Int} (hi:inL n.irbs irb):Z1j n irb to x=some (decide (YM n irb to x)):=by
 obtain⟨r,h1,h2⟩:=ZhW ho hs hr (x:=x) hi
 simp only[Z1j,h1,Zi1 hs,Option.bind_some]
 rcases h2 with⟨rfl,h⟩|⟨m,rfl,h⟩
 ·have:¬YM n irb to x:=fun g=>h.not g.1
  simp[this]
 ·by_cases e:m=to
  ·subst e
   by_cases ht:Vt n x
   ·have:¬YM n irb m x:=fun g=>g.2 ht
    simp[ht,this]
   ·have:YM n irb m x:=⟨h,ht⟩
    simp[ht,this]
  ·have:¬YM n irb to x:=fun g=>e (h.one g.1)
   simp[e,this]

def Z62 (n:Z2) (to y:Int):Prop:=y=X1 (Z0 n.irbs to).net∨∃j,inL n.irbs j∧(y=(Z0 n.irbs j).net.addr+1∨y=Xj (Z0 n.irbs j).net+1)
theorem Zi3 (ho:n.Ok) (hr:ZM n) {irb to a:Int} (ht:inL n.irbs to) (a0:0≤a) (hg:YM n irb to a) (hl:∀x,0≤x→x<a→¬YM n irb to x):Z62 n to a:=by
 have hP:=(Ux ho hr ht).1
 have hfl:=Uw hP
 have hh:WS (Z0 n.irbs to).net a:=hg.1.cand.1
 by_cases e:a=X1 (Z0 n.irbs to).net
 ·exact .inl e
 have h1:X1 (Z0 n.irbs to).net≤a-1:=by have:=hh.1;omega
 have hno:=hl (a-1) (by omega) (by omega)
 apply Classical.byContradiction
 intro hn
 refine hno ⟨⟨?_,ht,⟨⟨h1,by have:=hh.2;omega⟩,hg.1.cand.2⟩,fun j hj hc=> ?_⟩, ?_⟩
 ·rintro ⟨i,h2,_,h3⟩
  exact hn (.inr ⟨i,h2, .inl (by omega)⟩)
 ·by_cases hc2:WS (Z0 n.irbs j).net a
  ·exact hg.1.best j hj ⟨hc2,hc.2⟩
  ·exfalso
   have:=hc.1
   unfold WS at hc2 this
   exact hn (.inr ⟨j,hj, .inr (by omega)⟩)
 ·rintro ⟨y,hy,h3⟩
  obtain⟨i,h2,rfl⟩:=W0 hy
  exact hn (.inr ⟨i,h2, .inl (by omega)⟩)

theorem Zi4 (ho:n.Ok) (hr:ZM n) (hb:n.irbs.length≤200) {irb to:Int} (ht:inL n.irbs to):
  ∃l,Z8 (fun s:(List Int)×Int=>match s with|(l14,v15)=>UY n irb to l14 v15) ([X1 (Z0 n.irbs to).net],0)=some l∧l.length≤401∧∀y,y∈l↔Z62 n to y:=by
 obtain⟨r,h1,h2⟩:=XE (f:=fun s:(List Int)×Int=>match s with|(l14,v15)=>UY n irb to l14 v15)
  (fun s=>0≤s.2∧s.2≤n.irbs.length∧s.1.length=1+2 * s.2∧∀y,y∈s.1↔(y=X1 (Z0 n.irbs to).net∨∃j,inL n.irbs j∧j<s.2∧(y=(Z0 n.irbs j).net.addr+1∨y=Xj (Z0 n.irbs j).net+1)))
  (fun l=>l.length≤401∧∀y,y∈l↔Z62 n to y) (fun s=>(n.irbs.length-s.2).toNat) (s:=([X1 (Z0 n.irbs to).net],0)) (fun s hI=>by
   obtain⟨l,i⟩:=s
   obtain⟨h0,h1,h2,h3⟩:=hI
   simp only at h0 h1 h2 h3⊢
   by_cases hlt:i<n.irbs.length
   ·have hii:inL n.irbs i:=⟨h0,hlt⟩
    have hP:=(Ux ho hr hii).1
    have hfl:=Uw hP
    have ha0:=hP.a0
    have hw:=Zc (n:=i+1) (by omega) (by omega)
    have w1:=Zc (n:=(Z0 n.irbs i).net.addr) (by omega) (by omega)
    have w2:=Zc (n:=(Z0 n.irbs i).net.addr+1) (by omega) (by omega)
    have w3:=Zc (n:=Xj (Z0 n.irbs i).net) (by omega) (by omega)
    have w4:=Zc (n:=Xj (Z0 n.irbs i).net+1) (by omega) (by omega)
    have h5:ZZ 8 (l++ [(Z0 n.irbs i).net.addr+1,Xj (Z0 n.irbs i).net+1])=true:=X5 (by simp;omega)
    refine⟨.inl (l++ [(Z0 n.irbs i).net.addr+1,Xj (Z0 n.irbs i).net+1],i+1), ?_,⟨by omega,by simp only;omega,by simp;omega,fun y=> ?_⟩,by simp only;omega⟩
    ·simp only[UY,hlt,Zb hii,ZbK hP,w1,w2,w3,w4,hw,h5,decide_true,if_true,Option.bind_some]
    ·simp only[List.mem_append,h3,List.mem_cons,List.not_mem_nil,or_false]
     constructor
     ·rintro ((h|⟨j,q1,q2,q3⟩)|h)
      ·exact .inl h
      ·exact .inr ⟨j,q1,by omega,q3⟩
      ·exact .inr ⟨i,hii,by omega,h⟩
     ·rintro (h|⟨j,q1,q2,q3⟩)
      ·exact .inl (.inl h)
      ·by_cases e:j=i
       ·subst e;exact .inr q3
       ·exact .inl (.inr ⟨j,q1,by omega,q3⟩)
   ·have:i=n.irbs.length:=by omega
    subst this
    refine⟨.inr l,by simp[UY],by omega,fun y=> ?_⟩
    rw[h3]
    unfold Z62
    constructor
    ·rintro (h|⟨j,q1,q2,q3⟩)
     ·exact .inl h
     ·exact .inr ⟨j,q1,q3⟩
    ·rintro (h|⟨j,q1,q3⟩)
     ·exact .inl h
     ·exact .inr ⟨j,q1,q1.2,q3⟩) ⟨by simp,by simp,by simp,fun y=>by
    simp only[List.mem_cons,List.not_mem_nil,or_false]
    constructor
    ·exact .inl
    ·rintro (h|⟨j,q1,q2,q3⟩)
     ·exact h
     ·have:=q1.1;omega⟩ (by simp only;omega)
 exact⟨r,h1,h2.1,h2.2⟩

theorem Zi5 (ho:n.Ok) (hs:SmN n) (hr:ZM n) {irb to:Int} (hi:inL n.irbs irb) {l:List Int} (hl:l.length≤401) (hp:∀y∈l,0≤y):
  ∃m,Z8 (fun s:Int×Int=>match s with|(v34,v35)=>UZ n irb to l v34 v35) (-1,0)=some m∧
   ((m= -1∧∀y∈l,y<4294967296→¬YM n irb to y)∨(0≤m∧m<4294967296∧m∈l∧YM n irb to m∧∀y∈l,y<4294967296→YM n irb to y→m≤y)):=by
 obtain⟨r,h1,h2⟩:=XE (f:=fun s:Int×Int=>match s with|(v34,v35)=>UZ n irb to l v34 v35)
  (fun s=>0≤s.2∧s.2≤l.length∧((s.1= -1∧∀j,inL l j→j<s.2→Z0 l j<4294967296→¬YM n irb to (Z0 l j))∨(0≤s.1∧s.1<4294967296∧s.1∈l∧YM n irb to s.1∧∀j,inL l j→j<s.2→Z0 l j<4294967296→YM n irb to (Z0 l j)→s.1≤Z0 l j)))
  (fun m=>(m= -1∧∀y∈l,y<4294967296→¬YM n irb to y)∨(0≤m∧m<4294967296∧m∈l∧YM n irb to m∧∀y∈l,y<4294967296→YM n irb to y→m≤y)) (fun s=>(l.length-s.2).toNat) (s:=(-1,0)) (fun s hI=>by
   obtain⟨m,i⟩:=s
   obtain⟨h0,h1,hb⟩:=hI
   simp only at h0 h1 hb⊢
   by_cases hlt:i<l.length
   ·have hii:inL l i:=⟨h0,hlt⟩
    have hw:=Zc (n:=i+1) (by omega) (by omega)
    have hmem:=ZR hii
    have y0:=hp _ hmem
    have hlin:lin l i=true:=by unfold lin;exact decide_eq_true ⟨h0,hlt⟩
    simp only[UZ,hlt,hlin,Y8 hii,hw,decide_true,if_true,Option.bind_some,decide_eq_true_eq]
    have keepN:(Z0 l i<4294967296→¬YM n irb to (Z0 l i))→((m= -1∧∀j,inL l j→j<i+1→Z0 l j<4294967296→¬YM n irb to (Z0 l j))∨(0≤m∧m<4294967296∧m∈l∧YM n irb to m∧∀j,inL l j→j<i+1→Z0 l j<4294967296→YM n irb to (Z0 l j)→m≤Z0 l j)):=fun hn=>by
     rcases hb with⟨e,h⟩|⟨a1,a2,a3,a4,a5⟩
     ·exact .inl ⟨e,fun j hj hji=>by by_cases e:j=i;subst e;exact hn;exact h j hj (by omega)⟩
     ·exact .inr ⟨a1,a2,a3,a4,fun j hj hji hq hg=>by by_cases e:j=i;subst e;exact absurd hg (hn hq);exact a5 j hj (by omega) hq hg⟩
    by_cases c1:Z0 l i<4294967296
    case neg=>rw[if_neg c1];exact⟨_,rfl,⟨by omega,by omega,keepN (fun h=>absurd h c1)⟩,by simp only;omega⟩
    rw[if_pos c1]
    have hw32:=VT (n:=Z0 l i) (by omega) (by omega)
    have hlead:=Zi2 ho hs hr (to:=to) (x:=Z0 l i) hi
    rw[hw32,hlead]
    simp only[Option.bind_some,decide_eq_true_eq]
    by_cases c2:m<0
    ·rw[if_pos c2]
     by_cases c3:YM n irb to (Z0 l i)
     ·rw[if_pos c3]
      refine⟨_,rfl,⟨by omega,by omega, .inr ⟨y0,c1,hmem,c3,fun j hj hji hq hg=> ?_⟩⟩,by simp only;omega⟩
      by_cases e:j=i
      ·subst e;exact Int.le_refl _
      ·rcases hb with⟨_,h⟩|⟨a1,_⟩
       ·exact absurd hg (h j hj (by simp only at hji;omega) hq)
       ·omega
     ·rw[if_neg c3]
      exact⟨_,rfl,⟨by omega,by omega,keepN (fun _=>c3)⟩,by simp only;omega⟩
    ·rw[if_neg c2]
     rcases hb with⟨e,h⟩|⟨a1,a2,a3,a4,a5⟩
     ·omega
     by_cases c4:Z0 l i<m
     ·rw[if_pos c4]
      by_cases c3:YM n irb to (Z0 l i)
      ·rw[if_pos c3]
       refine⟨_,rfl,⟨by omega,by omega, .inr ⟨y0,c1,hmem,c3,fun j hj hji hq hg=> ?_⟩⟩,by simp only;omega⟩
       by_cases e:j=i
       ·subst e;exact Int.le_refl _
       ·have:=a5 j hj (by simp only at hji;omega) hq hg;simp only;omega
      ·rw[if_neg c3]
       exact⟨_,rfl,⟨by omega,by omega,keepN (fun _=>c3)⟩,by simp only;omega⟩
     ·rw[if_neg c4]
      refine⟨_,rfl,⟨by omega,by omega, .inr ⟨a1,a2,a3,a4,fun j hj hji hq hg=> ?_⟩⟩,by simp only;omega⟩
      by_cases e:j=i
      ·subst e;simp only;omega
      ·exact a5 j hj (by simp only at hji;omega) hq hg
   ·have:i=l.length:=by omega
    subst this
    refine⟨.inr m,by simp[UZ], ?_⟩
    rcases hb with⟨e,h⟩|⟨a1,a2,a3,a4,a5⟩
    ·refine .inl ⟨e,fun y hy=> ?_⟩
     obtain⟨j,hj,rfl⟩:=W0 hy
     exact h j hj hj.2
    ·refine .inr ⟨a1,a2,a3,a4,fun y hy=> ?_⟩
     obtain⟨j,hj,rfl⟩:=W0 hy
     exact a5 j hj hj.2) ⟨by simp,by simp, .inl ⟨rfl,fun j hj h=>by have:=hj.1;simp only at h;omega⟩⟩ (by simp only;omega)
 exact⟨r,h1,h2⟩

theorem Zi6 (ho:n.Ok) (hs:SmN n) (hr:ZM n) (hb:n.irbs.length≤200) {irb to:Int} :∃r,Vi n irb to=some r∧T0 n irb to=some r:=by
 obtain⟨r,h1,h2⟩:=Zi0 ho hs (irb:=irb) (to:=to)
 refine⟨r,h1, ?_⟩
 by_cases hi:inL n.irbs irb
 case neg=>
  have:r=(0,false):=by rcases h2 with⟨e,_⟩|⟨a,_,_,h,_⟩;exact e;exact absurd h hi
  simp[T0,W5,hi,this]
 by_cases ht:inL n.irbs to
 case neg=>
  have:r=(0,false):=by rcases h2 with⟨e,_⟩|⟨a,_,_,_,h,_⟩;exact e;exact absurd h ht
  simp[T0,W5,hi,ht,this]
 have hP:=(Ux ho hr ht).1
 have hfl:=Uw hP
 have w1:=Zc (n:=X1 (Z0 n.irbs to).net) (by omega) (by omega)
 obtain⟨l,e1,hl,hmem⟩:=Zi4 ho hr hb (irb:=irb) ht
 have hpos:∀y∈l,0≤y:=fun y hy=>by
  rcases(hmem y).1 hy with h|⟨j,hj,h⟩
  ·omega
  ·have hP2:=(Ux ho hr hj).1
   have:=Uw hP2
   have:=hP2.a0
   omega
 obtain⟨m,e2,hm⟩:=Zi5 ho hs hr (to:=to) hi hl hpos
 simp only[T0,W5,hi,ht,Zb ht,Z8m hP,w1,e1,e2,Zh,Option.bind_some,Zi,Zj,Zk,Zl,Zm,Zn,Zo,Zp,Ze,Zd,decide_eq_true_eq,Zq,ge_iff_le,gt_iff_lt,Zr,Bool.false_eq_true,decide_false,decide_true,Bool.not_true,if_false]
 rcases h2 with⟨rfl,hno⟩|⟨a,rfl,_,_,_,a0,a1,hg,hleast⟩
 ·rcases hm with⟨rfl,_⟩|⟨m0,m1,_,hgm,_⟩
  ·simp
  ·exact absurd hgm (hno hr hi ht m m0 m1)
 ·have hta:=(hmem a).2 (Zi3 ho hr ht a0 hg hleast)
  rcases hm with⟨_,h⟩|⟨m0,m1,_,hgm,h⟩
  ·exact absurd hg (h a hta a1)
  ·have k1:=h a hta a1 hg
   have k2:¬m<a:=fun h=>hleast m m0 h hgm
   have:m=a:=by omega
   subst this
   have w:=VT (n:=m) (by omega) (by omega)
   have:¬m<0:=by omega
   simp[this,w]
end
end Go.Eng

set_option linter.unusedVariables false
set_option linter.unusedSectionVars false
set_option linter.unusedSimpArgs false
namespace Go.Eng
open Go Classical
attribute [local congr] Yl
section
variable {n:Z2}
noncomputable def chR (n:Z2) (irb to:Int):Int×Bool:=match Vi n irb to with|some r=>r|none=>(0,false)
theorem ZbP (ho:n.Ok) (hs:SmN n) (hr:ZM n) (hb:n.irbs.length≤200) {irb to:Int} :Vi n irb to=some (chR n irb to)∧T0 n irb to=some (chR n irb to):=by
 obtain⟨r,h1,h2⟩:=Zi6 ho hs hr hb (irb:=irb) (to:=to)
 have:chR n irb to=r:=by unfold chR;rw[h1]
 rw[this];exact⟨h1,h2⟩
def Z8o (x:YH):YF:=⟨x.to,x.domain,x.addr⟩
noncomputable def TF (n:Z2) (irb:Int):List YH:=XT n.irbs (fun i _=>(chR n irb i).2=true) (fun i y=>⟨i,y.domain,(chR n irb i).1⟩)
theorem Zi7 (hs:SmN n) {k:Int} (h:¬(ZM n∧inL n.domains k∧¬(Z0 n.domains k).irb<0)):VI n k=some []:=by
 by_cases h1:inL n.domains k
 case neg=>
  have:k<0∨(n.domains.length:Int)≤k:=by unfold inL at h1;omega
  rcases this with g|g
  ·simp[VI,g]
  ·simp only[VI,Zh,Option.bind_some,Zi,Zj,Zk,Zl,Zm,Zn,Zo,Zp,Ze,Zd,decide_eq_true_eq,Zq,ge_iff_le,gt_iff_lt,Zr,Bool.false_eq_true,decide_false,g];simp
 have a0:¬k<0:=by have:=h1.1;omega
 have a1:¬(n.domains.length:Int)≤k:=by have:=h1.2;omega
 by_cases h2:(Z0 n.domains k).irb<0
 ·simp only[VI,a0,a1,Zb h1,h2,Zh,Option.bind_some,Zi,Zj,Zk,Zl,Zm,Zn,Zo,Zp,Ze,Zd,decide_eq_true_eq,Zq,ge_iff_le,gt_iff_lt,Zr,Bool.false_eq_true,decide_false];simp
 ·have hr:¬ZM n:=fun g=>h ⟨g,h1,h2⟩
  simp only[VI,a0,a1,Zb h1,h2,Wc hs,hr,Zh,Option.bind_some,Zi,Zj,Zk,Zl,Zm,Zn,Zo,Zp,Ze,Zd,decide_eq_true_eq,Zq,ge_iff_le,gt_iff_lt,Zr,Bool.false_eq_true,decide_false];simp
theorem Zi8 (ho:n.Ok) (hs:SmN n) (hb:n.irbs.length≤200) (hr:ZM n) {k:Int} (h1:inL n.domains k) (h2:¬(Z0 n.domains k).irb<0):VI n k=some (TF n (Z0 n.domains k).irb):=by
 have a0:¬k<0:=by have:=h1.1;omega
 have a1:¬(n.domains.length:Int)≤k:=by have:=h1.2;omega
 have hloop:=Tr (f:=fun s:(List YH)×Int=>match s with|(l11,v12)=>Qc n k l11 v12) n.irbs (fun i _=>(chR n (Z0 n.domains k).irb i).2=true) (fun i y=>⟨i,y.domain,(chR n (Z0 n.domains k).irb i).1⟩) (out:=id) hs.irbs (fun i s h0 hi hin hl=>by
  have hw:=Zc (n:=i+1) (by omega) (by omega)
  have h5:ZZ 24 (s++ [(⟨i,(Z0 n.irbs i).domain,(chR n (Z0 n.domains k).irb i).1⟩:YH)])=true:=X5 (by simp;omega)
  simp only[Qc,hi,Zb hin,Zb h1,(ZbP ho hs hr hb).1,hw,h5,decide_true,if_true,Option.bind_some]
  by_cases c:(chR n (Z0 n.domains k).irb i).2=true <;> simp[c]) (fun s=>by simp[Qc])
 simp only[VI,a0,a1,Zb h1,h2,Wc hs,hr,hloop,Zh,Option.bind_some,Zi,Zj,Zk,Zl,Zm,Zn,Zo,Zp,Ze,Zd,decide_eq_true_eq,Zq,ge_iff_le,gt_iff_lt,Zr,Bool.false_eq_true,decide_false]
 simp[TF]
theorem Zi9 {k:Int} (h:¬(inL n.domains k∧¬(Z0 n.domains k).irb= -1)):Uf n k=some []:=by
 by_cases h1:inL n.domains k
 case neg=>simp[Uf,W5,h1]
 have h2:(Z0 n.domains k).irb= -1:=Classical.not_not.1 (fun g=>h ⟨h1,g⟩)
 simp[Uf,W5,h1,Zb h1,h2]
theorem Zia (ho:n.Ok) (hs:SmN n) (hb:n.irbs.length≤200) (hr:ZM n) {k:Int} (h1:inL n.domains k) (h2:¬(Z0 n.domains k).irb= -1):Uf n k=some ((TF n (Z0 n.domains k).irb).map Z8o):=by
 have hloop:=Tr (f:=fun s:(List YF)×Int=>match s with|(l9,v10)=>QG n k l9 v10) n.irbs (fun i _=>(chR n (Z0 n.domains k).irb i).2=true) (fun i y=>⟨i,y.domain,(chR n (Z0 n.domains k).irb i).1⟩) (out:=id) hs.irbs (fun i s h0 hi hin hl=>by
  have hw:=Zc (n:=i+1) (by omega) (by omega)
  have h5:ZZ 24 (s++ [(⟨i,(Z0 n.irbs i).domain,(chR n (Z0 n.domains k).irb i).1⟩:YF)])=true:=X5 (by simp;omega)
  simp only[QG,hi,Zb hin,Zb h1,(ZbP ho hs hr hb).2,hw,h5,decide_true,if_true,Option.bind_some]
  by_cases c:(chR n (Z0 n.domains k).irb i).2=true <;> simp[c]) (fun s=>by simp[QG])
 have hmap:(TF n (Z0 n.domains k).irb).map Z8o=XT n.irbs (fun i _=>(chR n (Z0 n.domains k).irb i).2=true) (fun i y=>(⟨i,y.domain,(chR n (Z0 n.domains k).irb i).1⟩:YF)):=by
  unfold TF XT
  rw[List.map_filterMap]
  congr 1
  funext q
  split <;> rfl
 simp only[Uf,W5,h1,Zb h1,h2,hloop,Zh,Option.bind_some,Zi,Zj,Zk,Zl,Zm,Zn,Zo,Zp,Ze,Zd,decide_eq_true_eq,Zq,ge_iff_le,gt_iff_lt,Zr,Bool.false_eq_true,decide_false,decide_true]
 simp[hmap]
end
end Go.Eng

set_option linter.unusedVariables false
set_option linter.unusedSectionVars false
set_option linter.unusedSimpArgs false

namespace Go.Eng
open Go Classical
attribute [local congr] Yl
section
variable {n:Z2}
def YN (n:Z2) (l:List Int):Prop:=l.length=n.ports.length∧ZM n∧Y9 l fun i t=>(0≤(Z0 n.ports i).link→t= -1)∧((Z0 n.ports i).link<0→0≤t∧t<10)
theorem ZbQ (hr:ZM n) {i:Int} (hi:inL n.ports i):(Z0 n.ports i).link= -1∨0≤(Z0 n.ports i).link:=by
 rcases(hr.ports i hi).2.2.2.2.2.2.2.2 with h|h
 ·exact .inl h
 ·exact .inr h.1.1
theorem Z8p (hs:SmN n) {l:List Int} (hl:Few l):Z0P n l=some (decide (YN n l)):=by
 have hf:l.length≤1000000:=hl
 unfold Z0P YN
 by_cases h1:l.length=n.ports.length
 case neg=>
  have:((l.length:Int) !=(n.ports.length:Int))=true:=by rw[Zd];exact decide_eq_true (by omega)
  simp[this,h1]
 have h1':((l.length:Int) !=(n.ports.length:Int))=false:=by rw[Zd];exact decide_eq_false (by omega)
 by_cases hr:ZM n
 case neg=>simp[h1',Wc hs,hr]
 simp only[h1',Wc hs,hr,h1,true_and,Bool.false_eq_true,if_false,decide_true,Bool.not_true,Option.bind_some]
 rw[YD (f:=Q3 n l) l (fun i t=>(0≤(Z0 n.ports i).link→t= -1)∧((Z0 n.ports i).link<0→0≤t∧t<10)) (.inl ()) (.inr ()) hl (fun i i0 i1 hi=>by
  have hw:=Zc (n:=i+1) (by omega) (by omega)
  have hp:inL n.ports i:=⟨i0,by omega⟩
  simp only[Q3,i1,Zb hi,Zb hp,hw,Zh,Option.bind_some,Zi,Zj,Zk,Zl,Zm,Zn,Zo,Zp,Ze,Zd,decide_eq_true_eq,Zq,ge_iff_le,gt_iff_lt,Zr,Bool.false_eq_true,decide_false,XF,XG,XH,XI,XJ,XK,XL,decide_true,if_true]
  by_cases c:0≤(Z0 n.ports i).link
  ·have c2:¬(Z0 n.ports i).link<0:=by omega
   by_cases d:Z0 l i= -1 <;> simp[c,c2,d]
  ·have c2:(Z0 n.ports i).link<0:=by omega
   by_cases d:Z0 l i<0
   ·simp[c,c2,d];omega
   ·by_cases d2:10≤Z0 l i
    ·simp[c,c2,d,d2]
    ·have:0≤Z0 l i∧Z0 l i<10:=by omega
     simp[c,c2,d,d2,this]) (by simp[Q3])]
 simp only[Zh,Option.bind_some,Zi,Zj,Zk,Zl,Zm,Zn,Zo,Zp,Ze,Zd,decide_eq_true_eq,Zq,ge_iff_le,gt_iff_lt,Zr,Bool.false_eq_true,decide_false,true_and]
theorem Z63 (hs:SmN n) {l:List Int} (hl:Few l):Qv n l=some (decide (YN n l)):=by
 have hf:l.length≤1000000:=hl
 unfold Qv YN
 by_cases h1:l.length=n.ports.length
 case neg=>
  have:((l.length:Int) !=(n.ports.length:Int))=true:=by rw[Zd];exact decide_eq_true (by omega)
  simp[this,h1]
 have h1':((l.length:Int) !=(n.ports.length:Int))=false:=by rw[Zd];exact decide_eq_false (by omega)
 by_cases hr:ZM n
 case neg=>simp[h1',ZbH hs,hr]
 simp only[h1',ZbH hs,hr,h1,true_and,Bool.false_eq_true,if_false,decide_true,Bool.not_true,Option.bind_some]
 rw[YD (f:=Qu n l) l (fun i t=>(0≤(Z0 n.ports i).link→t= -1)∧((Z0 n.ports i).link<0→0≤t∧t<10)) (.inl ()) (.inr ()) hl (fun i i0 i1 hi=>by
  have hw:=Zc (n:=i+1) (by omega) (by omega)
  have hp:inL n.ports i:=⟨i0,by omega⟩
  have hlk:=ZbQ hr hp
  simp only[Qu,Z5s,i1,Zb hi,Zb hp,hw,Zh,Option.bind_some,Zi,Zj,Zk,Zl,Zm,Zn,Zo,Zp,Ze,Zd,decide_eq_true_eq,Zq,ge_iff_le,gt_iff_lt,Zr,Bool.false_eq_true,decide_false,decide_true,if_true]
  rcases hlk with c|c
  ·have c2:¬0≤(Z0 n.ports i).link:=by omega
   have c3:(Z0 n.ports i).link<0:=by omega
   by_cases d:Z0 l i<0
   ·simp[c,d];omega
   ·by_cases d2:9<Z0 l i
    ·simp[c,d,d2];omega
    ·have:0≤Z0 l i∧Z0 l i<10:=by omega
     simp[c,d,d2,this]
  ·have c2:¬(Z0 n.ports i).link<0:=by omega
   have c3:¬(Z0 n.ports i).link= -1:=by omega
   by_cases d:Z0 l i= -1 <;> simp[c,c2,c3,d]) (by simp[Qu])]
 simp only[Zh,Option.bind_some,Zi,Zj,Zk,Zl,Zm,Zn,Zo,Zp,Ze,Zd,decide_eq_true_eq,Zq,ge_iff_le,gt_iff_lt,Zr,Bool.false_eq_true,decide_false,true_and]
noncomputable def ofL (l:List Int) (t:Int):List Int:=XT l (fun _ x=>x=t) (fun i _=>i)
theorem Zib {l:List Int} {t:Int} (hl:Few l):Z3j l t=some (ofL l t):=by
 have hf:l.length≤1000000:=hl
 unfold Z3j
 rw[Tr (f:=fun s:(List Int)×Int=>match s with|(l3,v4)=>Qw l t l3 v4) l (fun _ x=>x=t) (fun i _=>i) (out:=id) hl (fun i s h0 h1 h2 h3=>by
  have hw:=Zc (n:=i+1) (by omega) (by omega)
  have h5:ZZ 8 (s++ [i])=true:=X5 (by simp;omega)
  simp only[Qw,h1,Zb h2,h5,hw,decide_true,if_true,Option.bind_some,Ze]
  by_cases c:Z0 l i=t <;> simp[c]) (fun s=>by simp[Qw])]
 rfl
end
end Go.Eng

set_option linter.unusedVariables false
set_option linter.unusedSectionVars false
set_option linter.unusedSimpArgs false
namespace Go.Eng
open Go Classical
attribute [local congr] Yl

section
variable {n:Z2}
noncomputable def ZG (n:Z2) (d:Int):List Int:=(XU n d).map fun h=>h.domain
noncomputable def Yd (n:Z2) (d:Int):List Int:=if(Z0 n.domains d).irb<0 then []else(TF n (Z0 n.domains d).irb).map fun h=>h.domain
def Xw (n:Z2) (of:List Int) (d:Int) (t:Nat):Prop:=inL n.domains d∧∃p∈ZS n d,Z0 of p=(t:Int)
theorem Wg (hr:ZM n):∀d,0≤d→d<(n.domains.length:Int)→∀h∈ZG n d,0≤h∧h<(n.domains.length:Int):=by
 intro d d0 d1 h hh
 obtain⟨x,hx,rfl⟩:=List.mem_map.1 hh
 exact ZhH hr d d0 d1 x hx
theorem Z06 (hr:ZM n):∀d,0≤d→d<(n.domains.length:Int)→∀h∈Yd n d,0≤h∧h<(n.domains.length:Int):=by
 intro d d0 d1 h hh
 unfold Yd at hh
 split at hh
 ·simp at hh
 ·obtain⟨x,hx,rfl⟩:=List.mem_map.1 hh
  obtain⟨i,hi,_,rfl⟩:=Z3V.1 hx
  exact(hr.irbs i hi).1
theorem Z8q {irb:Int} :(TF n irb).length≤n.irbs.length:=Z1G
theorem Zic {d:Int} :(Yd n d).length≤n.irbs.length:=by
 unfold Yd;split
 ·simp
 ·rw[List.length_map];exact Z8q
theorem Zid (hg:Ym n 200 100) (hr:ZM n) {d:Int} (hd:inL n.domains d):Z2N n d=some (ZG n d):=by
 have hl:=Z8h hg hd
 simp only[Z2N]
 rw[ZhE hg hr hd,Option.bind_some]
 have e:=Z45 (f:=fun s:(List Int)×Int=>match s with|(l6,v7)=>Q7 (XU n d) l6 v7) (XU n d) (fun h=>h.domain) [] (out:=fun s=>s) (by unfold Few;omega) (fun i s hi hlen=>by
  have i0:=hi.1;have i1:=hi.2
  simp only[Q7]
  rw[if_pos (by simpa using i1),if_pos (Yi hi),Y8 hi,Option.bind_some,Zc (by omega) (by omega),if_pos (X5 (by simp at hlen⊢;omega))]) (fun s=>by simp[Q7])
 rw[e];rfl
theorem Zie (ho:n.Ok) (hg:Ym n 200 100) (hr:ZM n) {d:Int} (hd:inL n.domains d):Z2Z n d=some (Yd n d):=by
 have hs:=hg.sm
 have hil:=hg.irbs
 simp only[Z2Z]
 unfold Yd
 by_cases c:(Z0 n.domains d).irb<0
 ·rw[Zi7 hs (fun h=>h.2.2 c),Option.bind_some,if_pos c]
  have e:=Z45 (f:=fun s:(List Int)×Int=>match s with|(l6,v7)=>U9 [] l6 v7) ([]:List YH) (fun h=>h.domain) [] (out:=fun s=>s) Zgp (fun i s hi hlen=>by have:=hi.1;have:=hi.2;simp at this;omega) (fun s=>by simp[U9])
  rw[e];rfl
 ·have hl:=Z8q (n:=n) (irb:=(Z0 n.domains d).irb)
  rw[Zi8 ho hs hil hr hd c,Option.bind_some,if_neg c]
  generalize TF n (Z0 n.domains d).irb=ls at *
  have e:=Z45 (f:=fun s:(List Int)×Int=>match s with|(l6,v7)=>U9 ls l6 v7) ls (fun h=>h.domain) [] (out:=fun s=>s) (by unfold Few;omega) (fun i s hi hlen=>by
   have i0:=hi.1;have i1:=hi.2
   simp only[U9]
   rw[if_pos (by simpa using i1),if_pos (Yi hi),Y8 hi,Option.bind_some,Zc (by omega) (by omega),if_pos (X5 (by simp at hlen⊢;omega))]) (fun s=>by simp[U9])
  rw[e];rfl
def mkG {β:Type} (N:Nat) (f:Int→β):List β:=(List.range N).map fun(i:Nat)=>f (i:Int)
theorem Vb {β:Type} {N:Nat} {f:Int→β} :(mkG N f).length=N:=by simp[mkG]
theorem Z8r {β:Type} {N:Nat} {f:Int→β} {i:Int} :inL (mkG N f) i↔0≤i∧i<N:=by rw[Zbg,Vb]
theorem Vu {β:Type} [Inhabited β] {N:Nat} {f:Int→β} {i:Int} (h:0≤i∧i<(N:Int)):Z0 (mkG N f) i=f i:=by
 have h1:(mkG N f)[i.toNat]?=some (f i):=by
  unfold mkG
  rw[List.getElem?_map,List.getElem?_range (by omega)]
  simp only[Option.map_some]
  congr 2;omega
 unfold Z0;rw[h1];rfl
theorem ZbR {β:Type} {N:Nat} {f:Int→β} :mkG (N+1) f=mkG N f++ [f N]:=by simp[mkG,List.range_succ]
theorem Zif (ho:n.Ok) (hg:Ym n 200 100) (hr:ZM n):Z30 n=some (mkG n.domains.length (ZG n),mkG n.domains.length (Yd n)):=by
 have hdl:=hg.domains
 have hmk:XY 16 (n.domains.length:Int) (n.domains.length:Int)=true:=by unfold XY;simp;omega
 have e:=Xu (f:=fun s:(List (List Int))×(List (List Int))×Int=>match s with|(l3,l4,v5)=>UN n l3 l4 v5) (r:=(mkG n.domains.length (ZG n),mkG n.domains.length (Yd n))) (fun k=>(mkG k (ZG n),mkG k (Yd n),(k:Int))) n.domains.length (by omega) (fun k hk=>by
  have hd:inL n.domains (k:Int):=⟨by omega,by omega⟩
  simp only[UN]
  rw[if_pos (by simpa using hk),Zid hg hr hd,Option.bind_some]
  rw[if_pos (X5 (by simp[Vb];omega)),Zie ho hg hr hd,Option.bind_some]
  rw[if_pos (X5 (by simp[Vb];omega)),Zc (by omega) (by omega),ZbR,ZbR]
  rfl) (by
  simp only[UN]
  rw[if_neg (by simp)])
 simp only[Z30,hmk,if_true]
 have e':Z8 (fun s:(List (List Int))×(List (List Int))×Int=>match s with|(l3,l4,v5)=>UN n l3 l4 v5) ([],[],0)=some (mkG n.domains.length (ZG n),mkG n.domains.length (Yd n)):=e
 rw[e'];rfl

theorem ZbS {x y:Z9} :Z4X x y=decide (x=y):=by
 cases x;cases y
 rw[Bool.eq_iff_iff]
 simp[Z4X]
theorem Zig {a1:List Yy} {a2:List ZO} {a3:List Yt} {a4:List ZF} {a5:List Yz} {a6:List YA} {a7:List Yh} {a8:List Y3} {all:List Z9} {n10:Nat} {q:List Zw} {u v:List (List Int)} {d:Int} {y:Z9} (hd:inL all d) (hq:q.length≤1000000):
  Z31 a1 a2 a3 a4 a5 a6 a7 a8 all n10 q u v d y=some (Wt all q d y):=by
 unfold Z31 Wt orL
 rw[if_pos (Yi hd),Y8 hd,Option.bind_some,ZbS]
 by_cases c:(⟨Y2 .i64 (Z0 all d).plain y.plain,Y2 .i64 (Z0 all d).led y.led⟩:Z9)=Z0 all d
 ·rw[if_neg (by simpa using c),if_neg (by simpa using c)]
 ·rw[if_pos (by simpa using c),Option.bind_some,if_pos (X5 (by simp;omega)),if_pos (by simpa using c)]
theorem ZbT {a1:List Yy} {a2:List ZO} {a3:List Yt} {a4:List ZF} {a5:List Yz} {a6:List YA} {a7:List Yh} {a8:List Y3} {all:List Z9} {n10:Nat} {q:List Zw} {u v:List (List Int)} {d:Int} {y:Z9} (hd:inL all d) (hq:q.length≤1000000):
  Z0Y a1 a2 a3 a4 a5 a6 a7 a8 all n10 q q.length u v d y=some ((Wt all q d y).1,(Wt all q d y).2,(Wt all q d y).2.length):=by
 unfold Z0Y Wt orL
 rw[if_pos (Yi hd),Y8 hd,Option.bind_some,ZbS]
 by_cases c:(⟨Y2 .i64 (Z0 all d).plain y.plain,Y2 .i64 (Z0 all d).led y.led⟩:Z9)=Z0 all d
 ·rw[if_neg (by simpa using c),if_neg (by simpa using c)]
 ·rw[if_pos (by simpa using c),Option.bind_some,if_pos (X5 (by simp;omega)),if_pos (by simpa using c)]
theorem ZbU {E R:Int→List Int} {S:Int→Nat→Prop} {N:Nat} (hN:N≤200) {f:(List Z9)×(List Zw)×Nat×Int→Option (((List Z9)×(List Zw)×Nat×Int)⊕((List Z9)×(List Zw)×Nat))} {xs:List Int} {y:Z9} (hx:Few xs)
  (hf:∀(all:List Z9) (q:List Zw) j,inL xs j→inL all (Z0 xs j)→q.length≤1000000→f (all,q,q.length,j)=some (.inl ((Wt all q (Z0 xs j) y).1,(Wt all q (Z0 xs j) y).2,(Wt all q (Z0 xs j) y).2.length,j+1)))
  (he:∀(all:List Z9) (q:List Zw) (k:Nat),f (all,q,k,xs.length)=some (.inr (all,q,k))) (hy:∀x∈xs,0≤x∧x<(N:Int)∧Z03 E R S x y)
  {all:List Z9} {q:List Zw} (ha:WQ E R S N all) (hq:(q.length:Int)≤pot all):
  ∃b r,Z8 f (all,q,q.length,0)=some (b,r,r.length)∧W4 E R S N all q b r∧∀x∈xs,Xo y (Z0 b x):=by
 unfold Few at hx
 obtain⟨⟨b,r,k⟩,e,hk0,h1,h2⟩:=XE (f:=f)
  (fun s=>0≤s.2.2.2∧s.2.2.2≤xs.length∧s.2.2.1=s.2.1.length∧W4 E R S N all q s.1 s.2.1∧∀j,inL xs j→j<s.2.2.2→Xo y (Z0 s.1 (Z0 xs j)))
  (fun r=>r.2.2=r.2.1.length∧W4 E R S N all q r.1 r.2.1∧∀x∈xs,Xo y (Z0 r.1 x)) (fun s=>(xs.length-s.2.2.2).toNat) (s:=(all,q,q.length,0)) (fun s hI=>by
   obtain⟨b,r,k,j⟩:=s
   obtain⟨j0,j1,hk,hG,hK⟩:=hI
   simp only at j0 j1 hk hG hK⊢
   subst hk
   by_cases c:j<(xs.length:Int)
   ·have hj:inL xs j:=⟨j0,c⟩
    obtain⟨y0,y1,y2⟩:=hy _ (ZR hj)
    have hbl:=hG.ok.1
    have hd:inL b (Z0 xs j):=⟨y0,by omega⟩
    have hpl:=Z5X hG.ok
    have hpt:=hG.pot
    obtain⟨g1,g2⟩:=ZbE (q:=r) hG.ok hd y2
    refine⟨_,hf b r j hj hd (by omega),⟨by simp only;omega,by simp only;omega,rfl,hG.trans ha g1,fun i hi hij=> ?_⟩,by simp only;omega⟩
    simp only at hij
    by_cases e:i=j
    ·subst e;exact g2
    ·obtain⟨z0,z1,_⟩:=hy _ (ZR hi)
     exact(hK i hi (by omega)).trans (g1.mono _ ⟨z0,by omega⟩)
   ·have:j=xs.length:=by omega
    subst this
    refine⟨_,he b r _,rfl,hG,fun x hx=> ?_⟩
    obtain⟨i,hi,rfl⟩:=W0 hx
    exact hK i hi hi.2) ⟨by simp,by simp,rfl,W4.refl ha,fun j hj h=>by have:=hj.1;simp only at h;omega⟩ (by simp only;omega)
 simp only at hk0
 subst hk0
 exact⟨b,r,e,h1,h2⟩
theorem Zih {S:Int→Nat→Prop} (hN:n.domains.length≤200) (hr:ZM n) (hh:∀d,(ZG n d).length≤1000∨¬inL n.domains d) (hi:n.irbs.length≤200) {a1:List Yy} {a2:List ZO} {a3:List Yt} {a4:List ZF} {a5:List Yz} {a6:List YA} {a7:List Yh} {a8:List Y3} {n10:Nat}
  {all:List Z9} {q:List Zw} (ha:WQ (ZG n) (Yd n) S n.domains.length all) (hq:(q.length:Int)≤pot all) (hqe:∀x∈q,x.done=false∧0≤x.task.domain∧x.task.domain<(n.domains.length:Int))
  (hw:∀d,inL all d→Z0 all d=⟨0,0⟩∨∃x∈q,x.task.domain=d):
  ∃b r k,Z32 a1 a2 a3 a4 a5 a6 a7 a8 all n10 q (mkG n.domains.length (ZG n)) (mkG n.domains.length (Yd n))=some (b,r,k)∧WQ (ZG n) (Yd n) S n.domains.length b∧(∀d,inL all d→Xo (Z0 all d) (Z0 b d))∧∀d,0≤d→d<(n.domains.length:Int)→Z42 (ZG n) (Yd n) b d:=by
 obtain⟨⟨b,r,k⟩,e,h1,h2,h3⟩:=XE (f:=fun s:(List Z9)×(List Zw)×Nat×Int=>match s with|(l14,l15,n16,v17)=>Qf a1 a2 a3 a4 a5 a6 a7 a8 n10 (mkG n.domains.length (ZG n)) (mkG n.domains.length (Yd n)) l14 l15 n16 v17)
  (fun s=>0≤s.2.2.2∧s.2.2.2≤s.2.1.length∧s.2.2.1=s.2.1.length∧WQ (ZG n) (Yd n) S n.domains.length s.1∧(s.2.1.length:Int)≤pot s.1∧(∀j,inL s.2.1 j→s.2.2.2≤j→(Z0 s.2.1 j).done=false∧0≤(Z0 s.2.1 j).task.domain∧(Z0 s.2.1 j).task.domain<(n.domains.length:Int))∧
   (∀d,inL all d→Xo (Z0 all d) (Z0 s.1 d))∧∀d,0≤d→d<(n.domains.length:Int)→(∃j,inL s.2.1 j∧s.2.2.2≤j∧(Z0 s.2.1 j).task.domain=d)∨Z42 (ZG n) (Yd n) s.1 d)
  (fun r=>WQ (ZG n) (Yd n) S n.domains.length r.1∧(∀d,inL all d→Xo (Z0 all d) (Z0 r.1 d))∧∀d,0≤d→d<(n.domains.length:Int)→Z42 (ZG n) (Yd n) r.1 d)
  (fun s=>(2046 * n.domains.length+1-s.2.2.2).toNat) (s:=(all,q,q.length,0)) (fun s hI=>by
   obtain⟨b,r,k,i⟩:=s
   obtain⟨i0,i1,hk,hA,hP,hE,hM,hC⟩:=hI
   simp only at i0 i1 hk hA hP hE hM hC⊢
   subst hk
   have hpl:=Z5X hA
   by_cases c:i<(r.length:Int)
   ·have hir:inL r i:=⟨i0,c⟩
    obtain⟨d1,d2,d3⟩:=hE i hir (by omega)
    have hsi:inL (List.set r (Int.toNat i) ⟨(Z0 r i).task,true⟩) i:=Ut.2 hir
    have hgi:Z0 (List.set r (Int.toNat i) ⟨(Z0 r i).task,true⟩) i=⟨(Z0 r i).task,true⟩:=by rw[WG hir hir,if_pos rfl]
    generalize hat:(Z0 r i).task=tk at *
    have hib:inL b tk.domain:=⟨d2,by have:=hA.1;omega⟩
    have hin:inL n.domains tk.domain:=⟨d2,d3⟩
    have ie:inL (mkG n.domains.length (ZG n)) tk.domain:=Z8r.2 ⟨d2,d3⟩
    have il:inL (mkG n.domains.length (Yd n)) tk.domain:=Z8r.2 ⟨d2,d3⟩
    have hlb:=hA.2 _ hib
    have hlen1:(List.set r (Int.toNat i) (⟨tk,true⟩:Zw)).length=r.length:=List.length_set ..
    have hhl:=(hh tk.domain).resolve_right (fun h=>h hin)
    have hll:(Yd n tk.domain).length≤n.irbs.length:=Zic
    obtain⟨b1,r1,e1,G1,K1⟩:=ZbU (E:=ZG n) (R:=Yd n) (S:=S) hN (xs:=ZG n tk.domain) (y:=Z0 b tk.domain) (f:=fun s=>match s with|(l34,l35,n36,v37)=>Qd a1 a2 a3 a4 a5 a6 a7 a8 n10 (mkG n.domains.length (ZG n)) (mkG n.domains.length (Yd n)) i ⟨tk,true⟩ (Z0 b tk.domain) (ZG n tk.domain) l34 l35 n36 v37) (by unfold Few;omega)
     (fun all q j hj hd hq=>by
      have j0:=hj.1;have j1:=hj.2
      simp only[Qd]
      rw[if_pos (by simpa using j1),Zb hj,Option.bind_some,ZbT hd hq,Option.bind_some,Zc (by omega) (by omega)]) (fun all q k=>by simp[Qd]) (fun x hx=>by
      have:=Wg hr _ d2 d3 x hx
      exact⟨this.1,this.2,hlb.p0,hlb.p1,hlb.l0,hlb.l1,fun t h=> .hop (hlb.sp t h) hx,fun t h=> .hop (hlb.sl t h) hx⟩)
     (all:=b) (q:=List.set r (Int.toNat i) ⟨tk,true⟩) hA (by rw[hlen1];exact hP)
    have hP1:=G1.pot
    have hpl1:=Z5X G1.ok
    obtain⟨b2,r2,e2,G2,K2⟩:=ZbU (E:=ZG n) (R:=Yd n) (S:=S) hN (xs:=Yd n tk.domain) (y:=⟨0,(Z0 b tk.domain).plain⟩) (f:=fun s=>match s with|(l66,l67,n68,v69)=>Qe a1 a2 a3 a4 a5 a6 a7 a8 n10 (mkG n.domains.length (ZG n)) (mkG n.domains.length (Yd n)) i (Z0 b tk.domain) (Yd n tk.domain) l66 l67 n68 v69) (by unfold Few;omega)
     (fun all q j hj hd hq=>by
      have j0:=hj.1;have j1:=hj.2
      simp only[Qe]
      rw[if_pos (by simpa using j1),Zb hj,Option.bind_some,ZbT hd hq,Option.bind_some,Zc (by omega) (by omega)]) (fun all q k=>by simp[Qe]) (fun x hx=>by
      have:=Z06 hr _ d2 d3 x hx
      exact⟨this.1,this.2,by simp only;omega,by simp only;omega,hlb.p0,hlb.p1,fun t h=>(by rw[VX]at h;cases h),fun t h=> .route (hlb.sp t h) hx⟩)
     (all:=b1) (q:=r1) G1.ok (by omega)
    have G:=G1.trans hA G2
    have hP2:=G.pot
    rw[hlen1]at hP2
    obtain⟨ee,rfl,ee1,ee2⟩:=G.ext
    have hlb1:=G1.ok.1
    refine⟨.inl (b2,List.set r (Int.toNat i) ⟨tk,true⟩++ee,(List.set r (Int.toNat i) ⟨tk,true⟩++ee).length,i+1), ?_,⟨by simp only;omega,by simp only[List.length_append,hlen1];omega,rfl,G.ok,by simp only;omega,fun j hj hji=> ?_,fun d hd=> ?_,fun d x0 x1=> ?_⟩,by simp only;omega⟩
    ·simp only[Qf]
     rw[if_pos (by simpa using c),if_pos (Yi hir),Y8 hir,Option.bind_some,if_neg (by rw[d1];simp),Option.bind_some,hat,if_pos (Yi hsi),Y8 hsi,Option.bind_some,hgi]
     simp only
     rw[if_pos (Yi hib),Y8 hib,Option.bind_some,if_pos (Yi ie),Y8 ie,Option.bind_some,Vu ⟨d2,d3⟩]
     rw[←hlen1,e1,Option.bind_some]
     simp only
     rw[if_pos (Yi il),Y8 il,Option.bind_some,Vu ⟨d2,d3⟩,e2,Option.bind_some,Zc (by omega) (by omega)]
    ·simp only at hj hji⊢
     by_cases e:inL (List.set r (Int.toNat i) (⟨tk,true⟩:Zw)) j
     ·rw[Zbt e,WG hir (Ut.1 e),if_neg (by omega)]
      exact hE j (Ut.1 e) (by omega)
     ·have hm:=ZR hj
      obtain⟨m,hm1,hm2⟩:∃m:Nat,j=(List.set r (Int.toNat i) (⟨tk,true⟩:Zw)).length+m∧m<ee.length:=by
       have h1:=hj.1;have h2:=hj.2
       rw[List.length_append]at h2
       have:¬j<((List.set r (Int.toNat i) (⟨tk,true⟩:Zw)).length:Int):=fun h=>e ⟨h1,h⟩
       exact⟨(j-(List.set r (Int.toNat i) (⟨tk,true⟩:Zw)).length).toNat,by omega,by omega⟩
      have:Z0 (List.set r (Int.toNat i) (⟨tk,true⟩:Zw)++ee) j∈ee:=by
       have:(List.set r (Int.toNat i) (⟨tk,true⟩:Zw)++ee)[j.toNat]?=some ee[m]:=by
        rw[List.getElem?_append_right (by omega),show j.toNat-(List.set r (Int.toNat i) (⟨tk,true⟩:Zw)).length=m by omega]
        exact List.getElem?_eq_getElem hm2
       unfold Z0;rw[this];exact List.getElem_mem hm2
      exact ee1 _ this
    ·exact(hM d hd).trans (G.mono d ⟨hd.1,by have:=hd.2;have:=ha.1;have:=hA.1;omega⟩)
    ·simp only
     have hdb:inL b d:=⟨x0,by have:=hA.1;omega⟩
     -- who grew waits
     have wait:(∃x∈ee,x.task.domain=d)→∃j,inL (List.set r (Int.toNat i) (⟨tk,true⟩:Zw)++ee) j∧i+1≤j∧(Z0 (List.set r (Int.toNat i) (⟨tk,true⟩:Zw)++ee) j).task.domain=d:=by
      rintro ⟨x,hx,hxd⟩
      obtain⟨m,hm,rfl⟩:=W0 hx
      have m0:=hm.1;have m1:=hm.2
      refine⟨(r.length:Int)+m,⟨by omega,by rw[List.length_append,hlen1];omega⟩,by omega, ?_⟩
      have:Z0 (List.set r (Int.toNat i) (⟨tk,true⟩:Zw)++ee) ((r.length:Int)+m)=Z0 ee m:=by
       unfold Z0
       rw[List.getElem?_append_right (by omega)]
       congr 2;omega
      rw[this];exact hxd
     rcases(ee2 d hdb).symm with hgrew|same
     ·exact .inl (wait hgrew)
     by_cases hdt:d=tk.domain
     ·subst hdt
      refine .inr ⟨fun h hh'=> ?_,fun h hh' t ht=> ?_⟩
      ·rw[same]
       have hin2:=Wg hr _ d2 d3 h hh'
       exact(K1 h hh').trans (G2.mono h ⟨hin2.1,by omega⟩)
      ·rw[same]at ht
       exact(K2 h hh').2 t ht
     ·rcases hC d x0 x1 with⟨j,hj,hij,hjd⟩|hcl
      ·refine .inl ⟨j,ZgY (Ut.2 hj), ?_, ?_⟩
       ·by_cases e:j=i
        ·subst e;rw[hat]at hjd;exact absurd hjd.symm hdt
        ·omega
       ·rw[Zbt (Ut.2 hj),WG hir hj,if_neg (by
         intro e;subst e;rw[hat]at hjd;exact hdt hjd.symm)]
        exact hjd
      ·refine .inr ⟨fun h hh'=> ?_,fun h hh' t ht=> ?_⟩
       ·have hin2:=Wg hr _ x0 x1 h hh'
        rw[same]
        exact(hcl.1 h hh').trans (G.mono h ⟨hin2.1,by have:=hA.1;omega⟩)
       ·have hin2:=Z06 hr _ x0 x1 h hh'
        rw[same]at ht
        exact(G.mono h ⟨hin2.1,by have:=hA.1;omega⟩).2 t (hcl.2 h hh' t ht)
   ·have:i=r.length:=by omega
    subst this
    refine⟨.inr (b,r,r.length), ?_,hA,hM,fun d x0 x1=> ?_⟩
    ·simp only[Qf]
     rw[if_neg (by simp)]
    ·rcases hC d x0 x1 with⟨j,hj,hij,_⟩|h
     ·have:=hj.2;omega
     ·exact h) ⟨by simp,by simp,rfl,ha,hq,fun j hj _=>hqe _ (ZR hj),fun d _=>Xo.refl,fun d x0 x1=>by
    have hd:inL all d:=⟨x0,by have:=ha.1;omega⟩
    rcases hw d hd with h|⟨x,hx,h⟩
    ·refine .inr ⟨fun h' _=> ?_,fun h' _ t ht=> ?_⟩
     ·rw[h];exact⟨fun t ht=>(by rw[VX]at ht;cases ht),fun t ht=>(by rw[VX]at ht;cases ht)⟩
     ·rw[h,VX]at ht;cases ht
    ·obtain⟨j,hj,rfl⟩:=W0 hx
     exact .inl ⟨j,hj,hj.1,h⟩⟩ (by simp only;omega)
 refine⟨b,r,k, ?_,h1,h2,h3⟩
 unfold Z32
 rw[e];rfl
end
end Go.Eng

set_option linter.unusedVariables false
set_option linter.unusedSectionVars false
set_option linter.unusedSimpArgs false
namespace Go.Eng
open Go Classical
attribute [local congr] Yl

section
variable {n:Z2} {of:List Int}
abbrev ZU (n:Z2) (of:List Int):Bool→Int→Nat→Prop:=Der (ZG n) (Yd n) (Xw n of)
structure Z8s (n:Z2) (of:List Int) (b:List Z9):Prop where
 ok:WQ (ZG n) (Yd n) (Xw n of) n.domains.length b
 closed:∀d,0≤d→d<(n.domains.length:Int)→Z42 (ZG n) (Yd n) b d
 plain:∀d,inL n.domains d→∀t,tb (Z0 b d).plain t=true↔ZU n of false d t
 led:∀d,inL n.domains d→∀t,tb (Z0 b d).led t=true↔ZU n of true d t
theorem TG (ho:YN n of) {p:Int} (hp:inL n.ports p):inL of p∧(Z0 of p= -1∨0≤Z0 of p∧Z0 of p<10):=by
 have hi:inL of p:=⟨hp.1,by have:=hp.2;have:=ho.1;omega⟩
 have:=ho.2.2 p hi
 refine⟨hi, ?_⟩
 by_cases c:0≤(Z0 n.ports p).link
 ·exact .inl (this.1 c)
 ·exact .inr (this.2 (by omega))
theorem Zii (hg:Ym n 200 100) (ho:YN n of) {d:Int} (hd:inL n.domains d) {u v:List (List Int)} {z all:List Z9} {q:List Zw} (hz:WQ (ZG n) (Yd n) (Xw n of) n.domains.length z) (hz0:0≤pot z)
  (hG:W4 (ZG n) (Yd n) (Xw n of) n.domains.length z [] all q) (hq:(q.length:Int)≤pot all):
  ∃b r,Z8 (fun s:(List Z9)×(List Zw)×Int=>match s with|(l17,l18,v19)=>Ua n of u v d (ZS n d) l17 l18 v19) (all,q,0)=some (b,r)∧W4 (ZG n) (Yd n) (Xw n of) n.domains.length z [] b r∧(r.length:Int)≤pot b∧(∀x,inL n.domains x→Xo (Z0 all x) (Z0 b x))∧
   ∀p∈ZS n d,∀t:Nat,Z0 of p=(t:Int)→tb (Z0 b d).plain t=true:=by
 have hml:(ZS n d).length≤200:=Nat.le_trans Z05 hg.ports
 have hdl:=hg.domains
 obtain⟨⟨b,r⟩,e,h1,h2,h3,h4⟩:=XE (f:=fun s:(List Z9)×(List Zw)×Int=>match s with|(l17,l18,v19)=>Ua n of u v d (ZS n d) l17 l18 v19)
  (fun s=>0≤s.2.2∧s.2.2≤(ZS n d).length∧W4 (ZG n) (Yd n) (Xw n of) n.domains.length z [] s.1 s.2.1∧(s.2.1.length:Int)≤pot s.1∧(∀x,inL n.domains x→Xo (Z0 all x) (Z0 s.1 x))∧∀j,inL (ZS n d) j→j<s.2.2→∀t:Nat,Z0 of (Z0 (ZS n d) j)=(t:Int)→tb (Z0 s.1 d).plain t=true)
  (fun r=>W4 (ZG n) (Yd n) (Xw n of) n.domains.length z [] r.1 r.2∧(r.2.length:Int)≤pot r.1∧(∀x,inL n.domains x→Xo (Z0 all x) (Z0 r.1 x))∧∀p∈ZS n d,∀t:Nat,Z0 of p=(t:Int)→tb (Z0 r.1 d).plain t=true)
  (fun s=>((ZS n d).length-s.2.2).toNat) (s:=(all,q,0)) (fun s hI=>by
   obtain⟨b,r,j⟩:=s
   obtain⟨j0,j1,hB,hP,hM,hK⟩:=hI
   simp only at j0 j1 hB hP hM hK⊢
   have hbl:=hB.ok.1
   have hpl:=Z5X hB.ok
   have hdb:inL b d:=⟨hd.1,by have:=hd.2;omega⟩
   by_cases c:j<((ZS n d).length:Int)
   ·have hj:inL (ZS n d) j:=⟨j0,c⟩
    have hmem:=ZR hj
    obtain⟨hio,hval⟩:=TG ho (Z04 hmem)
    have hw:=Zc (n:=j+1) (by omega) (by omega)
    by_cases hv:0≤Z0 of (Z0 (ZS n d) j)
    ·obtain⟨t,ht⟩:∃t:Nat,Z0 of (Z0 (ZS n d) j)=(t:Int):=⟨(Z0 of (Z0 (ZS n d) j)).toNat,by omega⟩
     have ht10:t<10:=by omega
     have hlab:Z03 (ZG n) (Yd n) (Xw n of) d ⟨((2 ^ t:Nat):Int),0⟩:=⟨Int.natCast_nonneg _,Z5W ht10,by simp only;omega,by simp only;omega,fun t' h'=>by
      have h':tb ((2 ^ t:Nat):Int) t'=true:=h'
      rw[ZbD,decide_eq_true_eq]at h'
      subst h'
      exact .seed ⟨hd,_,hmem,ht⟩,fun t' h'=>(by
      have h':tb 0 t'=true:=h'
      rw[VX]at h';cases h')⟩
     obtain⟨g1,g2⟩:=ZbE (q:=r) hB.ok hdb hlab
     have hgp:=g1.pot
     have hpw:Z4 (1 * 2 ^ (min (Int.toNat (t:Int)) 64))=((2 ^ t:Nat):Int):=by
      have:min (Int.toNat (t:Int)) 64=t:=by omega
      rw[this,Int.one_mul]
      have h1:=Z5W ht10
      have h2:(2:Int) ^ t=((2 ^ t:Nat):Int):=by simp
      rw[h2]
      have h3:0≤((2 ^ t:Nat):Int):=Int.natCast_nonneg _
      generalize ((2 ^ t:Nat):Int)=P at *
      exact Zc (by omega) (by omega)
     refine⟨.inl ((Wt b r d ⟨((2 ^ t:Nat):Int),0⟩).1,(Wt b r d ⟨((2 ^ t:Nat):Int),0⟩).2,j+1), ?_,⟨by simp only;omega,by simp only;omega,hB.trans hz g1,by simp only;omega,fun x hx=>(hM x hx).trans (g1.mono x ⟨hx.1,by have:=hx.2;omega⟩),fun i hi hij t' ht'=> ?_⟩,by simp only;omega⟩
     ·simp only[Ua]
      rw[if_pos (by simpa using c),if_pos (Yi hj),Y8 hj,Option.bind_some,Zb hio,Option.bind_some,if_pos (by simpa using hv),Option.bind_some,if_pos (by simpa using hv),ht,hpw,Zig hdb (by omega),Option.bind_some,hw]
     ·simp only at hij⊢
      by_cases e:i=j
      ·subst e
       rw[ht]at ht'
       have:t=t':=by omega
       subst this
       exact g2.1 t (by show tb ((2 ^ t:Nat):Int) t=true;rw[ZbD];simp)
      ·exact(g1.mono d hdb).1 t' (hK i hi (by omega) t' ht')
    ·refine⟨.inl (b,r,j+1), ?_,⟨by simp only;omega,by simp only;omega,hB,hP,hM,fun i hi hij t' ht'=> ?_⟩,by simp only;omega⟩
     ·simp only[Ua]
      rw[if_pos (by simpa using c),if_pos (Yi hj),Y8 hj,Option.bind_some,Zb hio,Option.bind_some,if_neg (by simpa using hv),hw]
     ·simp only at hij
      by_cases e:i=j
      ·subst e;omega
      ·exact hK i hi (by omega) t' ht'
   ·have:j=(ZS n d).length:=by omega
    subst this
    refine⟨.inr (b,r),by simp only[Ua];rw[if_neg (by simp)],hB,hP,hM,fun p hp t ht=> ?_⟩
    obtain⟨i,hi,rfl⟩:=W0 hp
    exact hK i hi hi.2 t ht) ⟨by simp,by simp,hG,hq,fun x _=>Xo.refl,fun j hj h=>by have:=hj.1;simp only at h;omega⟩ (by simp only;omega)
 exact⟨b,r,e,h1,h2,h3,h4⟩
theorem ZbV (hs:SmN n) (hf:Few of) (h:¬YN n of):Ub n of=some ([],0,false):=by
 simp only[Ub,Z8p hs hf,Option.bind_some,decide_eq_false h,Bool.not_false,if_true]
theorem Z8t (hn:n.Ok) (hg:Ym n 200 100) (hf:Few of) (ho:YN n of):∃b,Ub n of=some (b,n.domains.length,true)∧Z8s n of b:=by
 have hs:=hg.sm
 have hr:=ho.2.1
 have hdl:=hg.domains
 have hz:WQ (ZG n) (Yd n) (Xw n of) n.domains.length (List.replicate n.domains.length (⟨0,0⟩:Z9)):=by
  refine⟨by simp,fun d hd=> ?_⟩
  rw[List.eq_of_mem_replicate (ZR hd)]
  exact⟨by simp,by simp,by simp,by simp,fun t h=>(by have h:tb 0 t=true:=h;rw[VX]at h;cases h),fun t h=>(by have h:tb 0 t=true:=h;rw[VX]at h;cases h)⟩
 have hz0:pot (List.replicate n.domains.length (⟨0,0⟩:Z9))=0:=by
  unfold pot
  rw[List.map_replicate]
  have:∀k,(List.replicate k (TA ⟨0,0⟩)).sum=0:=fun k=>by
   induction k with
   |zero=>rfl
   |succ k ih=>rw[List.replicate_succ,List.sum_cons,ih];rfl
  exact this _
 have hzg:∀d,inL (List.replicate n.domains.length (⟨0,0⟩:Z9)) d→Z0 (List.replicate n.domains.length (⟨0,0⟩:Z9)) d=⟨0,0⟩:=fun d hd=>List.eq_of_mem_replicate (ZR hd)
 generalize hzz:List.replicate n.domains.length (⟨0,0⟩:Z9)=z at *
 obtain⟨⟨b,r⟩,e,h1,h2,h3⟩:=XE (f:=fun s:(List Z9)×(List Zw)×Int=>match s with|(l10,l11,v12)=>Qg n of (mkG n.domains.length (ZG n)) (mkG n.domains.length (Yd n)) l10 l11 v12)
  (fun s=>0≤s.2.2∧s.2.2≤n.domains.length∧W4 (ZG n) (Yd n) (Xw n of) n.domains.length z [] s.1 s.2.1∧(s.2.1.length:Int)≤pot s.1∧∀d t,Xw n of d t→d<s.2.2→tb (Z0 s.1 d).plain t=true)
  (fun r=>W4 (ZG n) (Yd n) (Xw n of) n.domains.length z [] r.1 r.2∧(r.2.length:Int)≤pot r.1∧∀d t,Xw n of d t→tb (Z0 r.1 d).plain t=true)
  (fun s=>(n.domains.length-s.2.2).toNat) (s:=(z,[],0)) (fun s hI=>by
   obtain⟨b,r,j⟩:=s
   obtain⟨j0,j1,hB,hP,hK⟩:=hI
   simp only at j0 j1 hB hP hK⊢
   by_cases c:j<(n.domains.length:Int)
   ·have hj:inL n.domains j:=⟨j0,c⟩
    obtain⟨b',r',e1,k1,k2,k3,k4⟩:=Zii hg ho hj (u:=mkG n.domains.length (ZG n)) (v:=mkG n.domains.length (Yd n)) hz (by omega) hB hP
    refine⟨.inl (b',r',j+1), ?_,⟨by simp only;omega,by simp only;omega,k1,k2,fun d t hdt hlt=> ?_⟩,by simp only;omega⟩
    ·simp only[Qg]
     rw[if_pos (by simpa using c),Z8g hs,if_pos ⟨hr,hj⟩,Option.bind_some]
     rw[e1,Option.bind_some,Zc (by omega) (by omega)]
    ·simp only at hlt⊢
     by_cases e:d=j
     ·subst e
      obtain⟨_,p,hp,hpt⟩:=hdt
      exact k4 p hp t hpt
     ·exact(k3 d hdt.1).1 t (hK d t hdt (by omega))
   ·have:j=n.domains.length:=by omega
    subst this
    refine⟨.inr (b,r),by simp only[Qg];rw[if_neg (by simp)],hB,hP,fun d t hdt=>hK d t hdt hdt.1.2⟩) ⟨by simp,by simp,W4.refl hz,by simp only[List.length_nil];omega,fun d t hdt h=>by have:=hdt.1.1;simp only at h;omega⟩ (by simp only;omega)
 simp only at h1 h2 h3
 obtain⟨ee,hre,ee1,ee2⟩:=h1.ext
 rw[List.nil_append]at hre
 subst hre
 obtain⟨b',r',k,e2,g1,g2,g3⟩:=Zih (S:=Xw n of) (n:=n) hdl hr (fun d=>by
   by_cases hd:inL n.domains d
   ·refine .inl ?_
    unfold ZG;rw[List.length_map]
    have:=Z8h hg hd;omega
   ·exact .inr hd) hg.irbs (a1:=n.devices) (a2:=n.ports) (a3:=n.links) (a4:=n.domains) (a5:=n.statics) (a6:=n.floods) (a7:=n.vrfs) (a8:=n.irbs) (n10:=n.domains.length) h1.ok h2 ee1 (fun d hd=>by
   have hzd:inL z d:=⟨hd.1,by have:=hd.2;have:=h1.ok.1;have:=hz.1;omega⟩
   rcases ee2 d hzd with h|h
   ·exact .inl (h.trans (hzg d hzd))
   ·exact .inr h)
 have hbl:=h1.ok.1
 have hcl:=Zhg (N:=n.domains.length) (S:=Xw n of) (Wg hr) (Z06 hr) (fun d t h=>h.1) g3 (fun d t h=>(g2 d ⟨h.1.1,by have:=h.1.2;omega⟩).1 t (h3 d t h))
 have hin:∀d,inL n.domains d→inL b' d:=fun d hd=>⟨hd.1,by have:=hd.2;have:=g1.1;omega⟩
 refine⟨b', ?_,g1,g3,fun d hd t=>⟨(g1.2 d (hin d hd)).sp t,fun h=>by simpa using (hcl false d t h).2⟩,fun d hd t=>⟨(g1.2 d (hin d hd)).sl t,fun h=>by simpa using (hcl true d t h).2⟩⟩
 simp only[Ub,Z8p hs hf,Option.bind_some,decide_eq_true ho,Bool.not_true,Bool.false_eq_true,if_false,Zif hn hg hr,Int.toNat_natCast]
 rw[hzz,e,Option.bind_some]
 simp only
 rw[e2];rfl
end
end Go.Eng

set_option linter.unusedVariables false
set_option linter.unusedSectionVars false
set_option linter.unusedSimpArgs false
namespace Go.Eng
open Go Classical
attribute [local congr] Yl

/-! ### Rounds over true and false -/
noncomputable def Xx (i h:Int) (l:List Bool):List Bool:=l.set h.toNat (Z0 l h||Z0 l i)
def Vc (b:Bool):Int:=if b then 1 else 0
def YW (l:List Bool):Int:=(l.map Vc).sum
theorem Z8u {l:List Bool} {d:Int} {x:Bool} (hd:inL l d):YW (l.set d.toNat x)=YW l-Vc (Z0 l d)+Vc x:=by
 unfold YW
 rw[List.map_set]
 exact Z8a _ _ _ _ (by rw[List.getElem?_map,Y8 hd];rfl)
theorem Zij {l:List Bool} :YW l≤l.length:=by
 have:=Z8b (M:=1) (l.map Vc) (fun x hx=>by
  obtain⟨y,_,rfl⟩:=List.mem_map.1 hx
  unfold Vc;split <;> omega)
 rw[List.length_map]at this
 unfold YW;omega
theorem Zik {l:List Bool} (h:(l.length:Int)≤YW l) {d:Int} (hd:inL l d):Z0 l d=true:=by
 cases c:Z0 l d
 ·have h1:=Z8u (x:=true) hd
  have h2:=Zij (l:=l.set d.toNat true)
  rw[c]at h1
  rw[List.length_set]at h2
  simp[Vc]at h1
  omega
 ·rfl
theorem Z07 {α:Type} [Inhabited α] {l:List α} {d:Int} (hd:inL l d):l.set d.toNat (Z0 l d)=l:=by
 refine Z40.2 ⟨by simp,fun i hi=> ?_⟩
 have hi:=Ut.1 hi
 show Z0 _ i=Z0 l i
 rw[WG hd hi]
 split
 ·rename_i e;rw[e]
 ·rfl
section
variable {i h:Int} {l:List Bool}
theorem Z8v:(Xx i h l).length=l.length:=by simp[Xx]
theorem ZbW (hh:inL l h) {d:Int} (hd:inL l d):Z0 (Xx i h l) d=if d=h then(Z0 l h||Z0 l i)else Z0 l d:=WG hh hd
theorem Zil (hh:inL l h) {d:Int} (hd:inL l d) (ht:Z0 l d=true):Z0 (Xx i h l) d=true:=by
 rw[ZbW hh hd];split
 ·rename_i e;rw[←e,ht];rfl
 ·exact ht
theorem Zim (hh:inL l h):YW l≤YW (Xx i h l)∧(YW (Xx i h l)=YW l→Xx i h l=l∧(Z0 l i=true→Z0 l h=true)):=by
 unfold Xx
 rw[Z8u hh]
 cases c:Z0 l h <;> cases c2:Z0 l i <;> simp[Vc]
 ·have:=Z07 hh;rw[c]at this;exact this
 ·omega
 ·have:=Z07 hh;rw[c]at this;exact this
 ·have:=Z07 hh;rw[c]at this;exact this
theorem Zin (hh:inL l h) (hc:Z0 l i=true→Z0 l h=true):Xx i h l=l:=by
 have e:(Z0 l h||Z0 l i)=Z0 l h:=by
  cases c:Z0 l h <;> cases c2:Z0 l i <;> simp
  rw[c]at hc;exact absurd (hc c2) (by simp)
 unfold Xx
 rw[e];exact Z07 hh
end
noncomputable def Xk (i:Int) (hs:List Int) (l:List Bool):List Bool:=hs.foldl (fun l h=>Xx i h l) l
section
variable {i:Int}
theorem Z64:∀(hs:List Int) (l:List Bool),(Xk i hs l).length=l.length
 | [],l=>rfl
 |h::hs,l=>by
  show(Xk i hs (Xx i h l)).length=_
  rw[Z64 hs,Z8v]
theorem ZbX {P:List Bool→Prop} (N:Nat):∀(hs:List Int) (l:List Bool),(∀h∈hs,0≤h∧h<(N:Int))→l.length=N→P l→(∀l h,h∈hs→l.length=N→inL l h→P l→P (Xx i h l))→P (Xk i hs l)
 | [],l,_,_,h,_=>h
 |h::hs,l,hb,hl,hp,hs'=>by
  have h1:=hb h (by simp)
  have hi:inL l h:=⟨h1.1,by omega⟩
  exact ZbX N hs (Xx i h l) (fun x hx=>hb x (by simp[hx])) (by rw[Z8v];exact hl) (hs' l h (by simp) hl hi hp) (fun l x hx=>hs' l x (by simp[hx]))
theorem ZbY (N:Nat):∀(hs:List Int) (l:List Bool),(∀h∈hs,0≤h∧h<(N:Int))→l.length=N→YW l≤YW (Xk i hs l)∧(YW (Xk i hs l)=YW l→Xk i hs l=l∧∀h∈hs,Z0 l i=true→Z0 l h=true)
 | [],l,_,_=>⟨Int.le_refl _,fun _=>⟨rfl,by simp⟩⟩
 |h::hs,l,hb,hl=>by
  have h1:=hb h (by simp)
  have hi:inL l h:=⟨h1.1,by omega⟩
  have hs1:=Zim (i:=i) hi
  have hs2:=ZbY N hs (Xx i h l) (fun x hx=>hb x (by simp[hx])) (by rw[Z8v];exact hl)
  have e:Xk i (h::hs) l=Xk i hs (Xx i h l):=rfl
  rw[e]
  refine⟨by omega,fun hc=> ?_⟩
  obtain⟨k1,k2⟩:=hs1.2 (by omega)
  obtain⟨k3,k4⟩:=hs2.2 (by omega)
  rw[k1]at k3 k4
  rw[k1]
  refine⟨k3,fun x hx=> ?_⟩
  rcases List.mem_cons.1 hx with rfl|hx
  ·exact k2
  ·exact k4 x hx
end
noncomputable def YO (H:Int→List Int):Nat→List Bool→List Bool
 |0,l=>l
 |k+1,l=>Xk (k:Int) (H k) (YO H k l)
section
variable {H:Int→List Int} {N:Nat} (hH:∀d,0≤d→d<(N:Int)→∀h∈H d,0≤h∧h<(N:Int))
theorem Z08:∀(k:Nat) (l:List Bool),(YO H k l).length=l.length
 |0,l=>rfl
 |k+1,l=>by rw[YO,Z64,Z08 k]
include hH
theorem Z8w {P:List Bool→Prop} :∀(k:Nat) (l:List Bool),k≤N→l.length=N→P l→(∀l i h,0≤i→i<(N:Int)→h∈H i→l.length=N→inL l h→P l→P (Xx i h l))→P (YO H k l)
 |0,l,_,_,h,_=>h
 |k+1,l,hk,hl,hp,hs=>by
  rw[YO]
  exact ZbX N _ _ (hH k (by omega) (by omega)) (by rw[Z08];exact hl) (Z8w k l (by omega) hl hp hs) (fun l h hh=>hs l k h (by omega) (by omega) hh)
theorem ZbZ:∀(k:Nat) (l:List Bool),k≤N→l.length=N→YW l≤YW (YO H k l)∧(YW (YO H k l)=YW l→YO H k l=l∧∀i:Int,0≤i→i<(k:Int)→∀h∈H i,Z0 l i=true→Z0 l h=true)
 |0,l,_,_=>⟨Int.le_refl _,fun _=>⟨rfl,fun i h0 h1=>by omega⟩⟩
 |k+1,l,hk,hl=>by
  have h1:=ZbZ k l (by omega) hl
  have h2:=ZbY (i:=(k:Int)) N (H k) (YO H k l) (hH k (by omega) (by omega)) (by rw[Z08];exact hl)
  rw[YO]
  refine⟨by omega,fun hc=> ?_⟩
  obtain⟨k1,k2⟩:=h1.2 (by omega)
  obtain⟨k3,k4⟩:=h2.2 (by omega)
  rw[k1]at k3 k4⊢
  refine⟨k3,fun i i0 i1=> ?_⟩
  by_cases e:i=(k:Int)
  ·subst e;exact k4
  ·exact k2 i i0 (by omega)
def ClB (H:Int→List Int) (N:Nat) (l:List Bool):Prop:=∀i:Int,0≤i→i<(N:Int)→∀h∈H i,Z0 l i=true→Z0 l h=true
omit hH in
theorem Zc0 {i:Int} :∀(hs:List Int) (l:List Bool),(∀h∈hs,inL l h∧(Z0 l i=true→Z0 l h=true))→Xk i hs l=l
 | [],l,_=>rfl
 |h::hs,l,hb=>by
  have h1:=hb h (by simp)
  have e:Xk i (h::hs) l=Xk i hs (Xx i h l):=rfl
  rw[e,Zin h1.1 h1.2]
  exact Zc0 hs l (fun x hx=>hb x (by simp[hx]))
theorem Z65 {l:List Bool} (hl:l.length=N) (hc:ClB H N l):∀k:Nat,k≤N→YO H k l=l
 |0,_=>rfl
 |k+1,hk=>by
  rw[YO,Z65 hl hc k (by omega)]
  exact Zc0 _ _ (fun h hh=>⟨by have:=hH k (by omega) (by omega) h hh;exact⟨this.1,by omega⟩,hc k (by omega) (by omega) h hh⟩)
theorem Zc1 {c:Int} {l:List Bool} (hl:l.length=N) (hc:ClB H N l∨c≤YW l):ClB H N (YO H N l)∨c+1≤YW (YO H N l):=by
 rcases hc with h|h
 ·rw[Z65 hH hl h N (Nat.le_refl _)];exact .inl h
 ·have h1:=ZbZ hH N l (Nat.le_refl _) hl
  by_cases e:YW (YO H N l)=YW l
  ·obtain⟨k1,k2⟩:=h1.2 e
   rw[k1];exact .inl k2
  ·exact .inr (by omega)
omit hH in
theorem Z8x (hH:∀d,0≤d→d<(N:Int)→∀h∈H d,0≤h∧h<(N:Int)) {l:List Bool} (hl:l.length=N) (hc:ClB H N l∨(N:Int)≤YW l):ClB H N l:=by
 rcases hc with h|h
 ·exact h
 ·intro i i0 i1 x hx _
  have:=hH i i0 i1 x hx
  exact Zik (by omega) ⟨this.1,by omega⟩
end
end Go.Eng

set_option linter.unusedVariables false
set_option linter.unusedSectionVars false
set_option linter.unusedSimpArgs false
namespace Go.Eng
open Go Classical
attribute [local congr] Yl

theorem Zio {α β:Type} {f:β→α→β} {l:List α} {b:β} {k:Nat} {x:α} (h:l[k]?=some x):(l.take (k+1)).foldl f b=f ((l.take k).foldl f b) x:=by
 rw[List.take_add_one,h];simp
section
variable {n:Z2} {of:List Int}
theorem Zip {v48 i k h:Int} {l56:List Ya} {l57 l58:List Bool} (hk:inL l56 k) (hh:(Z0 l56 k).domain=h) (h1:inL l57 h) (h2:inL l57 i):Z3s n v48 i l56 l57 l58 k=some (Xx i h l57):=by
 unfold Z3s Xx
 rw[if_pos (Yi hk),Y8 hk,Option.bind_some,Option.bind_some,hh,if_pos (Yi h1),Y8 h1,Option.bind_some]
 cases c:Z0 l57 h
 ·rw[if_neg (by simp),if_pos (Yi h2),Y8 h2,Option.bind_some,if_pos (Yi h1),Option.bind_some];simp
 ·rw[if_pos rfl,if_pos (Yi h1),Option.bind_some];simp
theorem Ziq (hg:Ym n 200 100) {d:Int} (hd:inL n.domains d):(ZG n d).length≤300:=by unfold ZG;rw[List.length_map];exact Z8h hg hd
theorem Zir (hg:Ym n 200 100) (hr:ZM n) {i v48:Int} (hi:inL n.domains i) {p l:List Bool} (hp:p.length=n.domains.length) (hl:l.length=n.domains.length):
  Z8 (fun s:(List Bool)×(List Bool)×Int=>match s with|(l57,l58,v59)=>T2 n v48 i ((XU n i).map TC) l57 l58 v59) (p,l,0)=some (Xk i (ZG n i) p,Xk i (ZG n i) l):=by
 have hhl:=Ziq hg hi
 have hHl:(XU n i).length=(ZG n i).length:=by unfold ZG;simp
 have hHin:=Wg hr i hi.1 hi.2
 have:=Xu (f:=fun s:(List Bool)×(List Bool)×Int=>match s with|(l57,l58,v59)=>T2 n v48 i ((XU n i).map TC) l57 l58 v59) (r:=(Xk i (ZG n i) p,Xk i (ZG n i) l))
  (fun k=>(Xk i ((ZG n i).take k) p,Xk i ((ZG n i).take k) l,(k:Int))) (ZG n i).length (by omega) (fun k hk=>by
   have hx:(ZG n i)[k]?=some (ZG n i)[k]:=List.getElem?_eq_getElem hk
   have t1:∀q,Xk i ((ZG n i).take (k+1)) q=Xx i (ZG n i)[k] (Xk i ((ZG n i).take k) q):=fun q=>Zio hx
   have hb:=hHin _ (List.getElem_mem hk)
   have ik:inL ((XU n i).map TC) (k:Int):=⟨by omega,by simp;omega⟩
   have ik2:inL (XU n i) (k:Int):=⟨by omega,by omega⟩
   have gd:(Z0 ((XU n i).map TC) (k:Int)).domain=(ZG n i)[k]:=by
    have h1:=Y8 ik2
    rw[Int.toNat_natCast]at h1
    have h2:((XU n i).map TC)[k]?=some (TC (Z0 (XU n i) (k:Int))):=by rw[List.getElem?_map,h1];rfl
    have h3:(ZG n i)[k]?=some (Z0 (XU n i) (k:Int)).domain:=by unfold ZG;rw[List.getElem?_map,h1];rfl
    rw[h3]at hx
    rw[Xn h2]
    exact Option.some.inj hx
   rw[t1,t1]
   have q1:(Xk i ((ZG n i).take k) p).length=n.domains.length:=by rw[Z64];exact hp
   have q2:(Xk i ((ZG n i).take k) l).length=n.domains.length:=by rw[Z64];exact hl
   generalize Xk i ((ZG n i).take k) p=P at *
   generalize Xk i ((ZG n i).take k) l=L at *
   generalize (ZG n i)[k]=h at *
   have i1:inL P h:=⟨hb.1,by omega⟩
   have i2:inL P i:=⟨hi.1,by have:=hi.2;omega⟩
   have i3:inL L h:=⟨hb.1,by omega⟩
   have i4:inL L i:=⟨hi.1,by have:=hi.2;omega⟩
   have hlt:(k:Int) <(((XU n i).map TC).length:Int):=ik.2
   simp only[T2]
   rw[if_pos (decide_eq_true hlt),Zip ik gd i1 i2,Option.bind_some]
   rw[if_pos (Yi ik),Y8 ik,Option.bind_some,Option.bind_some,gd,if_pos (Yi i3),Y8 i3,Option.bind_some,Zc (by omega) (by omega)]
   cases c:Z0 L h
   ·rw[if_neg (by simp),if_pos (Yi i4),Y8 i4,Option.bind_some,if_pos (Yi i3),Option.bind_some];simp[Xx,c]
   ·rw[if_pos rfl,if_pos (Yi i3),Option.bind_some];simp[Xx,c]) (by
   simp only[T2]
   rw[if_neg (by simp[hHl]),List.take_length])
 simpa[Xk]using this
theorem Zc2 (hg:Ym n 200 100) (hr:ZM n) {v48:Int} {p l:List Bool} (hp:p.length=n.domains.length) (hl:l.length=n.domains.length):
  Z8 (fun s:(List Bool)×(List Bool)×Int=>match s with|(l50,l51,v52)=>T3 n v48 l50 l51 v52) (p,l,0)=some (YO (ZG n) n.domains.length p,YO (ZG n) n.domains.length l):=by
 have hdl:=hg.domains
 exact Xu (f:=fun s:(List Bool)×(List Bool)×Int=>match s with|(l50,l51,v52)=>T3 n v48 l50 l51 v52) (r:=(YO (ZG n) n.domains.length p,YO (ZG n) n.domains.length l))
  (fun k=>(YO (ZG n) k p,YO (ZG n) k l,(k:Int))) n.domains.length (by omega) (fun k hk=>by
   have hd:inL n.domains (k:Int):=⟨by omega,by omega⟩
   simp only[T3]
   rw[if_pos (by simpa using hk),ZhF hg hr hd,Option.bind_some]
   rw[Zir hg hr hd (by rw[Z08];exact hp) (by rw[Z08];exact hl),Option.bind_some,Zc (by omega) (by omega)]
   rfl) (by
   simp only[T3]
   rw[if_neg (by simp)])
theorem Zis (hn:n.Ok) (hg:Ym n 200 100) (hr:ZM n) {i:Int} (hi:inL n.domains i):∃ls:List YF,Uf n i=some ls∧ls.length≤200∧∀d,d∈Yd n i↔∃x∈ls,x.domain=d:=by
 have hs:=hg.sm
 have hb:=(hr.bare i hi).2.2.2.2.2.1
 by_cases c:(Z0 n.domains i).irb= -1
 ·refine⟨[],Zi9 (fun h=>h.2 c),by simp,fun d=> ?_⟩
  unfold Yd;rw[if_pos (by omega)];simp
 ·have h0:¬(Z0 n.domains i).irb<0:=by
   rcases hb with h|h
   ·exact absurd h c
   ·have:=h.1.1;omega
  refine⟨_,Zia hn hs hg.irbs hr hi c,by rw[List.length_map];exact Nat.le_trans Z8q hg.irbs,fun d=> ?_⟩
  unfold Yd;rw[if_neg h0,List.mem_map]
  constructor
  ·rintro ⟨x,hx,rfl⟩;exact⟨Z8o x,List.mem_map.2 ⟨x,hx,rfl⟩,rfl⟩
  ·rintro ⟨y,hy,rfl⟩
   obtain⟨x,hx,rfl⟩:=List.mem_map.1 hy
   exact⟨x,hx,rfl⟩
theorem Zit {v48 i:Int} {p l:List Bool} {N:Nat} (hp:p.length=N) (hl:l.length=N) (hi:0≤i∧i<(N:Int)) {ls:List YF} (hls:ls.length≤200) (hb:∀x∈ls,0≤x.domain∧x.domain<(N:Int)):
  ∃l',Z8 (fun s:(List Bool)×Int=>match s with|(l150,v151)=>T4 n v48 p i ls l150 v151) (l,0)=some l'∧l'.length=N∧∀d,inL l d→(Z0 l' d=true↔Z0 l d=true∨Z0 p i=true∧∃x∈ls,x.domain=d):=by
 obtain⟨l',e,h1,h2⟩:=XE (f:=fun s:(List Bool)×Int=>match s with|(l150,v151)=>T4 n v48 p i ls l150 v151)
  (fun s=>0≤s.2∧s.2≤ls.length∧s.1.length=N∧∀d,inL l d→(Z0 s.1 d=true↔Z0 l d=true∨Z0 p i=true∧∃j,inL ls j∧j<s.2∧(Z0 ls j).domain=d))
  (fun l'=>l'.length=N∧∀d,inL l d→(Z0 l' d=true↔Z0 l d=true∨Z0 p i=true∧∃x∈ls,x.domain=d)) (fun s=>(ls.length-s.2).toNat) (s:=(l,0)) (fun s hI=>by
   obtain⟨q,j⟩:=s
   obtain⟨j0,j1,hq,hK⟩:=hI
   simp only at j0 j1 hq hK⊢
   by_cases c:j<(ls.length:Int)
   ·have hj:inL ls j:=⟨j0,c⟩
    have hbx:=hb _ (ZR hj)
    have ih:inL q (Z0 ls j).domain:=⟨hbx.1,by omega⟩
    have ip:inL p i:=⟨hi.1,by omega⟩
    refine⟨.inl (q.set (Z0 ls j).domain.toNat (Z0 q (Z0 ls j).domain||Z0 p i),j+1), ?_,⟨by simp only;omega,by simp only;omega,by simp only[List.length_set];exact hq,fun d hd=> ?_⟩,by simp only;omega⟩
    ·simp only[T4]
     rw[if_pos (by simpa using c),if_pos (Yi hj),Y8 hj,Option.bind_some,Option.bind_some,if_pos (Yi ih),Y8 ih,Option.bind_some,Zc (by omega) (by omega)]
     cases c2:Z0 q (Z0 ls j).domain
     ·rw[if_neg (by simp),if_pos (Yi ip),Y8 ip,Option.bind_some,if_pos (Yi ih),Option.bind_some];simp
     ·rw[if_pos rfl,if_pos (Yi ih),Option.bind_some];simp
    ·have hdq:inL q d:=⟨hd.1,by have:=hd.2;omega⟩
     simp only
     rw[WG ih hdq]
     have hk:=hK d hd
     by_cases e:d=(Z0 ls j).domain
     ·rw[if_pos e,Bool.or_eq_true, ←e,hk]
      constructor
      ·rintro ((h|⟨h1,k,k1,k2,k3⟩)|h)
       ·exact .inl h
       ·exact .inr ⟨h1,k,k1,by omega,k3⟩
       ·exact .inr ⟨h,j,hj,by omega,e.symm⟩
      ·rintro (h|⟨h1,k,k1,k2,k3⟩)
       ·exact .inl (.inl h)
       ·exact .inr h1
     ·rw[if_neg e,hk]
      constructor
      ·rintro (h|⟨h1,k,k1,k2,k3⟩)
       ·exact .inl h
       ·exact .inr ⟨h1,k,k1,by omega,k3⟩
      ·rintro (h|⟨h1,k,k1,k2,k3⟩)
       ·exact .inl h
       ·refine .inr ⟨h1,k,k1, ?_,k3⟩
        by_cases e2:k=j
        ·subst e2;exact absurd k3.symm e
        ·omega
   ·have:j=ls.length:=by omega
    subst this
    refine⟨.inr q,by simp only[T4];rw[if_neg (by simp)],hq,fun d hd=> ?_⟩
    rw[hK d hd]
    constructor
    ·rintro (h|⟨h1,k,k1,k2,k3⟩)
     ·exact .inl h
     ·exact .inr ⟨h1,_,ZR k1,k3⟩
    ·rintro (h|⟨h1,x,hx,k3⟩)
     ·exact .inl h
     ·obtain⟨k,k1,rfl⟩:=W0 hx
      exact .inr ⟨h1,k,k1,k1.2,k3⟩) ⟨by simp,by simp,hl,fun d hd=>⟨.inl,fun h=>h.elim id (fun⟨_,k,k1,k2,_⟩=>by have:=k1.1;simp only at k2;omega)⟩⟩ (by simp only;omega)
 exact⟨l',e,h1,h2⟩
theorem Ziu (hn:n.Ok) (hg:Ym n 200 100) (hr:ZM n) {p l:List Bool} (hp:p.length=n.domains.length) (hl:l.length=n.domains.length):
  ∃l',Z8 (fun s:(List Bool)×Int=>match s with|(l143,v144)=>Vj n (n.domains.length:Int) p l143 v144) (l,0)=some l'∧l'.length=n.domains.length∧∀d,inL l d→(Z0 l' d=true↔Z0 l d=true∨∃i,inL n.domains i∧Z0 p i=true∧d∈Yd n i):=by
 have hdl:=hg.domains
 obtain⟨l',e,h1,h2⟩:=XE (f:=fun s:(List Bool)×Int=>match s with|(l143,v144)=>Vj n (n.domains.length:Int) p l143 v144)
  (fun s=>0≤s.2∧s.2≤n.domains.length∧s.1.length=n.domains.length∧∀d,inL l d→(Z0 s.1 d=true↔Z0 l d=true∨∃i,inL n.domains i∧i<s.2∧Z0 p i=true∧d∈Yd n i))
  (fun l'=>l'.length=n.domains.length∧∀d,inL l d→(Z0 l' d=true↔Z0 l d=true∨∃i,inL n.domains i∧Z0 p i=true∧d∈Yd n i)) (fun s=>(n.domains.length-s.2).toNat) (s:=(l,0)) (fun s hI=>by
   obtain⟨q,j⟩:=s
   obtain⟨j0,j1,hq,hK⟩:=hI
   simp only at j0 j1 hq hK⊢
   by_cases c:j<(n.domains.length:Int)
   ·have hj:inL n.domains j:=⟨j0,c⟩
    obtain⟨ls,e1,e2,e3⟩:=Zis hn hg hr hj
    obtain⟨q',k1,k2,k3⟩:=Zit (n:=n) (v48:=(n.domains.length:Int)) hp hq ⟨j0,c⟩ e2 (fun x hx=>Z06 hr j j0 c x.domain ((e3 _).2 ⟨x,hx,rfl⟩))
    refine⟨.inl (q',j+1), ?_,⟨by simp only;omega,by simp only;omega,k2,fun d hd=> ?_⟩,by simp only;omega⟩
    ·simp only[Vj]
     rw[if_pos (by simpa using c),if_pos (by simp),e1,Option.bind_some]
     rw[k1,Option.bind_some,Zc (by omega) (by omega)]
    ·simp only
     rw[k3 d ⟨hd.1,by have:=hd.2;omega⟩,hK d hd, ←e3 d]
     constructor
     ·rintro ((h|⟨i,i1,i2,i3,i4⟩)|⟨h1,h2⟩)
      ·exact .inl h
      ·exact .inr ⟨i,i1,by omega,i3,i4⟩
      ·exact .inr ⟨j,hj,by omega,h1,h2⟩
     ·rintro (h|⟨i,i1,i2,i3,i4⟩)
      ·exact .inl (.inl h)
      ·by_cases e:i=j
       ·subst e;exact .inr ⟨i3,i4⟩
       ·exact .inl (.inr ⟨i,i1,by omega,i3,i4⟩)
   ·have:j=n.domains.length:=by omega
    subst this
    refine⟨.inr q,by simp only[Vj];rw[if_neg (by simp)],hq,fun d hd=> ?_⟩
    rw[hK d hd]
    constructor
    ·rintro (h|⟨i,i1,i2,i3,i4⟩)
     ·exact .inl h
     ·exact .inr ⟨i,i1,i3,i4⟩
    ·rintro (h|⟨i,i1,i3,i4⟩)
     ·exact .inl h
     ·exact .inr ⟨i,i1,i1.2,i3,i4⟩) ⟨by simp,by simp,hl,fun d hd=>⟨.inl,fun h=>h.elim id (fun⟨k,k1,k2,_⟩=>by have:=k1.1;simp only at k2;omega)⟩⟩ (by simp only;omega)
 exact⟨l',e,h1,h2⟩
theorem Ziv {p l:List Bool} {r:Int} (h:r≠n.domains.length):Z8 (fun s:(List Bool)×Int=>match s with|(l143,v144)=>Vj n r p l143 v144) (l,0)=some l:=
 Xu (f:=fun s:(List Bool)×Int=>match s with|(l143,v144)=>Vj n r p l143 v144) (r:=l) (fun _=>(l,0)) 0 (by decide) (fun i hi=>by omega) (by
  simp only[Vj]
  by_cases c:(0:Int) <(n.domains.length:Int)
  ·rw[if_pos (by simpa using c),if_neg (by simpa using h)]
  ·rw[if_neg (by simpa using c)])
theorem Ziw (hg:Ym n 200 100) (ho:YN n of) {t:Nat} :∃p,Z8 (fun s:(List Bool)×Int=>match s with|(l5,v6)=>T1 n of (t:Int) l5 v6) (List.replicate n.domains.length false,0)=some p∧p.length=n.domains.length∧∀d,inL n.domains d→(Z0 p d=true↔Xw n of d t):=by
 have hs:=hg.sm
 have hdl:=hg.domains
 have hrep:∀d,inL n.domains d→Z0 (List.replicate n.domains.length false) d=false:=fun d hd=>List.eq_of_mem_replicate (ZR ⟨hd.1,by simpa using hd.2⟩)
 obtain⟨p,e,h1,h2⟩:=XE (f:=fun s:(List Bool)×Int=>match s with|(l5,v6)=>T1 n of (t:Int) l5 v6)
  (fun s=>0≤s.2∧s.2≤n.domains.length∧s.1.length=n.domains.length∧∀d,inL n.domains d→(Z0 s.1 d=true↔d<s.2∧Xw n of d t))
  (fun p=>p.length=n.domains.length∧∀d,inL n.domains d→(Z0 p d=true↔Xw n of d t)) (fun s=>(n.domains.length-s.2).toNat) (s:=(List.replicate n.domains.length false,0)) (fun s hI=>by
   obtain⟨q,i⟩:=s
   obtain⟨i0,i1,hq,hK⟩:=hI
   simp only at i0 i1 hq hK⊢
   by_cases c:i<(n.domains.length:Int)
   ·have hi:inL n.domains i:=⟨i0,c⟩
    have hiq:inL q i:=⟨i0,by omega⟩
    have hml:(ZS n i).length≤200:=Nat.le_trans Z05 hg.ports
    obtain⟨q',e1,k1,k2,k3⟩:=XE (f:=fun s:(List Bool)×Int=>match s with|(l11,v12)=>QH n of (t:Int) i (ZS n i) l11 v12)
     (fun s=>0≤s.2∧s.2≤(ZS n i).length∧s.1.length=n.domains.length∧(∀d,inL n.domains d→d≠i→Z0 s.1 d=Z0 q d)∧(Z0 s.1 i=true↔∃j,inL (ZS n i) j∧j<s.2∧Z0 of (Z0 (ZS n i) j)=(t:Int)))
     (fun q'=>q'.length=n.domains.length∧(∀d,inL n.domains d→d≠i→Z0 q' d=Z0 q d)∧(Z0 q' i=true↔∃p∈ZS n i,Z0 of p=(t:Int))) (fun s=>((ZS n i).length-s.2).toNat) (s:=(q,0)) (fun s hI=>by
      obtain⟨u,j⟩:=s
      obtain⟨j0,j1,hu,hM,hN⟩:=hI
      simp only at j0 j1 hu hM hN⊢
      by_cases c:j<((ZS n i).length:Int)
      ·have hj:inL (ZS n i) j:=⟨j0,c⟩
       obtain⟨hio,_⟩:=TG ho (Z04 (ZR hj))
       have hiu:inL u i:=⟨i0,by omega⟩
       refine⟨.inl (u.set i.toNat (Z0 u i||(Z0 of (Z0 (ZS n i) j)==(t:Int))),j+1), ?_,⟨by simp only;omega,by simp only;omega,by simp only[List.length_set];exact hu,fun d hd hdi=> ?_, ?_⟩,by simp only;omega⟩
       ·simp only[QH]
        rw[if_pos (by simpa using c),if_pos (Yi hiu),Y8 hiu,Option.bind_some,Zc (by omega) (by omega)]
        cases c2:Z0 u i
        ·rw[if_neg (by simp),if_pos (Yi hj),Y8 hj,Option.bind_some,Zb hio,Option.bind_some,Option.bind_some];simp
        ·rw[if_pos rfl,Option.bind_some];simp
       ·simp only
        rw[WG hiu ⟨hd.1,by have:=hd.2;omega⟩,if_neg hdi];exact hM d hd hdi
       ·simp only
        rw[WG hiu hiu,if_pos rfl,Bool.or_eq_true,hN,beq_iff_eq]
        constructor
        ·rintro (⟨k,k1,k2,k3⟩|h)
         ·exact⟨k,k1,by omega,k3⟩
         ·exact⟨j,hj,by omega,h⟩
        ·rintro ⟨k,k1,k2,k3⟩
         by_cases e:k=j
         ·subst e;exact .inr k3
         ·exact .inl ⟨k,k1,by omega,k3⟩
      ·have:j=(ZS n i).length:=by omega
       subst this
       refine⟨.inr u,by simp only[QH];rw[if_neg (by simp)],hu,hM,hN.trans ⟨fun⟨k,k1,_,k3⟩=>⟨_,ZR k1,k3⟩,fun⟨p,hp,hpt⟩=>by
        obtain⟨k,k1,rfl⟩:=W0 hp
        exact⟨k,k1,k1.2,hpt⟩⟩⟩) ⟨by simp,by simp,hq,fun d _ _=>rfl,⟨fun h=>absurd ((hK i hi).1 h).1 (by omega),fun⟨k,k1,k2,_⟩=>by have:=k1.1;simp only at k2;omega⟩⟩ (by simp only;omega)
    refine⟨.inl (q',i+1), ?_,⟨by simp only;omega,by simp only;omega,k1,fun d hd=> ?_⟩,by simp only;omega⟩
    ·simp only[T1]
     rw[if_pos (by simpa using c),Z8f hs,if_pos hi,Option.bind_some]
     rw[e1,Option.bind_some,Zc (by omega) (by omega)]
    ·simp only
     by_cases e:d=i
     ·subst e
      rw[k3]
      exact⟨fun h=>⟨by omega,hd,h⟩,fun h=>h.2.2⟩
     ·rw[k2 d hd e,hK d hd]
      exact⟨fun h=>⟨by omega,h.2⟩,fun h=>⟨by omega,h.2⟩⟩
   ·have:i=n.domains.length:=by omega
    subst this
    exact⟨.inr q,by simp only[T1];rw[if_neg (by simp)],hq,fun d hd=>(hK d hd).trans ⟨fun h=>h.2,fun h=>⟨hd.2,h⟩⟩⟩) ⟨by simp,by simp,by simp,fun d hd=>by rw[hrep d hd];exact⟨fun h=>by simp at h,fun h=>absurd h.1 (by have:=hd.1;simp only;omega)⟩⟩ (by simp only;omega)
 exact⟨p,e,h1,h2⟩
end
end Go.Eng

set_option linter.unusedVariables false
set_option linter.unusedSectionVars false
set_option linter.unusedSimpArgs false
namespace Go.Eng
open Go Classical
attribute [local congr] Yl

section
variable {n:Z2} {of:List Int}
theorem Zc3 {Q:Int→Prop} (hr:ZM n) (hQ:∀i x,0≤i→i<(n.domains.length:Int)→Q i→x∈ZG n i→Q x) {l:List Bool} (hl:l.length=n.domains.length) (h:∀d,inL n.domains d→Z0 l d=true→Q d):
  ∀d,inL n.domains d→Z0 (YO (ZG n) n.domains.length l) d=true→Q d:=by
 refine Z8w (N:=n.domains.length) (Wg hr) (P:=fun l=>∀d,inL n.domains d→Z0 l d=true→Q d) n.domains.length l (Nat.le_refl _) hl h (fun l i x i0 i1 hx hl hi hp d hd ht=> ?_)
 rw[ZbW hi ⟨hd.1,by have:=hd.2;omega⟩]at ht
 by_cases e:d=x
 ·rw[if_pos e,Bool.or_eq_true]at ht
  rcases ht with ht|ht
  ·subst e;exact hp d hd ht
  ·rw[e];exact hQ i x i0 i1 (hp i ⟨i0,i1⟩ ht) hx
 ·rw[if_neg e]at ht;exact hp d hd ht
theorem Zc4 (hr:ZM n) {l:List Bool} (hl:l.length=n.domains.length) {d:Int} (hd:inL n.domains d) (h:Z0 l d=true):Z0 (YO (ZG n) n.domains.length l) d=true:=
 Z8w (N:=n.domains.length) (Wg hr) (P:=fun l=>Z0 l d=true) n.domains.length l (Nat.le_refl _) hl h (fun l i x i0 i1 hx hl hi hp=>Zil hi ⟨hd.1,by have:=hd.2;omega⟩ hp)
theorem Zix {l:List Bool} {d:Int} (hd:inL l d) (h:Z0 l d=true):1≤YW l:=by
 have h1:=Z8u (x:=false) hd
 have h2:0≤YW (l.set d.toNat false):=by
  unfold YW
  generalize l.set d.toNat false=q
  induction q with
  |nil=>simp
  |cons a q ih=>
   rw[List.map_cons,List.sum_cons]
   have:0≤Vc a:=by unfold Vc;split <;> omega
   omega
 rw[h]at h1
 simp[Vc]at h1
 omega
theorem Ziy (hn:n.Ok) (hg:Ym n 200 100) (ho:YN n of) {t:Nat} :∃p l,Z3t n of (t:Int)=some (p,l)∧p.length=n.domains.length∧l.length=n.domains.length∧(∀d,inL n.domains d→(Z0 p d=true↔ZU n of false d t))∧∀d,inL n.domains d→(Z0 l d=true↔ZU n of true d t):=by
 have hr:=ho.2.1
 have hdl:=hg.domains
 have hmk:XY 1 (n.domains.length:Int) (n.domains.length:Int)=true:=by unfold XY;simp;omega
 obtain⟨p0,e0,hp0,hs0⟩:=Ziw hg ho (t:=t)
 have hlrep:∀d,inL n.domains d→Z0 (List.replicate n.domains.length false) d=false:=fun d hd=>List.eq_of_mem_replicate (ZR ⟨hd.1,by simpa using hd.2⟩)
 have hQp:∀i x,0≤i→i<(n.domains.length:Int)→ZU n of false i t→x∈ZG n i→ZU n of false x t:=fun i x _ _ h hx=> .hop h hx
 have hQl:∀i x,0≤i→i<(n.domains.length:Int)→ZU n of true i t→x∈ZG n i→ZU n of true x t:=fun i x _ _ h hx=> .hop h hx
 -- what is closed, and has its seeds
 have full:∀p:List Bool,ClB (ZG n) n.domains.length p→(∀d,inL n.domains d→Xw n of d t→Z0 p d=true)→∀k d t',Der (ZG n) (Yd n) (Xw n of) k d t'→t'=t→k=false→inL n.domains d∧Z0 p d=true:=by
  intro p hc hs k d t' h
  induction h with
  |seed h=>intro e _;subst e;exact⟨h.1,hs _ h.1 h⟩
  | @hop k d x t' h hx ih=>
   intro e ek
   obtain⟨i1,i2⟩:=ih e ek
   exact⟨Wg hr d i1.1 i1.2 x hx,hc d i1.1 i1.2 x hx i2⟩
  |route h hx ih=>intro _ ek;cases ek
 have fullL:∀l:List Bool,ClB (ZG n) n.domains.length l→(∀i,inL n.domains i→ZU n of false i t→∀m∈Yd n i,Z0 l m=true)→∀k d t',Der (ZG n) (Yd n) (Xw n of) k d t'→t'=t→inL n.domains d∧(k=true→Z0 l d=true):=by
  intro l hc hs k d t' h
  induction h with
  |seed h=>intro _;exact⟨h.1,fun e=>by cases e⟩
  | @hop k d x t' h hx ih=>
   intro e
   obtain⟨i1,i2⟩:=ih e
   exact⟨Wg hr d i1.1 i1.2 x hx,fun ek=>hc d i1.1 i1.2 x hx (i2 ek)⟩
  | @route d x t' h hx ih=>
   intro e
   obtain⟨i1,_⟩:=ih e
   subst e
   exact⟨Z06 hr d i1.1 i1.2 x hx,fun _=>hs d i1 h x hx⟩
 have h2N:=Zc (n:=2 * (n.domains.length:Int)) (by omega) (by omega)
 obtain⟨⟨p,l⟩,e,k1,k2,k3,k4⟩:=XE (f:=fun s:(List Bool)×(List Bool)×Int=>match s with|(l46,l47,v48)=>T5 n l46 l47 v48)
  (fun s=>0≤s.2.2∧s.2.2≤2 * n.domains.length∧s.1.length=n.domains.length∧s.2.1.length=n.domains.length∧
   (∀d,inL n.domains d→Z0 s.1 d=true→ZU n of false d t)∧(∀d,inL n.domains d→Xw n of d t→Z0 s.1 d=true)∧(ClB (ZG n) n.domains.length s.1∨s.2.2≤YW s.1)∧
   (s.2.2≤n.domains.length→∀d,inL n.domains d→Z0 s.2.1 d=false)∧
   (n.domains.length<s.2.2→(∀d,inL n.domains d→Z0 s.2.1 d=true→ZU n of true d t)∧(∀i,inL n.domains i→ZU n of false i t→∀m∈Yd n i,Z0 s.2.1 m=true)∧(ClB (ZG n) n.domains.length s.2.1∨s.2.2-n.domains.length≤YW s.2.1)))
  (fun r=>r.1.length=n.domains.length∧r.2.length=n.domains.length∧(∀d,inL n.domains d→(Z0 r.1 d=true↔ZU n of false d t))∧∀d,inL n.domains d→(Z0 r.2 d=true↔ZU n of true d t))
  (fun s=>(2 * n.domains.length-s.2.2).toNat) (s:=(p0,List.replicate n.domains.length false,0)) (fun s hI=>by
   obtain⟨p,l,r⟩:=s
   obtain⟨r0,r1,hp,hl,a1,a2,a3,b1,b2⟩:=hI
   simp only at r0 r1 hp hl a1 a2 a3 b1 b2⊢
   by_cases c:r<2 * (n.domains.length:Int)
   ·have hw:=Zc (n:=r+1) (by omega) (by omega)
    have p1:(YO (ZG n) n.domains.length p).length=n.domains.length:=by rw[Z08];exact hp
    have l1:(YO (ZG n) n.domains.length l).length=n.domains.length:=by rw[Z08];exact hl
    have a1':=Zc3 hr hQp hp a1
    have a2':∀d,inL n.domains d→Xw n of d t→Z0 (YO (ZG n) n.domains.length p) d=true:=fun d hd hs=>Zc4 hr hp hd (a2 d hd hs)
    have a3':=Zc1 (Wg hr) hp a3
    by_cases cN:r=n.domains.length
    ·-- the round of the routes
     have pc:ClB (ZG n) n.domains.length (YO (ZG n) n.domains.length p):=Z8x (Wg hr) p1 (a3'.imp id (fun h=>by omega))
     have hpf:∀i,inL n.domains i→(Z0 (YO (ZG n) n.domains.length p) i=true↔ZU n of false i t):=fun i hi=>⟨a1' i hi,fun h=>(full _ pc a2' false i t h rfl rfl).2⟩
     have lf:∀d,inL n.domains d→Z0 (YO (ZG n) n.domains.length l) d=false:=fun d hd=>by
      have hcl:ClB (ZG n) n.domains.length l:=fun i i0 i1 h hh ht=>by rw[b1 (by omega) i ⟨i0,i1⟩]at ht;cases ht
      rw[Z65 (Wg hr) hl hcl _ (Nat.le_refl _)]
      exact b1 (by omega) d hd
     obtain⟨l',e1,e2,e3⟩:=Ziu hn hg hr p1 l1
     have e4:∀d,inL n.domains d→(Z0 l' d=true↔∃i,inL n.domains i∧ZU n of false i t∧d∈Yd n i):=fun d hd=>by
      rw[e3 d ⟨hd.1,by have:=hd.2;omega⟩,lf d hd]
      constructor
      ·rintro (h|⟨i,i1,i2,i3⟩)
       ·cases h
       ·exact⟨i,i1,(hpf i i1).1 i2,i3⟩
      ·rintro ⟨i,i1,i2,i3⟩
       exact .inr ⟨i,i1,(hpf i i1).2 i2,i3⟩
     refine⟨.inl (YO (ZG n) n.domains.length p,l',r+1), ?_,⟨by simp only;omega,by simp only;omega,p1,e2,a1',a2',a3',fun h=>by simp only at h;omega,fun _=>⟨fun d hd h=> ?_,fun i hi h m hm=> ?_, ?_⟩⟩,by simp only;omega⟩
     ·simp only[T5]
      rw[h2N,if_pos (by simpa using c),Zc2 hg hr hp hl,Option.bind_some]
      simp only
      rw[cN,e1,Option.bind_some, ←cN,hw]
     ·obtain⟨i,i1,i2,i3⟩:=(e4 d hd).1 h
      exact .route i2 i3
     ·have:=Z06 hr i hi.1 hi.2 m hm
      exact(e4 m ⟨this.1,this.2⟩).2 ⟨i,hi,h,hm⟩
     ·by_cases ex:∃d,inL n.domains d∧Z0 l' d=true
      ·obtain⟨d,hd,h⟩:=ex
       have:=Zix (l:=l') (d:=d) ⟨hd.1,by have:=hd.2;omega⟩ h
       exact .inr (by simp only;omega)
      ·exact .inl (fun i i0 i1 h hh ht=>absurd ⟨i,⟨i0,i1⟩,ht⟩ ex)
    ·refine⟨.inl (YO (ZG n) n.domains.length p,YO (ZG n) n.domains.length l,r+1), ?_,⟨by simp only;omega,by simp only;omega,p1,l1,a1',a2',a3',fun h d hd=> ?_,fun h=> ?_⟩,by simp only;omega⟩
     ·simp only[T5]
      rw[h2N,if_pos (by simpa using c),Zc2 hg hr hp hl,Option.bind_some]
      simp only
      rw[Ziv cN,Option.bind_some,hw]
     ·simp only at h⊢
      have hcl:ClB (ZG n) n.domains.length l:=fun i i0 i1 h' hh ht=>by rw[b1 (by omega) i ⟨i0,i1⟩]at ht;cases ht
      rw[Z65 (Wg hr) hl hcl _ (Nat.le_refl _)]
      exact b1 (by omega) d hd
     ·simp only at h⊢
      obtain⟨c1,c2,c3⟩:=b2 (by omega)
      refine⟨Zc3 hr hQl hl c1,fun i hi hd m hm=> ?_, ?_⟩
      ·have:=Z06 hr i hi.1 hi.2 m hm
       exact Zc4 hr hl ⟨this.1,this.2⟩ (c2 i hi hd m hm)
      ·have:=Zc1 (Wg hr) hl c3
       exact this.imp id (fun h=>by omega)
   ·have hr2:r=2 * n.domains.length:=by omega
    refine⟨.inr (p,l), ?_,hp,hl,fun d hd=>⟨a1 d hd,fun h=> ?_⟩,fun d hd=> ?_⟩
    ·simp only[T5]
     rw[h2N,if_neg (by simpa using c)]
    ·have pc:ClB (ZG n) n.domains.length p:=Z8x (Wg hr) hp (a3.imp id (fun h=>by omega))
     exact(full _ pc a2 false d t h rfl rfl).2
    ·have hd1:=hd.1;have hd2:=hd.2
     obtain⟨c1,c2,c3⟩:=b2 (by omega)
     have lc:ClB (ZG n) n.domains.length l:=Z8x (Wg hr) hl (c3.imp id (fun h=>by omega))
     exact⟨c1 d hd,fun h=>(fullL _ lc c2 true d t h rfl).2 rfl⟩) ⟨by simp,by simp only;omega,hp0,by simp,fun d hd h=> .seed ((hs0 d hd).1 h),fun d hd h=>(hs0 d hd).2 h, .inr (by
    have:0≤YW p0:=by
     unfold YW
     generalize p0=q
     induction q with
     |nil=>simp
     |cons a q ih=>
      rw[List.map_cons,List.sum_cons]
      have:0≤Vc a:=by unfold Vc;split <;> omega
      omega
    exact this),fun _ d hd=>hlrep d hd,fun h=>by simp only at h;omega⟩ (by simp only;omega)
 refine⟨p,l, ?_,k1,k2,k3,k4⟩
 simp only[Z3t,hmk,if_true,Int.toNat_natCast]
 rw[e0,Option.bind_some]
 rw[e];rfl

/-! ### All labels -/
noncomputable def Yb (P:Nat→Prop):Nat→Int
 |0=>0
 |k+1=>Yb P k+if P k then((2 ^ k:Nat):Int)else 0
theorem Z8y (P:Nat→Prop):∀k,∃m:Nat,Yb P k=(m:Int)∧m<2 ^ k∧∀t,m.testBit t=decide (t<k∧P t)
 |0=>⟨0,rfl,by simp,fun t=>by simp⟩
 |k+1=>by
  obtain⟨m,e,h1,h2⟩:=Z8y P k
  by_cases c:P k
  ·refine⟨2 ^ k+m,by rw[Yb,e,if_pos c];omega,by rw[Nat.pow_succ];omega,fun t=> ?_⟩
   by_cases e1:t=k
   ·subst e1
    rw[Nat.testBit_two_pow_add_eq,h2]
    simp[c]
   ·by_cases e2:t<k
    ·rw[Nat.testBit_two_pow_add_gt (by omega),h2]
     simp[e2,show t<k+1 by omega]
    ·have:2 ^ k+m<2 ^ t:=by
      have h3:2 ^ (k+1)≤2 ^ t:=Nat.pow_le_pow_right (by decide) (by omega)
      rw[Nat.pow_succ]at h3
      omega
     rw[Nat.testBit_lt_two_pow this]
     simp[show ¬t<k+1 by omega]
  ·refine⟨m,by rw[Yb,e,if_neg c];omega,by rw[Nat.pow_succ];omega,fun t=> ?_⟩
   rw[h2]
   by_cases e1:t=k
   ·subst e1;simp[c]
   ·have:t<k+1↔t<k:=by omega
    simp[this]
theorem Z09 (P:Nat→Prop):0≤Yb P 10∧Yb P 10<1024∧∀t,tb (Yb P 10) t=decide (t<10∧P t):=by
 obtain⟨m,e,h1,h2⟩:=Z8y P 10
 rw[e]
 exact⟨by omega,by omega,fun t=>by unfold tb;rw[Int.toNat_natCast];exact h2 t⟩
theorem Z8z (P:Nat→Prop) {k:Nat} (hk:k≤10):0≤Yb P k∧Yb P k<1024:=by
 obtain⟨m,e,h1,h2⟩:=Z8y P k
 have:2 ^ k≤2 ^ 10:=Nat.pow_le_pow_right (by decide) hk
 omega
theorem Z8A {t:Nat} (h:t<10):inL [(1:Int),2,4,8,16,32,64,128,256,512] (t:Int)∧Z0 [(1:Int),2,4,8,16,32,64,128,256,512] (t:Int)=((2 ^ t:Nat):Int):=by
 have key:∀t:Fin 10,Z0 [(1:Int),2,4,8,16,32,64,128,256,512] ((t.val:Nat):Int)=((2 ^ t.val:Nat):Int):=by decide
 exact⟨⟨by omega,by simp;omega⟩,key ⟨t,h⟩⟩
end
end Go.Eng

set_option linter.unusedVariables false
set_option linter.unusedSectionVars false
set_option linter.unusedSimpArgs false
namespace Go.Eng
open Go Classical
attribute [local congr] Yl

theorem Ziz {x:Int} (x0:0≤x) (x1:x<1000000000000) {t:Nat} (ht:t≤64):VG .i64 (Int.fdiv x (2 ^ (min (Int.toNat (t:Int)) 64))) 1=if tb x t=true then 1 else 0:=by
 have hm:min (Int.toNat (t:Int)) 64=t:=by omega
 rw[hm]
 have e1:Int.fdiv x (2 ^ t)=((x.toNat / 2 ^ t:Nat):Int):=by
  rw[Int.fdiv_eq_ediv_of_nonneg _ (by exact Int.le_of_lt (Int.pow_pos (by decide)))]
  conv=>lhs;rw[show x=((x.toNat:Nat):Int)by omega]
  simp
 have hle:x.toNat / 2 ^ t≤x.toNat:=Nat.div_le_self _ _
 rw[e1]
 generalize hy:x.toNat / 2 ^ t=y at *
 have e2:(BitVec.ofInt 64 ((y:Nat):Int) &&& BitVec.ofInt 64 1).toNat=y % 2:=by
  rw[VU _ _ (Int.natCast_nonneg _),VU _ _ (by decide),BitVec.toNat_and,BitVec.toNat_ofNat,BitVec.toNat_ofNat,Int.toNat_natCast,Nat.mod_eq_of_lt (by omega)]
  exact Nat.and_one_is_mod y
 show Z4 (((BitVec.ofInt 64 ((y:Nat):Int) &&& BitVec.ofInt 64 1).toNat:Nat):Int)=_
 rw[e2,Zc (by omega) (by omega)]
 unfold tb
 rw[Nat.testBit_eq_decide_div_mod_eq,hy]
 by_cases c:y % 2=1
 ·rw[if_pos (decide_eq_true c),c];rfl
 ·rw[if_neg (by simpa using c),show y % 2=0 by omega];rfl
end Go.Eng

set_option linter.unusedVariables false
set_option linter.unusedSectionVars false
set_option linter.unusedSimpArgs false
namespace Go.Eng
open Go Classical
attribute [local congr] Yl

section
variable {n:Z2} {of:List Int}
theorem Z66 {k:Bool} {d:Int} {t:Nat} (h:ZU n of k d t):∃x p,p∈ZS n x∧Z0 of p=(t:Int):=by
 induction h with
 | @seed d t h=>exact⟨d,h.2.choose,h.2.choose_spec⟩
 |hop _ _ ih=>exact ih
 |route _ _ ih=>exact ih
noncomputable def Yg (n:Z2) (of:List Int) (t:Nat) (d:Int):Y1:=⟨Yb (fun s=>ZU n of false d s) t,Yb (fun s=>ZU n of true d s) t⟩
theorem ZiA (hN:n.domains.length≤200) {t:Nat} (ht:t<10) {p l:List Bool} (hp:p.length=n.domains.length) (hl:l.length=n.domains.length) (h1:∀d,inL n.domains d→(Z0 p d=true↔ZU n of false d t)) (h2:∀d,inL n.domains d→(Z0 l d=true↔ZU n of true d t)):
  Z8 (fun s:(List Y1)×Int=>match s with|(l18,v19)=>T6 n of (t:Int) p l l18 v19) (mkG n.domains.length (Yg n of t),0)=some (mkG n.domains.length (Yg n of (t+1))):=by
 obtain⟨iP,gP⟩:=Z8A ht
 have hpw:=Z5W ht
 have hpw0:(0:Int)≤((2 ^ t:Nat):Int):=Int.natCast_nonneg _
 obtain⟨q,e,hq⟩:=XE (f:=fun s:(List Y1)×Int=>match s with|(l18,v19)=>T6 n of (t:Int) p l l18 v19)
  (fun s=>0≤s.2∧s.2≤n.domains.length∧s.1.length=n.domains.length∧∀d,inL n.domains d→Z0 s.1 d=if d<s.2 then Yg n of (t+1) d else Yg n of t d)
  (fun q=>q=mkG n.domains.length (Yg n of (t+1))) (fun s=>(n.domains.length-s.2).toNat) (s:=(mkG n.domains.length (Yg n of t),0)) (fun s hI=>by
   obtain⟨q,j⟩:=s
   obtain⟨j0,j1,hq,hK⟩:=hI
   simp only at j0 j1 hq hK⊢
   by_cases c:j<(n.domains.length:Int)
   ·have hj:inL n.domains j:=⟨j0,c⟩
    have ip:inL p j:=⟨j0,by omega⟩
    have il:inL l j:=⟨j0,by omega⟩
    have iq:inL q j:=⟨j0,by omega⟩
    have hv:=hK j hj
    rw[if_neg (by omega)]at hv
    have b1:=Z8z (fun s=>ZU n of false j s) (k:=t) (by omega)
    have b2:=Z8z (fun s=>ZU n of true j s) (k:=t) (by omega)
    have hJ:Z3u n of (t:Int) p l q j=some (q.set j.toNat ⟨Yb (fun s=>ZU n of false j s) (t+1),Yb (fun s=>ZU n of true j s) t⟩):=by
     unfold Z3u
     rw[if_pos (Yi ip),Y8 ip,Option.bind_some]
     by_cases c1:Z0 p j=true
     ·rw[if_pos c1,if_pos (Yi iq),Y8 iq,Option.bind_some,Vk,Option.bind_some]
      rw[if_pos (Yi iP),Y8 iP,Option.bind_some,Option.bind_some,gP,hv,Yg,Yb,if_pos ((h1 j hj).1 c1)]
      simp only
      rw[Zc (by omega) (by omega)]
     ·rw[if_neg c1]
      have:(⟨Yb (fun s=>ZU n of false j s) (t+1),Yb (fun s=>ZU n of true j s) t⟩:Y1)=Z0 q j:=by
       rw[hv,Yg,Yb,if_neg (fun h=>c1 ((h1 j hj).2 h))];simp
      rw[this,Z07 iq]
    have iq2:inL (q.set j.toNat ⟨Yb (fun s=>ZU n of false j s) (t+1),Yb (fun s=>ZU n of true j s) t⟩) j:=Ut.2 iq
    have gq2:Z0 (q.set j.toNat ⟨Yb (fun s=>ZU n of false j s) (t+1),Yb (fun s=>ZU n of true j s) t⟩) j=⟨Yb (fun s=>ZU n of false j s) (t+1),Yb (fun s=>ZU n of true j s) t⟩:=by rw[WG iq iq,if_pos rfl]
    refine⟨.inl (q.set j.toNat (Yg n of (t+1) j),j+1), ?_,⟨by simp only;omega,by simp only;omega,by simp only[List.length_set];exact hq,fun d hd=> ?_⟩,by simp only;omega⟩
    ·simp only[T6]
     rw[if_pos (by simpa using c),hJ,Option.bind_some]
     rw[if_pos (Yi il),Y8 il,Option.bind_some,Zc (n:=j+1) (by omega) (by omega)]
     by_cases c2:Z0 l j=true
     ·rw[if_pos c2,if_pos (Yi iq2),Y8 iq2,Option.bind_some,Vk,Option.bind_some]
      rw[if_pos (Yi iP),Y8 iP,Option.bind_some,Option.bind_some,gP,gq2,List.set_set]
      simp only
      rw[Zc (by omega) (by omega),Yg]
      have:Yb (fun s=>ZU n of true j s) (t+1)=Yb (fun s=>ZU n of true j s) t+((2 ^ t:Nat):Int):=by rw[Yb,if_pos ((h2 j hj).1 c2)]
      rw[this]
     ·rw[if_neg c2,Yg]
      have:Yb (fun s=>ZU n of true j s) (t+1)=Yb (fun s=>ZU n of true j s) t:=by rw[Yb,if_neg (fun h=>c2 ((h2 j hj).2 h))];simp
      rw[this]
    ·have hdq:inL q d:=⟨hd.1,by have:=hd.2;omega⟩
     simp only
     rw[WG iq hdq,hK d hd]
     by_cases e:d=j
     ·rw[if_pos e,if_pos (by omega),e]
     ·rw[if_neg e]
      by_cases e2:d<j
      ·rw[if_pos e2,if_pos (by omega)]
      ·rw[if_neg e2,if_neg (by omega)]
   ·have:j=n.domains.length:=by omega
    subst this
    refine⟨.inr q,by simp only[T6];rw[if_neg (by simp)],Z40.2 ⟨by rw[Vb];exact hq,fun d hd=> ?_⟩⟩
    have hdd:inL n.domains d:=⟨hd.1,by have:=hd.2;omega⟩
    show Z0 q d=Z0 (mkG n.domains.length (Yg n of (t+1))) d
    rw[hK d hdd,if_pos hdd.2,Vu ⟨hdd.1,hdd.2⟩]) ⟨by simp,by simp,Vb,fun d hd=>by rw[if_neg (by have:=hd.1;simp only;omega)];exact Vu ⟨hd.1,hd.2⟩⟩ (by simp only;omega)
 rw[e,hq]
theorem ZiB (hs:SmN n) (hf:Few of) (h:¬YN n of):T8 n of=some ([],0,false):=by
 simp only[T8,Z63 hs hf,Option.bind_some,decide_eq_false h,Bool.not_false,if_true]
theorem Zc5 (hn:n.Ok) (hg:Ym n 200 100) (hf:Few of) (ho:YN n of):T8 n of=some (mkG n.domains.length (Yg n of 10),n.domains.length,true):=by
 have hs:=hg.sm
 have hdl:=hg.domains
 have hmk:XY 16 (n.domains.length:Int) (n.domains.length:Int)=true:=by unfold XY;simp;omega
 have hz:List.replicate n.domains.length (⟨0,0⟩:Y1)=mkG n.domains.length (Yg n of 0):=by
  refine Z40.2 ⟨by simp[Vb],fun d hd=> ?_⟩
  have hd':0≤d∧d<(n.domains.length:Int):=⟨hd.1,by simpa using hd.2⟩
  show Z0 _ d=Z0 _ d
  rw[List.eq_of_mem_replicate (ZR hd),Vu hd'];rfl
 have e:=Xu (f:=fun s:(List Y1)×Int=>match s with|(l7,v8)=>T7 n of l7 v8) (r:=mkG n.domains.length (Yg n of 10)) (fun t=>(mkG n.domains.length (Yg n of t),(t:Int))) 10 (by decide) (fun t ht=>by
  simp only[T7]
  rw[if_pos (by simp;omega),Zib hf,Option.bind_some,Zc (by omega) (by omega)]
  by_cases c:ofL of (t:Int)= []
  ·rw[if_pos (by rw[c];rfl)]
   have hno:∀k d,¬ZU n of k d t:=fun k d h=>by
    obtain⟨x,p,hp,hpt⟩:=Z66 h
    have hi:=(TG ho (Z04 hp)).1
    have:p∈ofL of (t:Int):=Z3V.2 ⟨p,hi,hpt,rfl⟩
    rw[c]at this;cases this
   have:Yg n of (t+1)=Yg n of t:=by
    funext d
    unfold Yg
    rw[Yb,Yb,if_neg (hno _ _),if_neg (hno _ _)];simp
   rw[this];rfl
  ·rw[if_neg (by
    have:(ofL of (t:Int)).length≠0:=fun h=>c (List.eq_nil_of_length_eq_zero h)
    simp;exact c)]
   obtain⟨p,l,e,h1,h2,h3,h4⟩:=Ziy hn hg ho (t:=t)
   rw[e,Option.bind_some]
   simp only
   rw[ZiA hdl ht h1 h2 h3 h4,Option.bind_some]
   rfl) (by simp only[T7];rw[if_neg (by simp)])
 have e':Z8 (fun s:(List Y1)×Int=>match s with|(l7,v8)=>T7 n of l7 v8) (mkG n.domains.length (Yg n of 0),0)=some (mkG n.domains.length (Yg n of 10)):=e
 simp only[T8,Z63 hs hf,Option.bind_some,decide_eq_true ho,Bool.not_true,Bool.false_eq_true,if_false,hmk,if_true,Int.toNat_natCast]
 rw[hz,e'];rfl
theorem ZiC {b:List Z9} (hb:Z8s n of b) (ho:YN n of) {d:Int} (hd:inL n.domains d):(Z0 b d).plain=(Yg n of 10 d).plain∧(Z0 b d).led=(Yg n of 10 d).led:=by
 have hlb:=hb.ok.2 d ⟨hd.1,by have:=hd.2;have:=hb.ok.1;omega⟩
 have hhi:∀k t,ZU n of k d t→t<10:=fun k t h=>by
  obtain⟨x,p,hp,hpt⟩:=Z66 h
  have:=(TG ho (Z04 hp)).2
  omega
 constructor
 ·obtain⟨s0,s1,s2⟩:=Z09 (fun s=>ZU n of false d s)
  refine Z5V hlb.p0 s0 (fun t=> ?_)
  rw[Bool.eq_iff_iff,hb.plain d hd t]
  show _↔tb (Yb (fun s=>ZU n of false d s) 10) t=true
  rw[s2 t,decide_eq_true_eq]
  exact⟨fun h=>⟨hhi _ _ h,h⟩,fun h=>h.2⟩
 ·obtain⟨s0,s1,s2⟩:=Z09 (fun s=>ZU n of true d s)
  refine Z5V hlb.l0 s0 (fun t=> ?_)
  rw[Bool.eq_iff_iff,hb.led d hd t]
  show _↔tb (Yb (fun s=>ZU n of true d s) 10) t=true
  rw[s2 t,decide_eq_true_eq]
  exact⟨fun h=>⟨hhi _ _ h,h⟩,fun h=>h.2⟩
def Y5 (x t:Int):Prop:=0≤t∧t<10∧tb x t.toNat=true
theorem Z8B {x t:Int} (x0:0≤x) (x1:x<1000000000000):UO x t=some (decide (Y5 x t)):=by
 unfold UO Y5
 by_cases c1:t≥0
 ·by_cases c2:t<10
  ·rw[if_pos (by simpa using c1),if_pos (by simpa using c2),if_pos (by simpa using c1)]
   have h:=Ziz x0 x1 (t:=t.toNat) (by omega)
   rw[show((t.toNat:Nat):Int)=t by omega]at h
   rw[h]
   cases c3:tb x t.toNat <;> simp[c1,c2]
  ·rw[if_pos (by simpa using c1),if_neg (by simpa using c2)];simp[c2]
 ·rw[if_neg (by simpa using c1)];simp;omega
theorem Z48 {x t:Int} (x0:0≤x) (x1:x<1000000000000):Ug x t=some (decide (Y5 x t)):=by
 unfold Ug Y5
 by_cases c1:t<0
 ·rw[if_pos (by simpa using c1)];simp;omega
 ·by_cases c2:t>9
  ·rw[if_neg (by simpa using c1),if_pos (by simpa using c2)];simp;omega
  ·obtain⟨k,rfl⟩:∃k:Nat,t=(k:Int):=⟨t.toNat,by omega⟩
   obtain⟨iP,gP⟩:=Z8A (t:=k) (by omega)
   have hp:=Nat.two_pow_pos k
   rw[if_neg (by simp),if_neg (by simpa using c2),if_neg (by simp;omega),Vk,Option.bind_some]
   have e1:Int.tdiv x ((2 ^ k:Nat):Int)=((x.toNat / 2 ^ k:Nat):Int):=by
    rw[Int.tdiv_eq_ediv_of_nonneg x0]
    conv=>lhs;rw[show x=((x.toNat:Nat):Int)by omega]
    simp
   have hle:x.toNat / 2 ^ k≤x.toNat:=Nat.div_le_self _ _
   have hne:(((2 ^ k:Nat):Int) !=0)=true:=by
    simp only[bne_iff_ne,ne_eq]
    intro h
    have:(2 ^ k:Nat)=0:=Int.ofNat.inj h
    omega
   rw[if_pos (Yi iP),Y8 iP,Option.bind_some,gP,if_pos hne,e1]
   unfold tb
   rw[Int.toNat_natCast,Nat.testBit_eq_decide_div_mod_eq]
   generalize x.toNat / 2 ^ k=y at *
   rw[Zc (by omega) (by omega)]
   have e2:Int.tmod ((y:Nat):Int) 2=((y % 2:Nat):Int):=by
    rw[Int.tmod_eq_emod_of_nonneg (by omega)];simp
   rw[e2]
   by_cases c3:y % 2=1
   ·rw[c3];simp;omega
   ·rw[show y % 2=0 by omega];simp
end
end Go.Eng

set_option linter.unusedVariables false
set_option linter.unusedSectionVars false
set_option linter.unusedSimpArgs false
namespace Go.Eng
open Go Classical
attribute [local congr] Yl
section
end
end Go.Eng

set_option linter.unusedVariables false
set_option linter.unusedSectionVars false
set_option linter.unusedSimpArgs false
namespace Go.Eng
open Go Classical
attribute [local congr] Yl

section
variable {n:Z2} {of:List Int}
def X6 (n:Z2) (of:List Int) (p:Int) (t:Nat):Prop:=∃d,inL n.domains d∧p∈ZS n d∧(ZU n of false d t∨ZU n of true d t)
theorem ZiD (hg:Ym n 200 100) (ho:YN n of) {b:List Z9} (hb:Z8s n of b) {d:Int} (hd:inL n.domains d) {n6:Nat} {q:List Int} (hq:q.length=n.ports.length) (hqb:∀p,inL n.ports p→0≤Z0 q p∧Z0 q p<1024):
  ∃r,Z8 (fun s:(List Int)×Int=>match s with|(l19,v20)=>Uc n of b n6 d (Z0 b d) (ZS n d) l19 v20) (q,0)=some r∧r.length=n.ports.length∧
   ∀p,inL n.ports p→(0≤Z0 r p∧Z0 r p<1024)∧∀t,tb (Z0 r p) t=true↔tb (Z0 q p) t=true∨0≤Z0 of p∧p∈ZS n d∧(ZU n of false d t∨ZU n of true d t):=by
 have hml:(ZS n d).length≤200:=Nat.le_trans Z05 hg.ports
 have hlb:=hb.ok.2 d ⟨hd.1,by have:=hd.2;have:=hb.ok.1;omega⟩
 obtain⟨_,u0,u1,u2⟩:=Z5U hlb.p0 hlb.p1 hlb.l0 hlb.l1
 have u3:∀t,tb (Y2 .i64 (Z0 b d).plain (Z0 b d).led) t=true↔ZU n of false d t∨ZU n of true d t:=fun t=>by
  rw[u2 t,Bool.or_eq_true,hb.plain d hd t,hb.led d hd t]
 obtain⟨r,e,h1,h2⟩:=XE (f:=fun s:(List Int)×Int=>match s with|(l19,v20)=>Uc n of b n6 d (Z0 b d) (ZS n d) l19 v20)
  (fun s=>0≤s.2∧s.2≤(ZS n d).length∧s.1.length=n.ports.length∧∀p,inL n.ports p→(0≤Z0 s.1 p∧Z0 s.1 p<1024)∧∀t,tb (Z0 s.1 p) t=true↔tb (Z0 q p) t=true∨0≤Z0 of p∧(∃k,inL (ZS n d) k∧k<s.2∧Z0 (ZS n d) k=p)∧(ZU n of false d t∨ZU n of true d t))
  (fun r=>r.length=n.ports.length∧∀p,inL n.ports p→(0≤Z0 r p∧Z0 r p<1024)∧∀t,tb (Z0 r p) t=true↔tb (Z0 q p) t=true∨0≤Z0 of p∧p∈ZS n d∧(ZU n of false d t∨ZU n of true d t))
  (fun s=>((ZS n d).length-s.2).toNat) (s:=(q,0)) (fun s hI=>by
   obtain⟨r,j⟩:=s
   obtain⟨j0,j1,hr,hK⟩:=hI
   simp only at j0 j1 hr hK⊢
   by_cases c:j<((ZS n d).length:Int)
   ·have hj:inL (ZS n d) j:=⟨j0,c⟩
    have hpp:=Z04 (ZR hj)
    obtain⟨hio,_⟩:=TG ho hpp
    have hw:=Zc (n:=j+1) (by omega) (by omega)
    have hpr:inL r (Z0 (ZS n d) j):=⟨hpp.1,by have:=hpp.2;omega⟩
    by_cases hv:0≤Z0 of (Z0 (ZS n d) j)
    ·obtain⟨⟨k0,k1⟩,k2⟩:=hK _ hpp
     obtain⟨_,w0,w1,w2⟩:=Z5U k0 k1 u0 u1
     refine⟨.inl (r.set (Z0 (ZS n d) j).toNat (Y2 .i64 (Z0 r (Z0 (ZS n d) j)) (Y2 .i64 (Z0 b d).plain (Z0 b d).led)),j+1), ?_,⟨by simp only;omega,by simp only;omega,by simp only[List.length_set];exact hr,fun p hp=> ?_⟩,by simp only;omega⟩
     ·simp only[Uc]
      rw[if_pos (by simpa using c),if_pos (Yi hj),Y8 hj,Option.bind_some,Zb hio,Option.bind_some,if_pos (by simpa using hv),if_pos (Yi hpr),Y8 hpr,Option.bind_some,Option.bind_some,hw]
     ·simp only
      rw[WG hpr ⟨hp.1,by have:=hp.2;omega⟩]
      by_cases e:p=Z0 (ZS n d) j
      ·rw[if_pos e]
       refine⟨⟨w0,w1⟩,fun t=> ?_⟩
       rw[w2 t,Bool.or_eq_true,u3 t,k2 t, ←e]
       constructor
       ·rintro ((h|⟨h1,⟨k,q1,q2,q3⟩,h2⟩)|h)
        ·exact .inl h
        ·exact .inr ⟨h1,⟨k,q1,by omega,q3⟩,h2⟩
        ·exact .inr ⟨by rw[e];exact hv,⟨j,hj,by omega,e.symm⟩,h⟩
       ·rintro (h|⟨h1,⟨k,q1,q2,q3⟩,h2⟩)
        ·exact .inl (.inl h)
        ·exact .inr h2
      ·rw[if_neg e]
       obtain⟨m1,m2⟩:=hK p hp
       refine⟨m1,fun t=>(m2 t).trans ⟨?_, ?_⟩⟩
       ·rintro (h|⟨h1,⟨k,q1,q2,q3⟩,h2⟩)
        ·exact .inl h
        ·exact .inr ⟨h1,⟨k,q1,by omega,q3⟩,h2⟩
       ·rintro (h|⟨h1,⟨k,q1,q2,q3⟩,h2⟩)
        ·exact .inl h
        ·refine .inr ⟨h1,⟨k,q1, ?_,q3⟩,h2⟩
         by_cases e2:k=j
         ·subst e2;exact absurd q3.symm e
         ·omega
    ·refine⟨.inl (r,j+1), ?_,⟨by simp only;omega,by simp only;omega,hr,fun p hp=> ?_⟩,by simp only;omega⟩
     ·simp only[Uc]
      rw[if_pos (by simpa using c),if_pos (Yi hj),Y8 hj,Option.bind_some,Zb hio,Option.bind_some,if_neg (by simpa using hv),hw]
     ·obtain⟨m1,m2⟩:=hK p hp
      refine⟨m1,fun t=>(m2 t).trans ⟨?_, ?_⟩⟩
      ·rintro (h|⟨h1,⟨k,q1,q2,q3⟩,h2⟩)
       ·exact .inl h
       ·exact .inr ⟨h1,⟨k,q1,by simp only;omega,q3⟩,h2⟩
      ·rintro (h|⟨h1,⟨k,q1,q2,q3⟩,h2⟩)
       ·exact .inl h
       ·refine .inr ⟨h1,⟨k,q1, ?_,q3⟩,h2⟩
        simp only at q2
        by_cases e2:k=j
        ·subst e2;rw[q3]at hv;exact absurd h1 hv
        ·omega
   ·have:j=(ZS n d).length:=by omega
    subst this
    refine⟨.inr r,by simp only[Uc];rw[if_neg (by simp)],hr,fun p hp=> ?_⟩
    obtain⟨m1,m2⟩:=hK p hp
    refine⟨m1,fun t=>(m2 t).trans ⟨?_, ?_⟩⟩
    ·rintro (h|⟨h1,⟨k,q1,q2,q3⟩,h2⟩)
     ·exact .inl h
     ·exact .inr ⟨h1,by rw[←q3];exact ZR q1,h2⟩
    ·rintro (h|⟨h1,hm,h2⟩)
     ·exact .inl h
     ·obtain⟨k,q1,q3⟩:=W0 hm
      exact .inr ⟨h1,⟨k,q1,q1.2,q3⟩,h2⟩) ⟨by simp,by simp,hq,fun p hp=>⟨hqb p hp,fun t=>⟨.inl,fun h=>h.elim id (fun⟨_,⟨k,k1,k2,_⟩,_⟩=>by have:=k1.1;simp only at k2;omega)⟩⟩⟩ (by simp only;omega)
 exact⟨r,e,h1,h2⟩
theorem ZiE (hn:n.Ok) (hg:Ym n 200 100) (hf:Few of) (ho:YN n of):
  ∃r,Z0Z n of=some (r,n.ports.length,true)∧r.length=n.ports.length∧∀p,inL n.ports p→0≤Z0 r p∧∀t,tb (Z0 r p) t=true↔0≤Z0 of p∧X6 n of p t:=by
 have hs:=hg.sm
 have hr:=ho.2.1
 have hdl:=hg.domains
 have hpl:=hg.ports
 have hmk:XY 8 (n.ports.length:Int) (n.ports.length:Int)=true:=by unfold XY;simp;omega
 obtain⟨b,e,hb⟩:=Z8t hn hg hf ho
 have hbl:=hb.ok.1
 have hrep:∀p,inL n.ports p→Z0 (List.replicate n.ports.length (0:Int)) p=0:=fun p hp=>List.eq_of_mem_replicate (ZR ⟨hp.1,by simpa using hp.2⟩)
 obtain⟨r,e2,h1,h2⟩:=XE (f:=fun s:(List Int)×Int=>match s with|(l10,v11)=>Qh n of b n.domains.length l10 v11)
  (fun s=>0≤s.2∧s.2≤n.domains.length∧s.1.length=n.ports.length∧∀p,inL n.ports p→(0≤Z0 s.1 p∧Z0 s.1 p<1024)∧∀t,tb (Z0 s.1 p) t=true↔0≤Z0 of p∧∃d,inL n.domains d∧d<s.2∧p∈ZS n d∧(ZU n of false d t∨ZU n of true d t))
  (fun r=>r.length=n.ports.length∧∀p,inL n.ports p→0≤Z0 r p∧∀t,tb (Z0 r p) t=true↔0≤Z0 of p∧X6 n of p t)
  (fun s=>(n.domains.length-s.2).toNat) (s:=(List.replicate n.ports.length (0:Int),0)) (fun s hI=>by
   obtain⟨q,j⟩:=s
   obtain⟨j0,j1,hq,hK⟩:=hI
   simp only at j0 j1 hq hK⊢
   by_cases c:j<(n.domains.length:Int)
   ·have hj:inL n.domains j:=⟨j0,c⟩
    have hjb:inL b j:=⟨j0,by omega⟩
    obtain⟨q',k1,k2,k3⟩:=ZiD hg ho hb hj (n6:=n.domains.length) hq (fun p hp=>(hK p hp).1)
    refine⟨.inl (q',j+1), ?_,⟨by simp only;omega,by simp only;omega,k2,fun p hp=> ?_⟩,by simp only;omega⟩
    ·simp only[Qh]
     rw[if_pos (by simpa using c),if_pos (Yi hjb),Y8 hjb,Option.bind_some,Z8g hs,if_pos ⟨hr,hj⟩,Option.bind_some]
     rw[k1,Option.bind_some,Zc (by omega) (by omega)]
    ·obtain⟨m1,m2⟩:=k3 p hp
     refine⟨m1,fun t=> ?_⟩
     simp only
     rw[m2 t,(hK p hp).2 t]
     constructor
     ·rintro (⟨h1,d,d1,d2,d3,d4⟩|⟨h1,h2,h3⟩)
      ·exact⟨h1,d,d1,by omega,d3,d4⟩
      ·exact⟨h1,j,hj,by omega,h2,h3⟩
     ·rintro ⟨h1,d,d1,d2,d3,d4⟩
      by_cases e:d=j
      ·subst e;exact .inr ⟨h1,d3,d4⟩
      ·exact .inl ⟨h1,d,d1,by omega,d3,d4⟩
   ·have:j=n.domains.length:=by omega
    subst this
    refine⟨.inr q,by simp only[Qh];rw[if_neg (by simp)],hq,fun p hp=>⟨(hK p hp).1.1,fun t=>((hK p hp).2 t).trans ⟨?_, ?_⟩⟩⟩
    ·rintro ⟨h1,d,d1,_,d3,d4⟩;exact⟨h1,d,d1,d3,d4⟩
    ·rintro ⟨h1,d,d1,d3,d4⟩;exact⟨h1,d,d1,d1.2,d3,d4⟩) ⟨by simp,by simp,by simp,fun p hp=>by
    rw[hrep p hp]
    exact⟨by simp,fun t=>⟨fun h=>(by rw[VX]at h;cases h),fun⟨_,d,d1,d2,_⟩=>by have:=d1.1;simp only at d2;omega⟩⟩⟩ (by simp only;omega)
 refine⟨r, ?_,h1,h2⟩
 simp only[Z0Z,e,Option.bind_some,Bool.not_true,Bool.false_eq_true,if_false,hmk,if_true,Int.toNat_natCast]
 rw[e2];rfl
/-! ### The reference's sets -/
theorem ZiF (hg:Ym n 200 100) (ho:YN n of) {p:Int} {t:Nat} (ht:t<10) {l13:List Int} :
  Z8 (fun s:Bool×Int=>match s with|(v19,v20)=>T9 n (mkG n.domains.length (Yg n of 10)) n.domains.length p l13 (t:Int) v19 v20) (false,0)=some (decide (X6 n of p t)):=by
 have hs:=hg.sm
 have hdl:=hg.domains
 have e:=Zgs (f:=fun s:Bool×Int=>match s with|(v19,v20)=>T9 n (mkG n.domains.length (Yg n of 10)) n.domains.length p l13 (t:Int) v19 v20) n.domains (fun d _=>p∈ZS n d∧(ZU n of false d t∨ZU n of true d t)) (out:=fun b=>b) (by unfold Few;omega) (fun d b d0 d1 hd=>by
  have hml:(ZS n d).length≤200:=Nat.le_trans Z05 hg.ports
  have ig:inL (mkG n.domains.length (Yg n of 10)) d:=Z8r.2 ⟨d0,d1⟩
  have gg:Z0 (mkG n.domains.length (Yg n of 10)) d=Yg n of 10 d:=Vu ⟨d0,d1⟩
  obtain⟨s0,s1,s2⟩:=Z09 (fun s=>ZU n of false d s)
  obtain⟨r0,r1,r2⟩:=Z09 (fun s=>ZU n of true d s)
  have h1:Y5 (Yg n of 10 d).plain (t:Int)↔ZU n of false d t:=by
   unfold Y5 Yg
   simp only[Int.toNat_natCast]
   rw[s2 t,decide_eq_true_eq]
   exact⟨fun h=>h.2.2.2,fun h=>⟨by omega,by omega,ht,h⟩⟩
  have h2:Y5 (Yg n of 10 d).led (t:Int)↔ZU n of true d t:=by
   unfold Y5 Yg
   simp only[Int.toNat_natCast]
   rw[r2 t,decide_eq_true_eq]
   exact⟨fun h=>h.2.2.2,fun h=>⟨by omega,by omega,ht,h⟩⟩
  have b1:0≤(Yg n of 10 d).plain∧(Yg n of 10 d).plain<1024:=⟨s0,s1⟩
  have b2:0≤(Yg n of 10 d).led∧(Yg n of 10 d).led<1024:=⟨r0,r1⟩
  simp only[T9]
  rw[if_pos (by simpa using d1),Z8f hs,if_pos hd,Option.bind_some]
  rw[TB (by unfold Few;omega),Option.bind_some,Zc (by omega) (by omega)]
  cases b
  ·rw[if_neg (by simp)]
   by_cases c:p∈ZS n d
   ·rw[if_pos (decide_eq_true c),if_pos (Yi ig),Y8 ig,Option.bind_some,gg,Z48 b1.1 (by omega),Option.bind_some]
    by_cases c1:ZU n of false d t
    ·rw[if_pos (decide_eq_true (h1.2 c1))];simp[c,c1]
    ·rw[if_neg (by simpa using fun h=>c1 (h1.1 h)),Option.bind_some,Z48 b2.1 (by omega),Option.bind_some]
     by_cases c2:ZU n of true d t
     ·simp[c,c2,h2.2 c2]
     ·have hno:=mt h2.1 c2
      simp[c,c1,c2,hno]
   ·rw[if_neg (by simpa using c)];simp[c]
  ·rw[if_pos rfl];simp) (fun b=>by simp[T9])
 rw[e]
 exact Yw ⟨fun⟨d,h1,h2,h3⟩=>⟨d,h1,h2,h3⟩,fun⟨d,h1,h2,h3⟩=>⟨d,h1,h2,h3⟩⟩
theorem ZiG (hn:n.Ok) (hg:Ym n 200 100) (hf:Few of) (ho:YN n of):
  Z3v n of=some (mkG n.ports.length (fun p=>if(Z0 n.ports p).link= -1 then Yb (X6 n of p) 10 else 0),n.ports.length,true):=by
 have hs:=hg.sm
 have hdl:=hg.domains
 have hpl:=hg.ports
 have hmk:XY 8 (n.ports.length:Int) (n.ports.length:Int)=true:=by unfold XY;simp;omega
 have inner:∀(p:Int) (q:List Int),inL n.ports p→q.length=n.ports.length→Z0 q p=0→Z8 (fun s:(List Int)×Int=>match s with|(l13,v14)=>Vl n (mkG n.domains.length (Yg n of 10)) n.domains.length p l13 v14) (q,0)=some (q.set p.toNat (if(Z0 n.ports p).link= -1 then Yb (X6 n of p) 10 else 0)):=by
  intro p q hp hq h0
  have ip:inL q p:=⟨hp.1,by have:=hp.2;omega⟩
  by_cases c:(Z0 n.ports p).link= -1
  ·rw[if_pos c]
   have e:=Xu (f:=fun s:(List Int)×Int=>match s with|(l13,v14)=>Vl n (mkG n.domains.length (Yg n of 10)) n.domains.length p l13 v14) (r:=q.set p.toNat (Yb (X6 n of p) 10)) (fun t=>(q.set p.toNat (Yb (X6 n of p) t),(t:Int))) 10 (by decide) (fun t ht=>by
    obtain⟨iP,gP⟩:=Z8A ht
    have hpw:=Z5W ht
    have hpw0:(0:Int)≤((2 ^ t:Nat):Int):=Int.natCast_nonneg _
    have bt:=Z8z (X6 n of p) (k:=t) (by omega)
    have iq2:inL (q.set p.toNat (Yb (X6 n of p) t)) p:=Ut.2 ip
    have gq2:Z0 (q.set p.toNat (Yb (X6 n of p) t)) p=Yb (X6 n of p) t:=by rw[WG ip ip,if_pos rfl]
    simp only[Vl]
    rw[if_pos (by simp;omega),Zb hp,Option.bind_some,if_pos (by simpa using c),ZiF hg ho ht,Option.bind_some,Zc (n:=(t:Int)+1) (by omega) (by omega)]
    by_cases c2:X6 n of p t
    ·rw[if_pos (decide_eq_true c2),if_pos (Yi iq2),Y8 iq2,Option.bind_some,Vk,Option.bind_some]
     rw[if_pos (Yi iP),Y8 iP,Option.bind_some,Option.bind_some,gP,gq2,List.set_set,Zc (by omega) (by omega)]
     have:Yb (X6 n of p) (t+1)=Yb (X6 n of p) t+((2 ^ t:Nat):Int):=by rw[Yb,if_pos c2]
     rw[this];rfl
    ·rw[if_neg (by simpa using c2)]
     have:Yb (X6 n of p) (t+1)=Yb (X6 n of p) t:=by rw[Yb,if_neg c2];simp
     rw[this];rfl) (by simp only[Vl];rw[if_neg (by simp)])
   have h1:q.set p.toNat (Yb (X6 n of p) 0)=q:=by
    have:=Z07 ip;rw[h0]at this;exact this
   have e':Z8 (fun s:(List Int)×Int=>match s with|(l13,v14)=>Vl n (mkG n.domains.length (Yg n of 10)) n.domains.length p l13 v14) (q.set p.toNat (Yb (X6 n of p) 0),0)=some (q.set p.toNat (Yb (X6 n of p) 10)):=e
   rw[h1]at e'
   exact e'
  ·rw[if_neg c]
   have h1:q.set p.toNat 0=q:=by
    have:=Z07 ip;rw[h0]at this;exact this
   rw[h1]
   exact Xu (f:=fun s:(List Int)×Int=>match s with|(l13,v14)=>Vl n (mkG n.domains.length (Yg n of 10)) n.domains.length p l13 v14) (r:=q) (fun _=>(q,0)) 0 (by decide) (fun i hi=>by omega) (by
    simp only[Vl]
    rw[if_pos (by simp),Zb hp,Option.bind_some,if_neg (by simpa using c)])
 obtain⟨r,e,hr⟩:=XE (f:=fun s:(List Int)×Int=>match s with|(l10,v11)=>QI n (mkG n.domains.length (Yg n of 10)) n.domains.length l10 v11)
  (fun s=>0≤s.2∧s.2≤n.ports.length∧s.1.length=n.ports.length∧∀p,inL n.ports p→Z0 s.1 p=if p<s.2 then(if(Z0 n.ports p).link= -1 then Yb (X6 n of p) 10 else 0)else 0)
  (fun r=>r=mkG n.ports.length (fun p=>if(Z0 n.ports p).link= -1 then Yb (X6 n of p) 10 else 0)) (fun s=>(n.ports.length-s.2).toNat) (s:=(List.replicate n.ports.length (0:Int),0)) (fun s hI=>by
   obtain⟨q,j⟩:=s
   obtain⟨j0,j1,hq,hK⟩:=hI
   simp only at j0 j1 hq hK⊢
   by_cases c:j<(n.ports.length:Int)
   ·have hj:inL n.ports j:=⟨j0,c⟩
    have hv:=hK j hj
    rw[if_neg (by omega)]at hv
    have iq:inL q j:=⟨j0,by omega⟩
    refine⟨.inl (q.set j.toNat (if(Z0 n.ports j).link= -1 then Yb (X6 n of j) 10 else 0),j+1), ?_,⟨by simp only;omega,by simp only;omega,by simp only[List.length_set];exact hq,fun p hp=> ?_⟩,by simp only;omega⟩
    ·simp only[QI]
     rw[if_pos (by simpa using c),inner j q hj hq hv,Option.bind_some,Zc (by omega) (by omega)]
    ·simp only
     rw[WG iq ⟨hp.1,by have:=hp.2;omega⟩,hK p hp]
     by_cases e:p=j
     ·rw[if_pos e,if_pos (show p<j+1 by omega),e]
     ·rw[if_neg e]
      by_cases e2:p<j
      ·rw[if_pos e2,if_pos (show p<j+1 by omega)]
      ·rw[if_neg e2,if_neg (show ¬p<j+1 by omega)]
   ·have:j=n.ports.length:=by omega
    subst this
    refine⟨.inr q,by simp only[QI];rw[if_neg (by simp)],Z40.2 ⟨by rw[Vb];exact hq,fun p hp=> ?_⟩⟩
    have hpp:inL n.ports p:=⟨hp.1,by have:=hp.2;omega⟩
    show Z0 q p=Z0 (mkG _ _) p
    rw[hK p hpp,if_pos hpp.2,Vu ⟨hpp.1,hpp.2⟩]) ⟨by simp,by simp,by simp,fun p hp=>by
    rw[if_neg (by have:=hp.1;simp only;omega)]
    exact List.eq_of_mem_replicate (ZR ⟨hp.1,by simpa using hp.2⟩)⟩ (by simp only;omega)
 simp only[Z3v,Zc5 hn hg hf ho,Option.bind_some,Bool.not_true,Bool.false_eq_true,if_false,hmk,if_true,Int.toNat_natCast]
 rw[e,hr];rfl
end
end Go.Eng
