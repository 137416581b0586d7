/- The engine, part 15: what an argument's reading tells; the frame behind a call. -/
import Derived.Test.YtcclngfmkodgjaaGreatEng14
import Derived.WalkKit
import Derived.ProofKit
import Derived.JoinedCond
import Derived.ChangeArms
import Derived.Carry
import Derived.ChangeSame
set_option linter.unusedVariables false
set_option linter.unusedSectionVars false
namespace Go.Eng
open Go Go.RowKit
variable {D:Den} [Gl D] {H:Type} {enc:TypeId×Value→H} {P:Program} {w:World} {base:Nat} {spare:Nat→Bool} {held:Bool} {U:Zu D} {S:Nat→Prop}

def Yq (enc:TypeId×Value→H) (P:Program) (w:World) (base:Nat) (spare:Nat→Bool) (held:Bool) (U:Zu D) (S:Nat→Prop) (t:Nat) {α:Type} (ok:α→Prop) (row:α→List (AV D)):Prop:=
 ∀fuel cs x,DataW.trod enc P w base spare held fuel t cs=some x→∃y:α,YJ U w S cs (row y)∧ok y

theorem TW {v:Value} {a:AV D} (h:ZE U w S v a):YJ U w S [v] [a]:=
 ⟨rfl,fun k x c hx hc=>by
  cases k with
  |zero=>simp at hx hc;subst hx;subst hc;exact h
  |succ k=>simp at hx⟩

theorem ZX {t:Nat} {k:IntKind} (ht:P.underlying t=some (.int k)):Yq enc P w base spare held U S t (okI k) (fun n:Int=> [.v (.int k n)]):=fun fuel cs x h=>by
 obtain⟨n,rfl,_,hw⟩:=DataW.trod_int ht h
 exact⟨n,TW (.v _),by simpa[Lit.wf,okI]using hw⟩
theorem Z9y {t:Nat} (ht:P.underlying t=some .bool):Yq enc P w base spare held U S t okB (fun b:Bool=> [.v (.bool b)]):=fun fuel cs x h=>by
 obtain⟨n,rfl,_⟩:=DataW.trod_bool ht h
 exact⟨n,TW (.v _),trivial⟩
theorem Z4U {t:Nat} (ht:P.underlying t=some .string):Yq enc P w base spare held U S t okS (fun s:ByteArray=> [.v (.string s)]):=fun fuel cs x h=>by
 obtain⟨n,rfl,_,hm⟩:=DataW.trod_string ht h
 exact⟨n,TW (.v _),hm⟩

theorem Z9z {α:Type} {p:Nat→α→Prop} :∀(n:Nat),(∀i,i<n→∃y,p i y)→∃l:List α,l.length=n∧∀i (y:α),l[i]?=some y→p i y
 |0,_=>⟨[],rfl,fun i y h=>by simp at h⟩
 |n+1,h=>by
  obtain⟨l,hl,hp⟩:=Z9z n (fun i hi=>h i (by omega))
  obtain⟨y,hy⟩:=h n (by omega)
  refine⟨l++ [y],by simp[hl],fun i z hz=> ?_⟩
  by_cases hi:i<l.length
  ·rw[List.getElem?_append_left hi]at hz;exact hp i z hz
  ·rw[List.getElem?_append_right (by omega)]at hz
   have:i=l.length:=by
    have:=(List.getElem?_eq_some_iff.1 hz).1
    simp at this;omega
   subst this
   simp at hz;subst hz;rw[hl];exact hy

theorem Z9A {t:Nat} :∀(l:List (D t)) (k:Nat) c,(Z5 U t l)[k]?=some c→∃i y,l[i]?=some y∧i * U.width t≤k∧k<(i+1) * U.width t∧(U.cells t y)[k-i * U.width t]?=some c
 | [],k,c,h=>by simp[Z5]at h
 |y::r,k,c,h=>by
  have hc:Z5 U t (y::r)=U.cells t y++Z5 U t r:=rfl
  rw[hc]at h
  by_cases hk:k<(U.cells t y).length
  ·rw[List.getElem?_append_left hk]at h
   rw[U.len]at hk
   exact⟨0,y,rfl,by omega,by omega,by simpa using h⟩
  ·rw[List.getElem?_append_right (by omega)]at h
   rw[U.len]at h hk
   obtain⟨i,z,h1,h2,h3,h4⟩:=Z9A r _ c h
   refine⟨i+1,z,by simpa using h1, ?_, ?_, ?_⟩
   ·rw[Nat.succ_mul];omega
   ·rw[Nat.succ_mul];omega
   ·rw[Nat.succ_mul,show k-(i * U.width t+U.width t)=k-U.width t-i * U.width t from by omega];exact h4

theorem Z9B {a:Addr} {n:Nat} {cs:List Value} (h:w.cells? base a n=some cs):cs.length=n∧∀j,j<n→w.cell? (a.add j)=cs[j]?:=by
 unfold World.cells? at h
 split at h
 case isFalse=>cases h
 exact⟨by simpa using mapM_some_length h,fun j hj=>by
  have:=mapM_some_get h j j (by simp[hj])
  exact this⟩

theorem Ze1 {a:Addr} {v:Value} (h:w.cell? a=some v):a.spot=none:=by
 unfold World.cell? at h
 split at h
 ·split at h
  ·cases h
  ·rename_i hs;simpa using hs
 ·cases h

theorem Xr {t e:Nat} {ok:D e→Prop} (ht:P.underlying t=some (.slice e)) (hw:P.cellsOf e=U.width e) (hS:∀b,b<w.heap.size→S b) (he:Yq enc P w base spare held U S e ok (U.cells e)):
  Yq enc P w base spare held U S t (okL ok) (fun l:List (D e)=> [.sl e l]):=fun fuel cs x h=>by
 rcases DataW.trod_slice ht h with⟨rfl,_⟩|⟨a,len,cap,elems,rest,n,_,rfl,_,hb,hle,hcm,hel,hget,_,_⟩
 ·exact⟨[],TW (.sl0 _ _ _),Nat.zero_le _,fun x hx=>nomatch hx⟩
 ·by_cases hl0:len=0
  ·subst hl0;exact⟨[],TW (.sl0 _ _ _),Nat.zero_le _,fun x hx=>nomatch hx⟩
  obtain⟨l,hl,hp⟩:=Z9z (p:=fun i (y:D e)=>∃cs,w.cells? base (a.add (i * U.width e)) (U.width e)=some cs∧YJ U w S cs (U.cells e y)∧ok y) len (fun i hi=>by
   have hg:=hget i hi
   rw[hw]at hg
   have hsome:∃q,elems[i]?=some q:=⟨_,List.getElem?_eq_getElem (by omega)⟩
   obtain⟨q,hq⟩:=hsome
   rw[hq]at hg
   obtain⟨cs,h1,h2⟩:=Option.bind_eq_some_iff.1 hg
   obtain⟨y,hy⟩:=he n cs q h2
   exact⟨y,cs,h1,hy⟩)
  have hpos:=U.pos e
  -- the first cell
  have hfirst:∃v,w.cell? a=some v:=by
   obtain⟨y,hy⟩:∃y,l[0]?=some y:=⟨_,List.getElem?_eq_getElem (by omega)⟩
   obtain⟨cs,h1,h2⟩:=hp 0 y hy
   obtain⟨h3,h4⟩:=Z9B h1
   have h5:=h4 0 hpos
   simp[Addr.add]at h5
   exact⟨cs[0],by rw[h5];exact List.getElem?_eq_getElem (by omega)⟩
  obtain⟨v0,hv0⟩:=hfirst
  have hsp:=Ze1 hv0
  have hblk:a.block<w.heap.size:=by
   unfold World.cell? at hv0
   split at hv0
   ·rename_i hh;exact(Array.getElem?_eq_some_iff.1 hh).1
   ·cases hv0
  obtain⟨ab,ao,as⟩:=a
  simp only at hsp
  subst hsp
  refine⟨l,TW ?_,by omega,fun y hy=>by
   obtain⟨i,hi⟩:=List.getElem?_of_mem hy
   obtain⟨_,_,_,h3⟩:=hp i y hi
   exact h3⟩
  have key:∀(k:Nat) c,(Z5 U e l)[k]?=some c→∃v,w.cell? ⟨ab,ao+k,none⟩=some v∧ZE U w S v c:=by
   intro k c hk
   obtain⟨i,y,h1,h2,h3,h4⟩:=Z9A l k c hk
   obtain⟨cs,g1,⟨g2,g3⟩,_⟩:=hp i y h1
   obtain⟨g4,g5⟩:=Z9B g1
   have hj:k-i * U.width e<U.width e:=by rw[Nat.succ_mul]at h3;omega
   have h6:=g5 (k-i * U.width e) hj
   have h7:(Addr.add (Addr.add ⟨ab,ao,none⟩ (i * U.width e)) (k-i * U.width e))=⟨ab,ao+k,none⟩:=by
    unfold Addr.add
    split <;> split <;> simp <;> omega
   rw[h7]at h6
   have h8:cs[k-i * U.width e]?=some cs[k-i * U.width e]:=List.getElem?_eq_getElem (by omega)
   rw[h8]at h6
   exact⟨_,h6,g3 _ _ _ h8 h4⟩
  rw[←hl]
  exact .sl e l ab ao cap (fun k=>(w.cell? ⟨ab,ao+k,none⟩).getD undef) (hS ab hblk) (by omega) (fun k c hk=>by
   obtain⟨v,h1,_⟩:=key k c hk
   rw[h1];rfl) (fun k c hk=>by
   obtain⟨v,h1,h2⟩:=key k c hk
   rw[h1];exact h2)

def Z4V (enc:TypeId×Value→H) (P:Program) (w:World) (base:Nat) (spare:Nat→Bool) (held:Bool) (U:Zu D) (S:Nat→Prop) (fs:List (Nat×Nat)) {α:Type} (ok:α→Prop) (row:α→List (AV D)):Prop:=
 ∀(off n:Nat) (cs:List Value),(∀(i:Nat) (q:Nat×Nat),fs[i]?=some q→q.2=off+((fs.take i).map fun p=>P.cellsOf p.1).sum∧∃x,DataW.trod enc P w base spare held n q.1 ((cs.drop q.2).take (P.cellsOf q.1))=some x)→
  ∃y:α,YJ U w S ((cs.drop off).take ((fs.map fun p=>P.cellsOf p.1).sum)) (row y)∧ok y

theorem Z9C {a b:List Value} {c d:List (AV D)} (h1:YJ U w S a c) (h2:YJ U w S b d):YJ U w S (a++b) (c++d):=by
 refine⟨by simp[h1.1,h2.1],fun k x y hx hy=> ?_⟩
 by_cases hk:k<a.length
 ·rw[List.getElem?_append_left hk]at hx;rw[List.getElem?_append_left (by rw[←h1.1];exact hk)]at hy;exact h1.2 k x y hx hy
 ·rw[List.getElem?_append_right (by omega)]at hx;rw[List.getElem?_append_right (by rw[←h1.1];omega), ←h1.1]at hy;exact h2.2 _ x y hx hy

theorem XA:Z4V enc P w base spare held U S [] (fun _=>True) (fun _:Unit=> []):=fun off n cs h=>⟨(),by simp[YJ],trivial⟩
theorem ZN {t o:Nat} {fs:List (Nat×Nat)} {α β:Type} {ok:α→Prop} {oks:β→Prop} {row:α→List (AV D)} {rows:β→List (AV D)} (h1:Yq enc P w base spare held U S t ok row) (h2:Z4V enc P w base spare held U S fs oks rows):
  Z4V enc P w base spare held U S ((t,o)::fs) (fun y:α×β=>ok y.1∧oks y.2) (fun y:α×β=>row y.1++rows y.2):=fun off n cs h=>by
 obtain⟨g1,x,g2⟩:=h 0 (t,o) rfl
 simp at g1
 subst g1
 obtain⟨y,hy,oy⟩:=h1 n _ x g2
 obtain⟨z,hz,oz⟩:=h2 (o+P.cellsOf t) n cs (fun i q hq=>by
  obtain⟨k1,k2⟩:=h (i+1) q (by simpa using hq)
  refine⟨?_,k2⟩
  simp only[List.take_succ_cons,List.map_cons,List.sum_cons]at k1
  omega)
 refine⟨(y,z), ?_,oy,oz⟩
 have:=Z9C hy hz
 have e:((cs.drop o).take (((t,o)::fs).map fun p=>P.cellsOf p.1).sum)=(cs.drop o).take (P.cellsOf t)++(cs.drop (o+P.cellsOf t)).take ((fs.map fun p=>P.cellsOf p.1).sum):=by
  rw[List.map_cons,List.sum_cons,List.take_add,List.drop_drop]
 rw[e]
 exact this

theorem XB {t:Nat} {fs:Array Field} {α β:Type} {oks:β→Prop} {rows:β→List (AV D)} (ok:α→Prop) {row:α→List (AV D)} (ht:P.underlying t=some (.struct fs)) (f:β→α) (hok:∀y,oks y→ok (f y)) (hrow:∀y,row (f y)=rows y)
  (hoff:∀(i:Nat) q,(fs.toList.map fun f=>(f.type,f.offset))[i]?=some q→q.2=0+(((fs.toList.map fun f=>(f.type,f.offset)).take i).map fun p=>P.cellsOf p.1).sum)
  (hsum:P.cellsOf t=((fs.toList.map fun f=>(f.type,f.offset)).map fun p=>P.cellsOf p.1).sum)
  (h:Z4V enc P w base spare held U S (fs.toList.map fun f=>(f.type,f.offset)) oks rows):Yq enc P w base spare held U S t ok row:=fun fuel cs x hx=>by
 obtain⟨xs,n,_,_,hcl,hxl,hg⟩:=DataW.trod_struct ht hx
 obtain⟨y,hy,oy⟩:=h 0 n cs (fun i q hq=>by
  refine⟨hoff i q hq, ?_⟩
  rw[List.getElem?_map]at hq
  obtain⟨fd,hfd,rfl⟩:=Option.map_eq_some_iff.1 hq
  have hfd':fs[i]?=some fd:=by simpa using hfd
  have:=hg i fd hfd'
  have hlt:i<xs.length:=by rw[hxl];exact(Array.getElem?_eq_some_iff.1 hfd').1
  exact⟨xs[i],by rw[this];exact List.getElem?_eq_getElem hlt⟩)
 rw[←hsum, ←hcl]at hy
 exact⟨f y,by rw[hrow];simpa using hy,hok y oy⟩

def E0 (w:World):Emb:= { m:=fun _=>none,S:=fun b=>b<w.heap.size }
def Z9D (U:Zu D) (w:World):Prop:=∀g r,Gl.row (D:=D) g=some r→ZE U w (E0 w).S (.pointer (some ⟨g,0,none⟩)) (.rp r 0)
theorem Ze2 (w:World) (hg:Z9D U w):Inv U w (E0 w) []:=⟨fun id o h=>by simp at h,fun i j oi oj b h=>by simp at h,fun b h=>h,hg⟩

theorem Ze3 {f:FuncId} {args:Array Value} {as:List (AV D)} {r:AV D} {h':Z3 D} (hc:Z7 P U f as [] r h') (hg:Z9D U w) (hr:YJ U w (E0 w).S args.toList as):
  Calls P f args w fun e w'=>∃v E',e= .returned v∧Inv U w' E' h'∧Rep U w' E' h' v r∧Below w.heap.size w w'∧∀a:Addr,a.block<w.heap.size→w'.frozen? a=w.frozen? a:=by
 have hrep:ZW U w (E0 w) [] args.toList as:=⟨hr.1,fun k x c hx hc=> .pure _ _ (hr.2 k x c hx hc)⟩
 have:=hc.2 w (E0 w) args.toList (Ze2 w hg) hrep
 refine this.mono fun e w' ⟨v,E',h1,h2,h3,h4⟩=>⟨v,E',h1,h2,h4,⟨h3.os,h3.tape,h3.output,h3.size,fun k hk=>h3.keep k hk (fun⟨id,o,ho,_⟩=>by simp at ho)⟩,fun a ha=>h3.fz a ha (fun⟨id,o,ho,_⟩=>by simp at ho)⟩

theorem Z9E (hl:laidOutB P=true) {W W':World} (hb:Below W.heap.size W W') {sp:Nat→Bool} :∀ {ts:List TypeId} {vs:List Value} {ds:List (DataW H)} {ps:List MemPlace},
  (ts.all fun t=>P.readableRec t && decide (t<P.types.size))=true→DataW.TrodAll enc P W 0 (fun _=>true) true ts vs ds ps→(∀x∈ps,x.block<W.heap.size)→(∀x∈ps,sp x.block=true)→
  DataW.TrodAll enc P W' 0 sp true ts vs ds ps
 | [],[],[],_,_,h,_,_=>h
 |t::ts,v::vs,d::ds,ps,hr,h,hlt,hsp=>by
  obtain⟨p,q,h1,h2,rfl⟩:=h
  simp only[List.all_cons,Bool.and_eq_true,decide_eq_true_eq]at hr
  refine⟨p,q,WideElems.Trod_stays hl hr.1.1 hr.1.2 h1 (fun x hx=>hb.same (hlt x (by simp[hx]))) (fun x hx=>hsp x (by simp[hx])), ?_,rfl⟩
  exact Z9E hl hb hr.2 h2 (fun x hx=>hlt x (by simp[hx])) (fun x hx=>hsp x (by simp[hx]))
 | [],_::_,_,_,_,h,_,_=>h.elim
 | [],[],_::_,_,_,h,_,_=>h.elim
 |_::_,[],_,_,_,h,_,_=>h.elim
 |_::_,_::_,[],_,_,h,_,_=>h.elim

/-! ### Arguments -/
def Z7g:Option TypeDesc→Bool
 |some .bool|some .string|some (.int _)|some (.slice _)=>true
 |_=>false
theorem Ze4 {t:Nat} {b:Nat} {v:Value} (ht:Z7g (P.underlying t)=true) (hv:Value.okWide P w .any b t v):∀cs,v≠ .agg cs:=by
 intro cs e
 subst e
 unfold Z7g at ht
 split at ht <;> first|(exact absurd ht Bool.false_ne_true)|(rename_i hu;simp[Value.okWide,Cell.okWide,Cell.ok,hu]at hv)
theorem Z7h {t:Nat} {b:Nat} {v:Value} {α:Type} {ok:α→Prop} {a:α→AV D} {d:DataW H} {p:List MemPlace} (ht:Z7g (P.underlying t)=true) (hE:Yq enc P w base spare held U S t ok (fun y=> [a y]))
  (hv:Value.okWide P w .any b t v) (h:DataW.Trod enc P w base spare held t v d p):∃y,ZE U w S v (a y)∧ok y:=by
 obtain⟨fuel,hf⟩:=h
 obtain⟨y,h1,h2⟩:=hE _ _ _ hf
 have hc:v.cells= #[v]:=by
  have:=Ze4 ht hv
  cases v <;> first|rfl|exact absurd rfl (this _)
 rw[hc]at h1
 exact⟨y,h1.2 0 v (a y) rfl rfl,h2⟩
theorem Ze5 {t:Nat} {b:Nat} {fs:Array Field} {v:Value} {α:Type} {ok:α→Prop} {row:α→List (AV D)} {d:DataW H} {p:List MemPlace} (ht:P.underlying t=some (.struct fs)) (hE:Yq enc P w base spare held U S t ok row)
  (hv:Value.okWide P w .any b t v) (h:DataW.Trod enc P w base spare held t v d p):∃y,ZE U w S v (.agg (row y))∧ok y:=by
 obtain⟨fuel,hf⟩:=h
 obtain⟨y,h1,h2⟩:=hE _ _ _ hf
 have hv2:∃cs,v= .agg cs:=by
  unfold Value.okWide at hv
  rw[ht]at hv
  obtain⟨cs,h,_⟩:=hv
  exact⟨cs,h⟩
 obtain⟨cs,rfl⟩:=hv2
 exact⟨y, .agg cs.toList _ h1.1 h1.2,h2⟩
theorem Ze6:YJ U w S [] []:=⟨rfl,fun k x c hx=>by simp at hx⟩
theorem Z4W {v:Value} {a:AV D} {vs:List Value} {cs:List (AV D)} (h:ZE U w S v a) (h2:YJ U w S vs cs):YJ U w S (v::vs) (a::cs):=Z9C (TW h) h2

def Ze7 (P:Program) (l:List (Nat×Nat)):Bool:=(List.range l.length).all fun i=>match l[i]? with
 |some q=>Nat.beq q.2 (0+((l.take i).map fun p=>P.cellsOf p.1).sum)
 |none=>true
theorem XC {l:List (Nat×Nat)} (h:Ze7 P l=true):∀(i:Nat) q,l[i]?=some q→q.2=0+((l.take i).map fun p=>P.cellsOf p.1).sum:=by
 intro i q hq
 have:=List.all_eq_true.1 h i (List.mem_range.2 (List.getElem?_eq_some_iff.1 hq).1)
 rw[hq]at this
 exact Nat.eq_of_beq_eq_true this

open Go.ChangeShapes Go.WideShapes in
theorem Ze8 {P:Program} {f:Func} {s:ChangeSpec} {apart fresh handsOn again:Bool} {W W':World} {args:Array Value} {v:Value} {ds gs:List (DataW H)} {before pa pv:List MemPlace}
  (hW:DataW.Whole enc P f.params.toList s.vars apart W args.toList ds gs before)
  (hres:∀(b:Nat) (sp:Nat→Bool) (hd:Bool),DataW.TrodAll enc P W' b sp hd f.resultTypes.toList (v.resultList f.resultTypes.size) (s.fn H (ds++gs)).results [])
  (hargs:∀sp:Nat→Bool,(∀p∈before,sp p.block=true)→DataW.TrodAll enc P W' 0 sp true f.params.toList args.toList (s.fn H (ds++gs)).args pa)
  (hvars:∀sp:Nat→Bool,(∀p∈before,sp p.block=true)→DataW.TrodVars enc P W' sp s.vars (s.fn H (ds++gs)).vars pv)
  (hps:before=pa++pv) (hk:W.keptBut W' (· ∈before)) (hfz:∀a:Addr,a.block<W.heap.size→W'.frozen? a=W.frozen? a)
  (hok:∀(j:Nat) (t:TypeId) (r:Value),f.resultTypes[j]?=some t→(v.resultList f.resultTypes.size)[j]?=some r→Value.okWide P W' .any 0 t r):
  s.post enc P f apart fresh handsOn again W args v W':=by
 have hlt:=hW.lt
 have hold:∀p∈before,(fun b=>decide (b<W.heap.size)) p.block=true:=fun p hp=>by simpa using hlt p hp
 refine⟨ds,gs,before,[],pa,pv,hW,hres _ _ _,hargs _ hold,hvars _ hold,World.keptBut_mono (fun p hp=>⟨hp,Or.inr (by rwa [hps,List.mem_append]at hp)⟩) hk,fun _=> ?_⟩
 obtain⟨_,_,_,_,_,hz,hn⟩:=hW
 have hmem:∀p,p∈([]++pa)++pv→p∈before:=fun p hp=>by rw[hps];simpa using hp
 refine⟨hok,_,_,([]++pa)++pv,⟨[]++pa,pv,trodAll_append (hargs _ (fun _ _=>rfl)) (hres _ _ _),hvars _ (fun _ _=>rfl),rfl,fun b off hp=> ?_,fun ha=> ?_⟩,fun p hp _=>hmem p hp⟩
 ·rw[hfz _ (hlt _ (hmem _ hp))]
  exact hz b off (hmem _ hp)
 ·have:=hn ha
  rw[hps]at this
  simpa using this
end Go.Eng
