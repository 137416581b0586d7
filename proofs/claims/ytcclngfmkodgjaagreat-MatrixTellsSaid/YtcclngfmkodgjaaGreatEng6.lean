/- The engine, part 6: literals, makes, appends, calls. -/
import Derived.Test.YtcclngfmkodgjaaGreatEng5
import Derived.Laws.MakeOwn
import Derived.Deep.Upon
import Derived.Room.Entries
set_option linter.unusedVariables false
set_option linter.unusedSectionVars false
set_option linter.unusedSimpArgs false
namespace Go.Eng
open Go
variable {D:Den} [Gl D]

section
variable {P:Program} {U:Zu D} {o:Oper} {a:Act} {w:World} {E:Emb} {hp:Z3 D}

theorem Inv.heap {w':World} (h:w'.heap=w.heap) (hi:Inv U w E hp):Inv U w' E hp:=by
 have hr:∀x a,Rep U w E hp x a→Rep U w' E hp x a:=fun x a=>Rep.mono (fun _ h=>h) (fun b _=>by rw[h]) (Evo.refl U E hp)
 have hr2:∀x a,ZE U w E.S x a→ZE U w' E.S x a:=fun x a=>ZE.mono (fun _ h=>h) (fun b _=>by rw[h])
 exact⟨fun id o ho=>(hi.obj id o ho).keep (fun b _ _ _ _=>by rw[h]) (fun _ h=>h) (fun _ _ _ _ _ _ h=>h) (by rw[h];exact Nat.le_refl _) hr hr2,hi.inj,fun b hb=>by rw[h];exact hi.sb b hb,fun g r hg=>hr2 _ _ (hi.gl g r hg)⟩
theorem Zg.same {w':World} (h:w'.heap=w.heap) (h1:w'.os=w.os) (h2:w'.tape=w.tape) (h3:w'.output=w.output):Zg U w E hp w' E hp:=
 ⟨h1,h2,h3,fun a _ _=>by unfold World.frozen?;rw[h],by rw[h];exact Nat.le_refl _,fun b _ _=>by rw[h],fun _ _ h=>h,fun _ h=>h,fun _ h=> .inl h,Evo.refl U E hp⟩
theorem Inv.drew (hi:Inv U w E hp):Inv U w.drew E hp:=Inv.heap (w:=w) rfl hi
theorem Zg.drew:Zg U w E hp w.drew E hp:=Zg.same (w:=w) rfl rfl rfl rfl

theorem Z4y {ob:Zf D} {n:Nat} {ps:List Prop} (h:vld ob n=some ps) (ho:ZD ps):n=ob.len:=by
 cases ob with
 |arr t l f=>simp[vld]at h;subst h;exact ho.1
 |box e row f=>
  simp only[vld]at h
  split at h
  ·rename_i hn;exact Nat.eq_of_beq_eq_true hn
  ·cases h
 |dp t l pm op ln=>simp[vld]at h;subst h;exact ho.1
 |dead n t=>simp[vld]at h

theorem W7 (b off n:Nat):(⟨b,off,none⟩:Addr).add n=⟨b,off+n,none⟩:=by
 unfold Addr.add;split
 ·simp_all
 ·rfl

theorem Z8P {s f off:Nat} {c r:AV D} {v:Value} (hf:Z6j P s f=some off)
  (hp':∃b base,v= .pointer (some ⟨b,base,none⟩)):
  ∃b base,v= .pointer (some ⟨b,base,none⟩)∧(Instr.fieldAt s v f).run P w= .ok (.pointer (some ⟨b,base+off,none⟩)) w:=by
 obtain⟨b,base,rfl⟩:=hp'
 refine⟨b,base,rfl, ?_⟩
 unfold Z6j at hf
 split at hf
 ·rename_i fs hs
  split at hf
  ·rename_i fd hfd
   split at hf
   ·cases hf
   ·rename_i hsz
    injection hf with hf;subst hf
    have hinfo:∃i,P.info? fd.type=some i∧¬i.size=0:=by
     unfold Program.cellsOf at hsz
     cases hi:P.info? fd.type with
     |none=>simp[hi]at hsz
     |some i=>exact⟨i,rfl,by simpa[hi]using hsz⟩
    obtain⟨i,hi,hz⟩:=hinfo
    simp[Instr.fieldAt,run_underlying hs,hfd,Instr.sureAddr,fieldPlace,sizeOf,typeInfo,hi,hz,W7]
  ·cases hf
 ·cases hf

theorem Z8Q (off:Nat):∀(vs:List Value) (j:Nat) (cells:Array Value),off+j+vs.length≤cells.size→
  ((vs.zipIdx j).foldl (fun cs (q:Value×Nat)=>cs.setIfInBounds (off+q.2) q.1) cells).toList=cells.toList.take (off+j)++vs++cells.toList.drop (off+j+vs.length)
 | [],j,cells,h=>by simp
 |v::r,j,cells,h=>by
  simp only[List.zipIdx_cons,List.foldl_cons]
  rw[Z8Q off r (j+1) _ (by simp at h⊢;omega)]
  have:=list_seg_step cells.toList (off+j) v r (by simp at h⊢;omega)
  simpa[Array.toList_setIfInBounds,Nat.add_assoc]using this

theorem Z8R (place:Nat→Option (Nat×Nat)) (cells:Array Value) (i:Nat) (v:Value) (rest:List (Nat×Value)) {off size:Nat} (hp:place i=some (off,size))
  (hv:v.cells.size=size) (hle:off+size≤cells.size):
  Instr.fill place cells ((i,v)::rest)=Instr.fill place (cells.toList.take off++v.cells.toList++cells.toList.drop (off+size)).toArray rest:=by
 have hn:¬(v.cells.size≠size||decide (off+v.cells.size>cells.size))=true:=by simp[hv];omega
 simp only[Instr.fill,hp]
 rw[if_neg hn]
 congr 1
 apply Array.ext'
 have e:v.cells.zipIdx=(v.cells.toList.zipIdx 0).toArray:=by apply Array.ext';simp
 rw[e,List.foldl_toArray]
 have:=Z8Q off v.cells.toList 0 cells (by simp;omega)
 simp only[Nat.add_zero]at this
 rw[this]
 simp[hv]

theorem ZW.splice {vs xs:List Value} {row cs:List (AV D)} {off:Nat} (h:ZW U w E hp vs row) (hc:ZW U w E hp xs cs) (hle:off+cs.length≤row.length):
  ZW U w E hp (vs.take off++xs++vs.drop (off+xs.length)) (splice row off cs):=by
 have hl:=h.1
 have hcl:=hc.1
 refine⟨by simp[Go.Eng.splice];omega,fun k x c hx hcc=> ?_⟩
 rw[We (by omega)]at hx
 unfold Go.Eng.splice at hcc
 rw[We hle]at hcc
 by_cases g1:k<off
 ·rw[if_pos g1]at hx hcc;exact h.2 k x c hx hcc
 ·rw[if_neg g1]at hx hcc
  by_cases g2:k<off+cs.length
  ·rw[if_pos (by omega)]at hx;rw[if_pos g2]at hcc;exact hc.2 _ x c hx hcc
  ·rw[if_neg (by omega)]at hx;rw[if_neg g2]at hcc;exact h.2 k x c hx hcc

theorem WI {t:Nat} {z:AV D} (h:Xy P t=some z):∃i v,P.info? t=some i∧i.zero=some v∧Rep U w E hp v z:=by
 unfold Xy at h
 split at h
 ·rename_i i hi
  split at h
  ·rename_i cs hz
   injection h with h;subst h
   have:=Z4r (U:=U) (w:=w) (E:=E) (hp:=hp) cs.toList (UB P 10 t)
   exact⟨i,_,hi,hz, .agg cs.toList _ this.1 this.2⟩
  ·rename_i x hne hz
   split at h
   ·rename_i hh
    injection h with h;subst h
    have:=Z4r (U:=U) (w:=w) (E:=E) (hp:=hp) [x] (UB P 10 t)
    rw[hh]at this
    exact⟨i,x,hi,hz,this.2 0 _ _ rfl rfl⟩
   ·cases h
  ·cases h
 ·cases h

def U3 (U:Zu D) (w:World) (E:Emb) (hp:Z3 D):List (Nat×Value)→List (Nat×AV D)→Prop
 | [],[]=>True
 |(i,v)::r,(j,c)::s=>i=j∧Rep U w E hp v c∧U3 U w E hp r s
 |_,_=>False

theorem Z8S {fs:Array Field} {places:List (Nat×Nat)} (hpl:fs.toList.mapM (fun f=>(P.info? f.type).map fun i=>(f.offset,i.size))=some places):
  ∀(pv:List (Nat×Value)) (pa:List (Nat×AV D)) (cells:Array Value) (row row':List (AV D)),U3 U w E hp pv pa→(∀q∈pa,X7 q.2=true)→ZW U w E hp cells.toList row→
   Z1Q P fs row pa=some row'→∃cells',Instr.fill (places.toArray[·]?) cells pv=some cells'∧ZW U w E hp cells'.toList row'
 | [],[],cells,row,row',_,_,hr,h=>by
  simp[Z1Q]at h;subst h
  exact⟨cells,rfl,hr⟩
 | [],_::_,_,_,_,hp',_,_,_=>hp'.elim
 |(i,v)::r,[],_,_,_,hp',_,_,_=>hp'.elim
 |(i,v)::r,(j,c)::s,cells,row,row',hp',hok,hr,h=>by
  obtain⟨rfl,hv,hrest⟩:=hp'
  simp only[Z1Q]at h
  split at h
  case h_2=>cases h
  rename_i f hf
  split at h
  case h_2=>cases h
  rename_i k hk
  split at h
  case h_2=>cases h
  rename_i hkl hle
  have hkl:k=(ZH c).length:=Nat.eq_of_beq_eq_true hkl
  have hle:f.offset+k≤row.length:=Nat.le_of_ble_eq_true hle
  have hcr:=Wa (hok (i,c) (by simp)) hv
  have hplace:places.toArray[i]?=some (f.offset,k):=by
   obtain⟨ti,hti,hsz⟩:∃ti,P.info? f.type=some ti∧ti.size=k:=by
    simp only[ZT,Option.map_eq_some_iff]at hk;exact hk
   have hfl:fs.toList[i]?=some f:=by simpa using hf
   rw[List.getElem?_toArray]
   clear hr hle h hkl hcr hok hrest hv hf
   revert hpl hfl
   generalize fs.toList=l
   intro hpl hfl
   induction l generalizing i places with
   |nil=>simp at hfl
   |cons g l ih=>
    simp only[List.mapM_cons,Option.bind_eq_bind,Option.pure_def]at hpl
    cases hg:P.info? g.type with
    |none=>simp[hg]at hpl
    |some gi=>
     cases hrec:l.mapM (fun f=>(P.info? f.type).map fun i=>(f.offset,i.size))with
     |none=>simp[hg,hrec]at hpl
     |some rest=>
      simp[hg,hrec]at hpl
      subst hpl
      cases i with
      |zero=>simp at hfl;subst hfl;rw[hti]at hg;injection hg with hg;subst hg;simp[hsz]
      |succ i=>simpa using ih (i:=i) (hpl:=hrec) (hfl:=by simpa using hfl)
  have hvs:v.cells.size=k:=by have:=hcr.1;simp at this;omega
  have hcs:cells.size=row.length:=by have:=hr.1;simpa using this
  have hkl':(ZH c).length=k:=hkl.symm
  rw[Z8R (places.toArray[·]?) cells i v r hplace hvs (by omega)]
  refine Z8S hpl r s _ _ row' hrest (fun q hq=>hok q (by simp[hq])) ?_ h
  have:=ZW.splice (off:=f.offset) hr hcr (by rw[hkl'];exact hle)
  simpa[hvs]using this

theorem ZcB {fs:List Field} (h:∀f∈fs,∃i,P.info? f.type=some i):∃places,fs.mapM (fun f=>(P.info? f.type).map fun i=>(f.offset,i.size))=some places:=by
 induction fs with
 |nil=>exact⟨[],rfl⟩
 |cons f r ih=>
  obtain⟨i,hi⟩:=h f (by simp)
  obtain⟨pl,hpl⟩:=ih (fun g hg=>h g (by simp[hg]))
  exact⟨(f.offset,i.size)::pl,by simp[List.mapM_cons,hi,hpl]⟩

theorem ZW.append {a b:List Value} {c d:List (AV D)} (h1:ZW U w E hp a c) (h2:ZW U w E hp b d):ZW U w E hp (a++b) (c++d):=by
 refine⟨by simp[h1.1,h2.1],fun k x y hx hy=> ?_⟩
 by_cases g:k<a.length
 ·rw[List.getElem?_append_left g]at hx;rw[List.getElem?_append_left (by rw[←h1.1];exact g)]at hy;exact h1.2 k x y hx hy
 ·rw[List.getElem?_append_right (by omega)]at hx;rw[List.getElem?_append_right (by rw[←h1.1];omega)]at hy
  rw[←h1.1]at hy;exact h2.2 _ x y hx hy

theorem Z4z {wd:Nat} :∀(pv:List (Nat×Value)) (pa:List (Nat×AV D)) (j:Nat) (done rest:List Value),U3 U w E hp pv pa→(∀q∈pa,X7 q.2=true)→UD wd j pa=true→
  done.length=j * wd→rest.length=pv.length * wd→
  ∃out,Instr.fill (fun i=>some (i * wd,wd)) (done++rest).toArray pv=some (done++out).toArray∧ZW U w E hp out (pa.flatMap fun q=>ZH q.2)
 | [],[],j,done,rest,_,_,_,hd,hr=>by
  have:rest= []:=by simpa using hr
  subst this
  exact⟨[],by simp[Instr.fill],rfl,fun k x c h=>by simp at h⟩
 | [],_::_,_,_,_,hp',_,_,_,_=>hp'.elim
 |(i,v)::r,[],_,_,_,hp',_,_,_,_=>hp'.elim
 |(i,v)::r,(i',c)::s,j,done,rest,hp',hok,hpo,hd,hr=>by
  obtain⟨rfl,hv,hrest⟩:=hp'
  simp only[UD]at hpo
  split at hpo
  case h_2=>cases hpo
  rename_i hij hw
  have hij:i=j:=Nat.eq_of_beq_eq_true hij
  have hw:(ZH c).length=wd:=Nat.eq_of_beq_eq_true hw
  subst hij
  have hcr:=Wa (hok (i,c) (by simp)) hv
  have hvl:v.cells.toList.length=wd:=by rw[hcr.1,hw]
  have hvs:v.cells.size=wd:=by simpa using hvl
  have hrl:rest.length=(r.length+1) * wd:=by simpa using hr
  rw[Nat.succ_mul]at hrl
  rw[Z8R (fun i=>some (i * wd,wd)) _ i v r rfl hvs (by simp;omega)]
  have e1:(done++rest).toArray.toList.take (i * wd)++v.cells.toList++(done++rest).toArray.toList.drop (i * wd+wd)=(done++v.cells.toList)++rest.drop wd:=by
   simp only[List.toList_toArray]
   rw[List.take_append_of_le_length (by omega), ←hd,List.take_length,List.drop_append]
   rw[List.drop_eq_nil_of_le (by omega)]
   simp
  rw[e1]
  obtain⟨out,h1,h2⟩:=Z4z r s (i+1) (done++v.cells.toList) (rest.drop wd) hrest (fun q hq=>hok q (by simp[hq])) hpo (by simp only[List.length_append,Nat.succ_mul];omega) (by simp;omega)
  exact⟨v.cells.toList++out,by rw[h1];simp,by simpa using hcr.append h2⟩

theorem ZcC {t n e:Nat} {pv:Array (Nat×Value)} {pa:List (Nat×AV D)} {r:AV D} (hu:P.underlying t=some (.array n e)) (h:Z6l P t n e pa=some r)
  (hpr:U3 U w E hp pv.toList pa):∃v,(Instr.build t pv).run P w= .ok v w∧Rep U w E hp v r:=by
 unfold Z6l at h
 split at h
 case h_2=>cases h
 rename_i z sz hz hsz
 split at h
 case h_2=>cases h
 rename_i hz0 hok hpo hlen
 injection h with h;subst h
 obtain⟨i,v,hi,hzz,hzr⟩:=WI (U:=U) (w:=w) (E:=E) (hp:=hp) hz
 have hcr:=Wa hz0 hzr
 have hl:∀(pv:List (Nat×Value)) (pa:List (Nat×AV D)),U3 U w E hp pv pa→pv.length=pa.length:=by
  intro pv
  induction pv with
  |nil=>intro pa h;cases pa with
   |nil=>rfl
   |cons _ _=>exact h.elim
  |cons q r ih=>intro pa h;cases pa with
   |nil=>exact h.elim
   |cons q' r'=>simp[ih r' h.2.2]
 have hl:=hl _ _ hpr
 obtain⟨out,h1,h2⟩:=Z4z pv.toList pa 0 [] v.cells.toList hpr (fun q hq=>List.all_eq_true.1 hok q hq) hpo (by simp) (by rw[hcr.1,Nat.eq_of_beq_eq_true hlen,hl])
 obtain⟨ti,hti,htn⟩:∃i,P.info? e=some i∧i.size=sz:=by
  simp only[ZT,Option.map_eq_some_iff]at hsz;exact hsz
 refine⟨.agg out.toArray, ?_, .agg out _ h2.1 h2.2⟩
 rw[List.nil_append,List.nil_append,Array.toArray_toList]at h1
 simp[Instr.build,zeroValue,typeInfo,hi,hzz,run_underlying hu,sizeOf,hti,htn,h1]

theorem ZcD {t:Nat} {pv:Array (Nat×Value)} {pa:List (Nat×AV D)} {r:AV D} (h:Z6m P t pa=some r)
  (hpr:U3 U w E hp pv.toList pa):∃v,(Instr.build t pv).run P w= .ok v w∧Rep U w E hp v r:=by
 unfold Z6m at h
 split at h
 case h_3=>cases h
 case h_2 n e hs=>exact ZcC hs h hpr
 rename_i fs hs
 split at h
 case h_2=>cases h
 rename_i z hz
 split at h
 case h_2=>cases h
 rename_i hz0 hok hfs
 split at h
 case h_2=>cases h
 rename_i row hrow
 injection h with h;subst h
 obtain⟨i,v,hi,hzz,hzr⟩:=WI (U:=U) (w:=w) (E:=E) (hp:=hp) hz
 obtain⟨places,hpl⟩:=ZcB (P:=P) (fs:=fs.toList) (fun f hf=>Option.isSome_iff_exists.1 (List.all_eq_true.1 hfs f hf))
 obtain⟨cells',hfill,hrep⟩:=Z8S hpl pv.toList pa v.cells (ZH z) row hpr (fun q hq=>List.all_eq_true.1 hok q hq) (Wa hz0 hzr) hrow
 refine⟨.agg cells',run_build w t pv cells' ?_, .agg cells'.toList row hrep.1 hrep.2⟩
 simp only[Program.built,hi,hs,hzz,hpl,hfill]

theorem Z4A {t:Nat} {l:List (D t)} :(Z5 U t l).all XP=true:=by
 rw[List.all_eq_true]
 intro c hc
 simp only[Z5,List.mem_flatMap]at hc
 obtain⟨x,_,hx⟩:=hc
 exact List.all_eq_true.1 (U.ok t x) c hx

theorem ZcE {tx e' t size:Nat} {l:List (D t)} {v:Value} (hk:P.underlying tx=some (.slice e')) (hs:U.width t=size) (h:ZE U w E.S v (.sl t l)):
  ∃news,Src P size tx v l.length news w∧YJ U w E.S news (Z5 U t l):=by
 cases h with
 |sl _ _ b off cap vs hS hcap hc hr=>
  have hlen:(Z5 U t l).length=l.length * size:=by rw[Yp,hs]
  refine⟨(List.range (l.length * size)).map vs,Src.ofSlice w hk _ _ _ _ (by simp) (fun j u hu=> ?_) (fun u hu=> ?_),by simp[hlen],fun k x c hx hcc=> ?_⟩
  ·have hj:j<l.length * size:=by
    have:=(List.getElem?_eq_some_iff.1 hu).1;simpa using this
   rw[List.getElem?_map,List.getElem?_range hj]at hu
   simp at hu;subst hu
   rw[W7]
   exact hc j _ (List.getElem?_eq_getElem (by omega))
  ·obtain⟨j,hj,rfl⟩:=List.mem_map.1 hu
   have hj':j<(Z5 U t l).length:=by rw[hlen];exact List.mem_range.1 hj
   exact Z4w (E:=E) (hp:= []) (List.all_eq_true.1 Z4A _ (List.getElem_mem hj')) (.pure _ _ (hr j _ (List.getElem?_eq_getElem hj')))
  ·have hk':k<l.length * size:=by
    have:=(List.getElem?_eq_some_iff.1 hx).1;simpa using this
   rw[List.getElem?_map,List.getElem?_range hk']at hx
   simp at hx;subst hx
   exact hr k c hcc
 |sl0 _ a cap=>
  refine⟨[], ?_,rfl,fun k x c h=>by simp at h⟩
  cases a with
  |none=>exact Src.ofNil w hk cap
  |some ad=>exact Src.ofSlice w hk ad 0 cap [] (by simp) (fun j u h=>by simp at h) (fun u h=>by cases h)

theorem ZcF {tx e' t size id n:Nat} {l:List (D t)} {ln:Nat} {f:Bool} {v:Value} (hi:Inv U w E hp) (hk:P.underlying tx=some (.slice e')) (hs:U.width t=size) (hob:hp[id]?=some (.arr t l ln f)) (hn:n=ln) (h:Rep U w E hp v (.os id n)):
  ∃news,Src P size tx v l.length news w∧YJ U w E.S news (Z5 U t l):=by
 have hln:=Wj hi hob
 obtain⟨⟨ad,kk,cc,rfl⟩,o,ho,hle,hh⟩:=W1 h
 rw[hob]at ho;injection ho with ho;subst ho
 have h3:=hh hn
 have hobj:=hi.obj id _ hob
 cases hm:E.m id with
 |none=>
  rw[hm]at h3 hobj
  obtain⟨g1,a,g2⟩:=h3
  obtain⟨rfl,_⟩:=hobj
  rw[g2]
  refine⟨[], ?_,rfl,fun k x c h=>by simp at h⟩
  cases a with
  |none=>exact Src.ofNil w hk 0
  |some ad=>exact Src.ofSlice w hk ad 0 0 [] (by simp) (fun j u h=>by simp at h) (fun u h=>by cases h)
 |some q=>
  obtain⟨b,cap⟩:=q
  rw[hm]at h3 hobj
  obtain⟨cells,e,hb,hcap,hr,_⟩:=hobj
  have h3':Value.slice ad kk cc= .slice (some ⟨b,0,none⟩) l.length cap.n:=by rw[←hln, ←hn];exact h3
  rw[h3']
  have hlen:(Z5 U t l).length=l.length * size:=by rw[Yp,hs]
  have hcl:l.length * size≤cells.length:=by
   have h1:=hcap.1
   have h2:=hcap.2.1
   rw[h1,hs]
   exact Nat.mul_le_mul_right _ h2
  refine⟨cells.take (l.length * size),Src.ofSlice w hk _ _ _ _ (by rw[List.length_take,Nat.min_eq_left hcl]) (fun j u hu=> ?_) (fun u hu=> ?_),by rw[List.length_take,Nat.min_eq_left hcl,hlen],fun k x c hx hcc=> ?_⟩
  ·have hj:j<l.length * size:=by
    have:=(List.getElem?_eq_some_iff.1 hu).1;rw[List.length_take]at this;omega
   rw[List.getElem?_take_of_lt hj]at hu
   rw[W7,Nat.zero_add]
   simp[World.cell?,hb,hu]
  ·obtain⟨j,hj,rfl⟩:=List.mem_iff_getElem.1 hu
   have hj':j<(Z5 U t l).length:=by rw[List.length_take]at hj;omega
   obtain⟨x,hx,hxr⟩:=hr j _ (List.getElem?_eq_getElem hj')
   have hxx:(cells.take (l.length * size))[j]=x:=by
    rw[List.getElem_take]
    have:=(List.getElem?_eq_some_iff.1 hx).2
    exact this
   rw[hxx]
   exact Z4w (E:=E) (hp:= []) (List.all_eq_true.1 Z4A _ (List.getElem_mem hj')) (.pure _ _ hxr)
  ·have hk':k<l.length * size:=by
    have:=(List.getElem?_eq_some_iff.1 hx).1;rw[List.length_take]at this;omega
   rw[List.getElem?_take_of_lt hk']at hx
   obtain⟨x',hx',hxr⟩:=hr k c hcc
   rw[hx]at hx';injection hx' with hx';subst hx'
   exact hxr
theorem ZcG {tx e' t size id n a b:Nat} {l:List (D t)} {ln:Nat} {f:Bool} {v:Value} (hi:Inv U w E hp) (hk:P.underlying tx=some (.slice e')) (hs:U.width t=size) (hob:hp[id]?=some (.arr t l ln f)) (hn:n=ln) (h:Rep U w E hp v (.oss id n a b)):
  ∃news,Src P size tx v ((l.take b).drop a).length news w∧YJ U w E.S news (Z5 U t ((l.take b).drop a)):=by
 have hln:=Wj hi hob
 obtain⟨⟨ad,kk,cc,rfl⟩,o,ho,hle,hh⟩:=Vd h
 rw[hob]at ho;injection ho with ho;subst ho
 obtain⟨hab,hbn,h3⟩:=hh hn
 have hobj:=hi.obj id _ hob
 have hll:((l.take b).drop a).length=b-a:=by rw[List.length_drop,List.length_take];omega
 have empty:∀x c0,Value.slice ad kk cc= .slice x 0 c0→b-a=0→∃news,Src P size tx (.slice ad kk cc) ((l.take b).drop a).length news w∧YJ U w E.S news (Z5 U t ((l.take b).drop a)):=by
  intro x c0 he h0
  have hnil:(l.take b).drop a= []:=List.eq_nil_of_length_eq_zero (by omega)
  rw[he,hnil]
  refine⟨[], ?_,rfl,fun k x c h=>by simp at h⟩
  cases x with
  |none=>exact Src.ofNil w hk c0
  |some ad=>exact Src.ofSlice w hk ad 0 c0 [] (by simp) (fun j u h=>by simp at h) (fun u h=>by cases h)
 cases hm:E.m id with
 |none=>
  rw[hm]at h3
  obtain⟨g1,x,c0,g2⟩:=h3
  exact empty x c0 (by rw[g2]) g1
 |some q=>
  obtain⟨blk,cap⟩:=q
  rw[hm]at h3 hobj
  by_cases h0:b-a=0
  ·obtain⟨x,c0,g2⟩:=h3.2.1 h0
   exact empty x c0 g2 h0
  ·obtain⟨c0,hc0,g2⟩:=h3.1 (by omega)
   obtain⟨cells,e,hb,hcap,hr,_⟩:=hobj
   rw[g2, ←hll]
   have hw:(Zf.arr t l ln f).wid U=size:=hs
   rw[hw]
   have hlen:(Z5 U t ((l.take b).drop a)).length=((l.take b).drop a).length * size:=by rw[Yp,hs]
   have hcl:a * size+((l.take b).drop a).length * size≤cells.length:=by
    rw[hcap.1,hs, ←Nat.add_mul]
    exact Nat.mul_le_mul_right _ (by have:=hcap.2.1;omega)
   have hget:∀j,j<((l.take b).drop a).length * size→((cells.drop (a * size)).take (((l.take b).drop a).length * size))[j]?=cells[a * size+j]?:=by
    intro j hj
    rw[List.getElem?_take_of_lt hj,List.getElem?_drop]
   have htk:((cells.drop (a * size)).take (((l.take b).drop a).length * size)).length=((l.take b).drop a).length * size:=by
    have:(cells.drop (a * size)).length=cells.length-a * size:=List.length_drop
    rw[List.length_take,Nat.min_eq_left (by omega)]
   refine⟨(cells.drop (a * size)).take (((l.take b).drop a).length * size),Src.ofSlice w hk _ _ _ _ htk (fun j u hu=> ?_) (fun u hu=> ?_),by rw[htk,hlen],fun k x c hx hcc=> ?_⟩
   ·have hj:j<((l.take b).drop a).length * size:=by
     have:=(List.getElem?_eq_some_iff.1 hu).1;rw[List.length_take]at this;omega
    rw[hget j hj]at hu
    rw[W7]
    simp[World.cell?,hb,hu]
   ·obtain⟨j,hj,rfl⟩:=List.mem_iff_getElem.1 hu
    have hj1:j<((l.take b).drop a).length * size:=by rw[List.length_take]at hj;omega
    have hj':j<(Z5 U t ((l.take b).drop a)).length:=by omega
    obtain⟨x,hx,hxr⟩:=hr (a * size+j) _ (by rw[←hs];exact TM (List.getElem?_eq_getElem hj'))
    have hxx:((cells.drop (a * size)).take (((l.take b).drop a).length * size))[j]=x:=by
     have h2:=hget j hj1
     rw[List.getElem?_eq_getElem hj,hx]at h2
     injection h2
    rw[hxx]
    exact Z4w (E:=E) (hp:= []) (List.all_eq_true.1 Z4A _ (List.getElem_mem hj')) (.pure _ _ hxr)
   ·have hk':k<((l.take b).drop a).length * size:=by
     have:=(List.getElem?_eq_some_iff.1 hx).1;rw[List.length_take]at this;omega
    rw[hget k hk']at hx
    obtain⟨x',hx',hxr⟩:=hr (a * size+k) c (by rw[←hs];exact TM hcc)
    rw[hx]at hx';injection hx' with hx';subst hx'
    exact hxr

theorem Z4B {tx e' t size:Nat} {ids:List Nat} {l:List (D t)} {ps:List Prop} {c:AV D} {v:Value} {E1:Emb} (hi:Inv U w E hp)
  (hS1:∀id∈ids,id<hp.length→∀b cap,E.m id=some (b,cap)→E1.S b) (s1:Zg U w E hp w E1 (Y6 hp ids)) (h:Vy hp ids c=(ps, .sl t l)) (hps:ZD ps) (hv:Rep U w E hp v c)
  (hk:P.underlying tx=some (.slice e')) (hs:U.width t=size):∃news,Src P size tx v l.length news w∧YJ U w E1.S news (Z5 U t l):=by
 have gen:vw hp ids 8 c=(ps, .sl t l)→∃news,Src P size tx v l.length news w∧YJ U w E1.S news (Z5 U t l):=by
  intro hvw
  have:=Z1Z (S':=E1.S) hi hS1 s1.smono 8 v c (by rw[hvw];exact hps) hv
  rw[hvw]at this
  exact ZcE (E:=E1) hk hs this
 unfold Vy at h
 split at h
 ·rename_i id n
  split at h
  ·rename_i t' l' ln f hob
   injection h with h1 h2
   injection h2 with h2 h3
   subst h2;cases h3;subst h1
   obtain⟨news,g1,g2⟩:=ZcF (P:=P) hi hk hs hob hps.1 hv
   exact⟨news,g1,g2.1,fun k x a hx ha=>s1.prep hi (g2.2 k x a hx ha)⟩
  ·injection h with h1 h2;cases h2
 ·rename_i id n a b
  split at h
  ·rename_i t' l' ln f hob
   injection h with h1 h2
   injection h2 with h2 h3
   subst h2;cases h3;subst h1
   obtain⟨news,g1,g2⟩:=ZcG (P:=P) hi hk hs hob hps.1 hv
   exact⟨news,g1,g2.1,fun k x a hx ha=>s1.prep hi (g2.2 k x a hx ha)⟩
  ·injection h with h1 h2;cases h2
 ·exact gen h

theorem ZcH {size n b cap e:Nat} {c:List Value} (hb:w.heap[b]?=some (.cells ⟨c⟩ e (0,0))) (hle:n * size≤c.length):
  (Builtin.firstCells size n (.slice (some ⟨b,0,none⟩) n cap)).run P w= .ok (c.take (n * size)).toArray w:=by
 simp only[Builtin.firstCells]
 have:=run_loadCells_list (P:=P) w ⟨b,0,none⟩ (c.take (n * size)) (fun j v hj=>by
  rw[W7]
  have hlt:j<n * size:=by have:=(List.getElem?_eq_some_iff.1 hj).1;simp at this;omega
  rw[List.getElem?_take_of_lt hlt]at hj
  simp[World.cell?,hb,hj])
 rwa [List.length_take,Nat.min_eq_left hle]at this

end
end Go.Eng
