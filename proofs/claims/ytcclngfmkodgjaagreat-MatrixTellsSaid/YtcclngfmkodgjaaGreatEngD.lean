/- The engine, part D: regions that draw their order. -/
import Derived.Test.YtcclngfmkodgjaaGreatEng12
set_option linter.unusedVariables false
set_option linter.unusedSectionVars false
set_option linter.unusedSimpArgs false
namespace Go.Eng
open Go
variable {D:Den} [Gl D]

def VE:Op→List (Ans D)→Bool
 | .move _,_=>true
 | .assign _,_=>true
 | .pick _ _ _,_=>true
 | .fieldAddr _ _ _,_=>true
 | .indexAddr _ _ _,_=>true
 | .load _ _,_=>true
 | .binOp _ _ _ _ _,_=>true
 | .unOp _ _ _,_=>true
 | .convert _ _ _,_=>true
 | .extract _ _,_=>true
 | .nilCheck _,_=>true
 | .build _ _,_=>true
 | .makeFunc _ _ _,_=>true
 | .slice _ _ _ _ _,_=>true
 | .index _ _ _,_=>true
 | .buildSlice _ _ _, .obj [] _::_=>true
 | .call ⟨.value _,_,_⟩, .callv _::_=>true
 | .call ⟨.value _,_,_⟩, .callf [] _::_=>true
 | .call ⟨.builtin .len,_,_⟩,_=>true
 | .call ⟨.builtin .unsafeSliceData,_,_⟩,_=>true
 | .call ⟨.builtin .max,_,_⟩,_=>true
 | .call ⟨.builtin .min,_,_⟩,_=>true
 |_,_=>false

def Yj (P:Program) (U:Zu D) (fr:Fr D) (hp:Z3 D) (ty:Nat) (π:List (Ans D)):Op→Option (Res D)
 | .assign x=>some ⟨[],Zv P fr ty x,hp,π⟩
 | .buildSlice t n parts=>match Ye P t with
  |some e=>match π with
   | .obj [] (.arr e' l ln false)::π'=>match ZT P e,Nat.beq e e',UD (U.width e) 0 (parts.toList.map fun q=>(q.1,Zv P fr e q.2)),Nat.beq n parts.size,Nat.ble n 10000,Xy (D:=D) P e with
    |some sz,true,true,true,true,some _=>match Nat.beq sz (U.width e),Nat.ble sz 1000,vws hp [] ((parts.toList.map fun q=>(q.1,Zv P fr e q.2)).flatMap fun q=>ZH q.2)with
     |true,true,(ps,cs)=>match (((parts.toList.map fun q=>(q.1,Zv P fr e q.2)).flatMap fun q=>ZH q.2)).all XP with
      |true=>some ⟨(Z5 U e' l=cs∧l.length=n∧ln=n)::ps, .sl e' l,hp,π'⟩
      |false=>none
     |_,_,_=>none
    |_,_,_,_,_,_=>none
   |_=>none
  |none=>none
 |op=>opA P U fr hp ty π op
theorem Zdk {P:Program} {U:Zu D} {fr:Fr D} {hp:Z3 D} {ty:Nat} {π:List (Ans D)} {op:Op} (h:∀x,op≠ .assign x) (h2:∀t n p,op≠ .buildSlice t n p):Yj P U fr hp ty π op=opA P U fr hp ty π op:=by
 unfold Yj;split
 ·exact absurd rfl (h _)
 ·exact absurd rfl (h2 _ _ _)
 ·rfl
section
variable {P:Program} {U:Zu D} {a:Act} {w:World} {E:Emb} {hp:Z3 D}
theorem Inv.kb (hi:Inv U w E hp) {id b b0:Nat} {o:Zf D} {cap:Cap} (ho:hp[id]?=some o) (hm:E.m id=some (b0,cap)) (hb:b=b0∨cap.ns b∧o.fz=false):b<w.heap.size:=by
 rcases hb with rfl|⟨hn,hf⟩
 ·exact hi.mlt ho hm
 ·exact(hi.blk ho hf ⟨b0,cap,hm, .inr hn⟩).1
theorem Z97 {t e n:Nat} {pv:Array (Nat×Value)} {pa:List (Nat×AV D)} {ps:List Prop} {cs:List (AV D)} {l:List (D e)}
  (hi:Inv U w E hp) (he:Ye P t=some e) (hsz:ZT P e=some (U.width e)) (hpo:UD (U.width e) 0 pa=true) (hn:pv.size=n) (hn2:n≤10000) (hwd:U.width e≤1000)
  (hz:∃z,Xy (D:=D) P e=some z) (hok:(pa.flatMap fun q=>ZH q.2).all XP=true)
  (hvw:vws hp [] (pa.flatMap fun q=>ZH q.2)=(ps,cs)) (hps:ZD ps) (hfl:Z5 U e l=cs) (hl:l.length=n) (hpr:U3 U w E hp pv.toList pa):
  ∃v w' E',(Instr.buildSlice t n pv).run P w= .ok v w'∧Inv U w' E' hp∧Zg U w E hp w' E' hp∧Rep U w' E' hp v (.sl e l)∧v= .slice (some ⟨w.heap.size,0,none⟩) n n:=by
 have hut:=XQ he
 obtain⟨z,hz⟩:=hz
 obtain⟨ti,zv,hti,hzz,_⟩:=WI (U:=U) (w:=w) (E:=E) (hp:=hp) hz
 have hisz:ti.size=U.width e:=by
  simp only[ZT,hti,Option.map_some]at hsz;injection hsz
 have hokv:∀q∈pa,X7 q.2=true:=by
  intro q hq
  refine Z0l (List.all_eq_true.2 fun c hc=>List.all_eq_true.1 hok c ?_)
  exact List.mem_flatMap.2 ⟨q,hq,hc⟩
 have hsmall:¬(n * ti.size>16777216):=by
  rw[hisz]
  have:n * U.width e≤10000 * 1000:=Nat.mul_le_mul hn2 hwd
  omega
 have main:∀zc:Array Value,∃out,Instr.fill (fun i=>some (i * ti.size,ti.size)) ((Array.range (n * ti.size)).map fun k=>zc[k % zc.size]!) pv.toList=some out.toArray∧ZW U w E hp out (pa.flatMap fun q=>ZH q.2):=by
  intro zc
  obtain⟨out,h1,h2⟩:=Z4z pv.toList pa 0 [] ((Array.range (n * ti.size)).map fun k=>zc[k % zc.size]!).toList hpr hokv hpo (by simp) (by simp[hn,hisz])
  refine⟨out, ?_,h2⟩
  rw[hisz]at h1⊢
  rw[List.nil_append]at h1
  simpa only[Array.toArray_toList,List.nil_append]using h1
 let E2:Emb:= { m:=E.m,S:=fun b=>E.S b∨b=w.heap.size }
 have fin:∀out:List Value,ZW U w E hp out (pa.flatMap fun q=>ZH q.2)→
   Inv U { w with heap:=w.heap.push (.cells out.toArray e (0,0)) } E2 hp∧
   Zg U w E hp { w with heap:=w.heap.push (.cells out.toArray e (0,0)) } E2 hp∧Rep U { w with heap:=w.heap.push (.cells out.toArray e (0,0)) } E2 hp (.slice (some ⟨w.heap.size,0,none⟩) n n) (.sl e l):=by
  intro out hout
  have hp1:=U2 (S':=E.S) (ids:= []) hi (fun id h=>by cases h) (fun _ h=>h) (by rw[hvw];exact hps) hout
  rw[hvw]at hp1
  have hs:Zg U w E hp { w with heap:=w.heap.push (.cells out.toArray e (0,0)) } E2 hp:=
   ⟨rfl,rfl,rfl,fun q _ _=>Z0e w _ _ q,by simp,fun b hb _=>WX hb,fun _ _ h=>h,fun _ h=> .inl h,fun b h=>by
    rcases h with h|h
    ·exact .inl h
    ·exact .inr (.inr (by omega)),fun id o h=>⟨o,h,rfl,Nat.le_refl _,fun _=>rfl⟩⟩
  refine⟨⟨fun id o ho=>(hi.obj id o ho).keep (fun b b0 cap hm hb=>WX (hi.kb ho hm hb)) (fun _ h=> .inl h) (fun b b0 cap hm hb hf h=> ?_) (by simp) (fun x a h=>hs.rep hi h) (fun x a h=>hs.prep hi h),hi.inj,fun b hb=> ?_,hi.gl' hs⟩,hs, ?_⟩
  ·rcases h with h|h
   ·exact h
   ·have:=(hi.blk ho hf ⟨b0,cap,hm,hb⟩).1;omega
  ·rcases hb with hb|hb
   ·have:=hi.sb b hb;simp;omega
   ·simp;omega
  ·subst hl
   have hlen:out.length=(Z5 U e l).length:=by rw[hp1.1,hfl]
   refine .pure _ _ (.sl e l w.heap.size 0 l.length (fun k=>out[k]?.getD undef) (.inr rfl) (Nat.le_refl _) (fun k c hk=> ?_) (fun k c hk=> ?_))
   ·have hkl:k<out.length:=by rw[hlen];exact(List.getElem?_eq_some_iff.1 hk).1
    simp[World.cell?,hkl]
   ·have hkl:k<out.length:=by rw[hlen];exact(List.getElem?_eq_some_iff.1 hk).1
    rw[hfl]at hk
    have:=hp1.2 k out[k] c (List.getElem?_eq_getElem hkl) hk
    rw[List.getElem?_eq_getElem hkl]
    exact this.mono (fun _ h=> .inl h) (fun b hb=>WX (hi.sb b hb))
 by_cases h0:n * ti.size=0
 ·obtain⟨out,h1,h2⟩:=main #[]
  obtain⟨i2,s2,r2⟩:=fin out h2
  refine⟨_,_,_, ?_,i2,s2,r2,rfl⟩
  simp only[Instr.buildSlice,Sem.run_bind,run_underlying hut,Result.andThen_ok,sizeOf,typeInfo,program,Sem.run,hti]
  simp[Sem.run,hti,h0,newRow,newObj]at h1⊢
  rw[h1]
  simp[Sem.run]
 ·obtain⟨out,h1,h2⟩:=main zv.cells
  obtain⟨i2,s2,r2⟩:=fin out h2
  refine⟨_,_,_, ?_,i2,s2,r2,rfl⟩
  simp only[Instr.buildSlice,Sem.run_bind,run_underlying hut,Result.andThen_ok,sizeOf,typeInfo,program,Sem.run,hti]
  simp only[Sem.run,hti,Sem.run_pure,Result.andThen_ok,Sem.run_ite,Sem.run_bind]
  have h5:¬(n * ti.size>2 ^ 24):=by simpa using hsmall
  simp[h5,h0,zeroValue,typeInfo,program,Sem.run,hti,hzz,h1,newRow,newObj,unsupported]
end
def U4:Op→List (Ans D)→Bool
 | .call ⟨.builtin .append,_,_⟩, .obj [] (.arr _ _ _ true)::_=>true
 | .buildSlice _ _ _, .obj [] (.arr _ _ _ true)::_=>true
 |_,_=>false
def TP (P:Program) (U:Zu D) (fr:Fr D) (hp:Z3 D) (ty:Nat) (π:List (Ans D)):Op→Option (Res D)
 | .call c=>match c.args.toList,c.argTypes.toList,π with
  | [x,y],[t,t2], .obj _ (.arr e2 l _ _)::π'=>match Ye P t,Ye P t2,Zv P fr t x with
   |some e,some _, .em _=>match ZT P e,Vy hp [] (Zv P fr t y)with
    |some sz,(ps, .sl e3 l2)=>match Nat.beq sz (U.width e2),Nat.beq (U.width e3) (U.width e2),Vf D P e (U.width e2)with
     |true,true,true=>some ⟨(l2.length * YK P e≤140737488355328∧l2.length<9223372036854775808∧l.length=l2.length∧Z5 U e2 l=Z5 U e3 l2)::ps, .sl e2 l,hp,π'⟩
     |_,_,_=>none
    |_,_=>none
   |_,_,_=>none
  |_,_,_=>none
 | .buildSlice t n parts=>match Ye P t,π with
  |some e, .obj _ (.arr e' _ _ _)::π'=>match ZT P e,Nat.beq e e',Xy (D:=D) P e,Nat.beq n 0,Nat.beq parts.size 0 with
   |some sz,true,some _,true,true=>match Nat.beq sz (U.width e),Nat.ble sz 1000 with
    |true,true=>some ⟨[], .em e',hp,π'⟩
    |_,_=>none
   |_,_,_,_,_=>none
  |_,_=>none
 |_=>none
def Z0p (op:Op) (π:List (Ans D)):Bool:=match U4 op π with|true=>true|false=>VE op π
def opD (P:Program) (U:Zu D) (fr:Fr D) (hp:Z3 D) (ty:Nat) (π:List (Ans D)) (op:Op):Option (Res D):=
 match U4 op π with
 |true=>TP P U fr hp ty π op
 |false=>Yj P U fr hp ty π op
theorem Zdl {P:Program} {U:Zu D} {o:Oper} {a:Act} {w:World} {E:Emb} {hp:Z3 D} {fr:Fr D} {π:List (Ans D)} {r:Res D} (hi:Inv U w E hp) (hf:XX U w E hp a fr) (h:Yj P U fr hp o.type π o.op=some r) (hobl:ZD r.obl):
  Oks P U o a w E hp r.val r.hp:=by
 by_cases hx:∃x,o.op= .assign x
 ·obtain⟨x,hx⟩:=hx
  rw[hx]at h
  simp only[Yj]at h
  injection h with h;subst h
  exact YC hi (by simp[execOp,hx]) (ZY hi hf _ _)
 by_cases hx2:∃t n parts,o.op= .buildSlice t n parts
 ·obtain⟨t,n,parts,hop⟩:=hx2
  rw[hop]at h
  simp only[Yj]at h
  split at h
  case h_2=>cases h
  rename_i e he
  split at h
  case h_2=>cases h
  rename_i e' l ln π'
  split at h
  case h_2=>cases h
  rename_i sz z hsz hee hpo hnp hn2 hz
  generalize hvw:vws hp [] ((parts.toList.map fun q=>(q.1,Zv P fr e q.2)).flatMap fun q=>ZH q.2)=pc at h
  obtain⟨ps,cs⟩:=pc
  split at h
  case h_2=>cases h
  rename_i hs1 hs2 heq
  injection heq with heq1 heq2;subst heq1;subst heq2
  split at h
  case h_2=>cases h
  rename_i hok
  injection h with h;subst h
  obtain⟨⟨hfl,hln,hln2⟩,hps⟩:=hobl
  subst hln2
  have hee:e=e':=Nat.eq_of_beq_eq_true hee
  subst hee
  have hs1:sz=U.width e:=Nat.eq_of_beq_eq_true hs1
  subst hs1
  have hpr:=Z26 (P:=P) hi hf (fun _=>e) parts.toList
  have hmap:(parts.map fun q=>(q.1,a.eval q.2)).toList=parts.toList.map fun q=>(q.1,a.eval q.2):=by simp
  rw[←hmap]at hpr
  obtain⟨v,w',E',hrun,i1,s1,r1,_⟩:=Z97 (P:=P) (n:=ln) (pv:=parts.map fun q=>(q.1,a.eval q.2)) hi he hsz hpo (by simp;exact(Nat.eq_of_beq_eq_true hnp).symm) (Nat.le_of_ble_eq_true hn2) (Nat.le_of_ble_eq_true hs2) ⟨z,hz⟩ hok hvw hps hfl hln hpr
  exact Wm (by simp only[execOp,hop];exact Xq hrun) i1 s1 r1
 ·exact Z4F hi hf (by rw[Zdk (fun x e=>hx ⟨x,e⟩) (fun t n p e=>hx2 ⟨t,n,p,e⟩)]at h;exact h) hobl

section
variable {P:Program} {U:Zu D} {a:Act} {w:World} {E:Emb} {hp:Z3 D}
theorem Zdm {t t2 e e3:Nat} {e2 ty:Nat} {te:Nat} {l:List (D e2)} {l2:List (D e3)} {x y:Value} {ps:List Prop} {c:AV D}
  (hi:Inv U w E hp) (he:Ye P t=some e) (he2:∃q,Ye P t2=some q) (hsz:ZT P e=some (U.width e2))
  (hvw:Vy hp [] c=(ps, .sl e3 l2)) (hw2:U.width e3=U.width e2)
  (hbytes:l2.length * YK P e≤140737488355328) (h63:l2.length<9223372036854775808)
  (hz:∃z,Xy (D:=D) P e=some z∧X7 z=true∧(ZH z).length=U.width e2)
  (hll:l.length=l2.length) (hfl:Z5 U e2 l=Z5 U e3 l2) (hps:ZD ps) (hx:Rep U w E hp x (.em te)) (hy:Rep U w E hp y c):
  ∃v w' E',(Builtin.append_ #[t,t2] ty #[x,y]).run P w= .ok v w'∧Inv U w' E' hp∧Zg U w E hp w' E' hp∧Rep U w' E' hp v (.sl e2 l):=by
 have hut:=XQ he
 obtain⟨q2,hq2⟩:=he2
 have hut2:=XQ hq2
 obtain⟨z,hz,hzok,hzl⟩:=hz
 obtain⟨ti,zv,hti,hzz,hzr⟩:=WI (U:=U) (w:=w) (E:=E) (hp:=hp) hz
 have hzs:zv.cells.size=U.width e2:=by have:=(Wa hzok hzr).1;rw[hzl]at this;simpa using this
 have hisz:ti.size=U.width e2:=by
  simp only[ZT,hti,Option.map_some]at hsz;injection hsz
 have hbt:ti.bytes=YK P e:=by simp[YK,Program.bytesOf,hti]
 obtain⟨news,hsrc,hnr⟩:=Z4B (P:=P) (size:=ti.size) (ids:= []) (E1:=E) hi (fun _ h=>by cases h) (Zg.refl U w E hp) hvw hps hy hut2 (by rw[hw2,hisz])
 have hnl:news.length=l2.length * U.width e2:=by rw[hsrc.newsLen,hisz]
 obtain⟨a0,rfl⟩:=WT hx
 by_cases hl2:l2.length=0
 ·have hl:l= []:=List.eq_nil_of_length_eq_zero (by omega)
  subst hl
  have hnews:news= []:=List.eq_nil_of_length_eq_zero (by rw[hnl,hl2];simp)
  subst hnews
  rw[hl2]at hsrc
  exact⟨_,w,E,run_append_nothing w t t2 ty e ti hut hti a0 0 0 (Nat.le_refl _) y hsrc,hi,Zg.refl U w E hp, .pure _ _ (.sl0 _ _ _)⟩
 ·have hcap:0<0+l2.length:=by omega
  have hcaple:=Go.Room.nextslicecap_le' hcap
  have hold:(Builtin.firstCells ti.size 0 (.slice a0 0 0)).run P w.drew= .ok (#[]:Array Value) w.drew:=by
   cases a0 with
   |none=>simp[Builtin.firstCells]
   |some ad=>simp[Builtin.firstCells,loadCells,loadCellsFrom]
  have hrun:=run_append_grow_src w t t2 ty e ti zv hut hti hzz a0 0 0 [] hold y l2.length news hsrc hcap (by omega) (by
   have h1:Builtin.nextslicecap (0+l2.length) 0 * ti.bytes≤2 * (0+l2.length) * ti.bytes:=Nat.mul_le_mul_right _ hcaple
   rw[hbt]at h1⊢
   have h2:2 * (0+l2.length) * YK P e=2 * (l2.length * YK P e):=by rw[Nat.zero_add,Nat.mul_assoc]
   omega)
  generalize hgc:grownCap w (0+l2.length) 0 e=gc at hrun
  have hgc':0+l2.length≤gc:=by rw[←hgc];simp only[grownCap,Question.cut];omega
  have i1d:Inv U w.drew E hp:=Inv.drew hi
  let E2:Emb:= { m:=E.m,S:=fun b=>E.S b∨b=w.drew.heap.size }
  have pr:∀c:Array Value,(∀k,k<news.length→c[k]?=news[k]?)→
    Inv U { w.drew with heap:=w.drew.heap.push (.cells c e (0,0)) } E2 hp∧
    Zg U w.drew E hp { w.drew with heap:=w.drew.heap.push (.cells c e (0,0)) } E2 hp∧Rep U { w.drew with heap:=w.drew.heap.push (.cells c e (0,0)) } E2 hp (.slice (some ⟨w.drew.heap.size,0,none⟩) l2.length gc) (.sl e2 l):=by
   intro c hc
   have hs:Zg U w.drew E hp { w.drew with heap:=w.drew.heap.push (.cells c e (0,0)) } E2 hp:=
    ⟨rfl,rfl,rfl,fun q _ _=>Z0e w.drew _ _ q,by simp,fun b hb _=>WX hb,fun _ _ h=>h,fun _ h=> .inl h,fun b h=>by
     rcases h with h|h
     ·exact .inl h
     ·exact .inr (.inr (by omega)),fun id o h=>⟨o,h,rfl,Nat.le_refl _,fun _=>rfl⟩⟩
   refine⟨⟨fun id o ho=>(i1d.obj id o ho).keep (fun b b0 cap hm hb=>WX (i1d.kb ho hm hb)) (fun _ h=> .inl h) (fun b b0 cap hm hb hf h=> ?_) (by simp) (fun x a h=>hs.rep i1d h) (fun x a h=>hs.prep i1d h),i1d.inj,fun b hb=> ?_,i1d.gl' hs⟩,hs, ?_⟩
   ·rcases h with h|h
    ·exact h
    ·have h0:b<w.drew.heap.size:=(i1d.blk ho hf ⟨b0,cap,hm,hb⟩).1
     have h1:b=w.drew.heap.size:=h
     exact absurd h0 (by rw[h1];exact Nat.lt_irrefl _)
   ·rw[Array.size_push]
    rcases hb with hb|hb
    ·exact Nat.lt_succ_of_lt (i1d.sb b hb)
    ·have h1:b=w.drew.heap.size:=hb
     rw[h1];exact Nat.lt_succ_self _
   ·rw[←hll]
    refine .pure _ _ (.sl e2 l w.drew.heap.size 0 gc (fun k=>news[k]?.getD undef) (.inr rfl) (by omega) (fun k d hk=> ?_) (fun k d hk=> ?_))
    ·have hkl:k<news.length:=by
      have:=(List.getElem?_eq_some_iff.1 hk).1
      rw[hfl,Yp,hw2]at this;omega
     have h2:=hc k hkl
     show(match (w.drew.heap.push (.cells c e (0,0)))[w.drew.heap.size]? with|some (.cells cs _ _)=>cs[0+k]?|_=>none)=some (news[k]?.getD undef)
     rw[Array.getElem?_push_size]
     show c[0+k]?=_
     rw[Nat.zero_add,h2,List.getElem?_eq_getElem hkl];rfl
    ·have hkl:k<news.length:=by
      have:=(List.getElem?_eq_some_iff.1 hk).1
      rw[hfl,Yp,hw2]at this;omega
     rw[hfl]at hk
     have:=hnr.2 k news[k] d (List.getElem?_eq_getElem hkl) hk
     rw[List.getElem?_eq_getElem hkl]
     exact(ZE.mono (w:=w) (w':=w.drew) (S:=E.S) (fun _ h=>h) (fun _ _=>rfl) this).mono (fun _ h=> .inl h) (fun b hb=>WX (i1d.sb b hb))
  obtain⟨i2,s2,r2⟩:=pr ((([]:List Value)++news).toArray++Builtin.zeroCells zv.cells (gc-(0+l2.length))) (fun k hk=>by
   rw[List.nil_append,Array.getElem?_append_left (by simpa using hk)];simp)
  refine⟨_,_,_,hrun,i2,Zg.drew.trans s2, ?_⟩
  rw[Nat.zero_add]at r2⊢
  exact r2
theorem Zdn {o:Oper} {fr:Fr D} {π:List (Ans D)} {r:Res D} (hi:Inv U w E hp) (hf:XX U w E hp a fr) (hpa:U4 o.op π=true) (h:TP P U fr hp o.type π o.op=some r) (hobl:ZD r.obl):
  Oks P U o a w E hp r.val r.hp:=by
 cases hop:o.op with
 |call c=>
  obtain⟨callee,args,tys⟩:=c
  rw[hop]at h hpa
  simp only[TP]at h
  have hcb:callee= .builtin .append:=by
   cases callee with
   |builtin b=>cases b <;> first|rfl|(simp[U4]at hpa)
   |_=>simp[U4]at hpa
  subst hcb
  split at h
  case h_2=>cases h
  rename_i x y t t2 _ e2 l _ _ π' hca hct
  have ea:args= #[x,y]:=by apply Array.ext';simpa using hca
  have et:tys= #[t,t2]:=by apply Array.ext';simpa using hct
  have hx:=ZY (P:=P) hi hf t x
  have hy:=ZY (P:=P) hi hf t y
  split at h
  case h_2=>cases h
  rename_i e q2 te he he2 hv
  split at h
  case h_2=>cases h
  rename_i sz ps e3 l2 hsz hvw
  split at h
  case h_2=>cases h
  rename_i hs1 hs2 hs3
  injection h with h;subst h
  obtain⟨⟨hb,h63,hll,hfl⟩,hps⟩:=hobl
  have hs1:sz=U.width e2:=Nat.eq_of_beq_eq_true hs1
  subst hs1
  rw[hv]at hx
  obtain⟨v,w',E',hrun,i1,s1,r1⟩:=Zdm (ty:=o.type) hi he ⟨q2,he2⟩ hsz hvw (Nat.eq_of_beq_eq_true hs2) hb h63 (UE hs3) hll hfl hps hx hy
  refine Wm ?_ i1 s1 r1
  simp only[execOp,hop,resolve,ea,et,invoke,builtin,Sem.run_bind,Sem.run_pure,Result.andThen_ok]
  simp[hrun]
 |buildSlice t n parts=>
  rw[hop]at h
  simp only[TP]at h
  split at h
  case h_2=>cases h
  rename_i e _ e' _ _ _ π' he
  split at h
  case h_2=>cases h
  rename_i sz z hsz hee hz hn hpn
  split at h
  case h_2=>cases h
  rename_i hs1 hs2
  injection h with h;subst h
  have hee:e=e':=Nat.eq_of_beq_eq_true hee
  subst hee
  have hs1:sz=U.width e:=Nat.eq_of_beq_eq_true hs1
  subst hs1
  have hn:n=0:=Nat.eq_of_beq_eq_true hn
  subst hn
  have hpn:parts= #[]:=Array.eq_empty_of_size_eq_zero (Nat.eq_of_beq_eq_true hpn)
  subst hpn
  obtain⟨v,w',E',hrun,i1,s1,r1,hv⟩:=Z97 (P:=P) (n:=0) (pv:= #[]) (pa:= []) (ps:= []) (cs:= []) (l:= []) hi he hsz rfl (by simp) (by omega) (Nat.le_of_ble_eq_true hs2) ⟨z,hz⟩ rfl rfl trivial rfl rfl (Z26 (P:=P) hi hf (fun _=>e) [])
  subst hv
  exact Wm (by simp only[execOp,hop,Array.map_empty];exact Xq hrun) i1 s1 (.em _ _)
 |_=>rw[hop]at hpa;simp[U4]at hpa
end
theorem Zdo {P:Program} {U:Zu D} {o:Oper} {a:Act} {w:World} {E:Emb} {hp:Z3 D} {fr:Fr D} {π:List (Ans D)} {r:Res D} (hi:Inv U w E hp) (hf:XX U w E hp a fr) (h:opD P U fr hp o.type π o.op=some r) (hobl:ZD r.obl):
  Oks P U o a w E hp r.val r.hp:=by
 unfold opD at h
 split at h
 ·rename_i hpa;exact Zdn hi hf hpa h hobl
 ·exact Zdl hi hf h hobl

def Z98 (P:Program) (fr:Fr D):Op→Option (Nat×AV D)
 | .alloc e=>match Xy P e with
  |some z=>match X7 z with
   |true=>some (e,z)
   |false=>none
  |none=>none
 | .box e x=>match X7 (Zv P fr e x)with
  |true=>some (e,Zv P fr e x)
  |false=>none
 |_=>none

def wk:AV D→Option ((t:Nat)×List (D t))
 | .tup [.sl t l]=>some ⟨t,l⟩
 |_=>none
def WJ (b:Nat) (z:AV D):Value:=
 match wk z with
 |some ⟨t,l⟩=> .slice (some ⟨b,0,none⟩) l.length l.length
 |none=> .pointer (some ⟨b,0,none⟩)
def Wn (U:Zu D) (w:World) (E:Emb) (hp:Z3 D) (e:Nat) (c:List Value) (z:AV D):Prop:=
 match wk z with
 |some ⟨t,l⟩=>(c.length=l.length * U.width t∧∀(k:Nat) x a,c[k]?=some x→(Z5 U t l)[k]?=some a→ZE U w E.S x a)∧e=t
 |none=>ZW U w E hp c (ZH z)
def VF (hp:Z3 D) (e:Nat) (z:AV D):AV D×Z3 D:=
 match wk z with
 |some ⟨t,l⟩=>(.os hp.length l.length,hp++ [.arr t l l.length false])
 |none=>((Wk hp e z []).val,(Wk hp e z []).hp)
theorem Wn.mono {U:Zu D} {w:World} {E:Emb} {hp:Z3 D} {w':World} {E':Emb} {hp':Z3 D} {e:Nat} {c:List Value} {z:AV D} (h1:∀x a,Rep U w E hp x a→Rep U w' E' hp' x a) (h2:∀x a,ZE U w E.S x a→ZE U w' E'.S x a) (h:Wn U w E hp e c z):Wn U w' E' hp' e c z:=by
 unfold Wn at *
 split at h
 ·exact⟨⟨h.1.1,fun k x a hx ha=>h2 _ _ (h.1.2 k x a hx ha)⟩,h.2⟩
 ·exact⟨h.1,fun k x a hx ha=>h1 _ _ (h.2 k x a hx ha)⟩
def Z6O (P:Program) (U:Zu D) (fr:Fr D) (ty:Nat) (π:List (Ans D)):Op→Option (List Prop×Nat×AV D×List (Ans D))
 | .makeSlice t l c=>match Ye P t,Zv P fr ty l,Zv P fr ty c with
  |some e, .v (.int .i64 n), .v (.int .i64 m)=>match π with
   | .obj [] (.arr e' l ln true)::π'=>match ZT P e,Xy (D:=D) P e,Nat.beq e e' with
    |some sz,some z,true=>match Nat.beq sz (U.width e),Vf D P e (U.width e),vws (D:=D) [] [] (ZH z)with
     |true,true,(ps,zc)=>some ((0≤n∧n≤m∧m * YK P e≤140737488355328∧m<9223372036854775808∧∃y,l=List.replicate n.toNat y∧U.cells e' y=zc)::(ln=n.toNat)::(m=n)::ps,e, .tup [.sl e' l],π')
     |_,_,_=>none
    |_,_,_=>none
   |_=>none
  |_,_,_=>none
 |op=>match Z98 P fr op with
  |some (e,z)=>match wk z with
   |none=>some ([],e,z,π)
   |some _=>none
  |none=>none

def X9 (ops:List Oper) (o:Oper):List Nat:=
 (o.op.operands.toList.filterMap fun| .tmp t=>some t|_=>none)++
 (match o.guard with
  |some (j,_)=>match (ops[j]?).bind (·.dst)with|some d=> [d]|none=> []
  |none=> [])

def Z99 (acc:List Nat) (o:Oper):Nat:=
 o.after.toList.foldl (fun s e=>match Region.binds .any e with|true=>s|||2 ^ e.on|||(acc[e.on]?).getD 0|false=>s) 0
def WB:List Oper→List Nat→List Nat
 | [],acc=>acc
 |o::r,acc=>WB r (acc++ [Z99 acc o])

def Z9a (ops:List Oper) (q:Nat):Bool:=
 let ms:=WB ops []
 (X4 ((ops.take q).filterMap (·.dst)) && Nat.ble q ops.length) &&
 ((ops.zipIdx.all fun(o,i)=>o.after.toList.all fun e=>match Region.binds .any e with|true=>Nat.ble (e.on+1) i|false=>true) &&
 ((ops.zipIdx.all fun(_,i)=>Nat.ble (i+1) q||(List.range i).all fun j=>((ms[i]?).getD 0).testBit j) &&
 ((ops.take q).zipIdx.all fun(o,i)=>(X9 ops o).all fun t=>(ops.take q).zipIdx.all fun(o',j)=>
  (match o'.dst with|some d=> !Nat.beq d t|none=>true)||(Nat.ble (j+1) i && ((ms[i]?).getD 0).testBit j)||(o.dst.isSome && Nat.ble (i+1) j && ((ms[j]?).getD 0).testBit i))))

def Z9b (P:Program) (fr:Fr D):Op→Option (Nat×AV D)
 | .store t (.tmp d) x=>match ZT P t with
  |some k=>match Nat.beq k (ZH (Zv P fr t x)).length,(ZH (Zv P fr t x)).all XP with
   |true,true=>some (d,Zv P fr t x)
   |_,_=>none
  |none=>none
 |_=>none

abbrev Z28 (D:Den):=List (Nat×Nat×AV D)×List (Nat×Nat×AV D)

def Z0q:Op→Bool
 | .call ⟨.value _,_,_⟩=>true
 | .call ⟨.builtin .append,_,_⟩=>true
 | .call ⟨.builtin .copy,_,_⟩=>true
 | .buildSlice _ _ _=>true
 | .makeSlice _ _ _=>true
 |_=>false
def Z29:Op→Bool
 | .store _ _ _=>true
 |_=>false
def Hk (H:List (Z3 D)) (k:Nat):Z3 D:=match H[k]? with|some h=>h|none=> []
def WY (mj:List Nat) (f:Nat→Bool):Nat:=(mj.filter f).length
def loR (ms mj:List Nat) (i:Nat):Nat:=WY mj fun j=>((ms[i]?).getD 0).testBit j
def hiR (ms mj:List Nat) (i:Nat):Nat:=WY mj fun j=> !Nat.beq j i && !((ms[j]?).getD 0).testBit i
def Z6P:List (Ans D)→List (Nat×Z3 D)×List (Ans D)
 | .sum [i] [] .nor [] h::π=>((i,h)::(Z6P π).1,(Z6P π).2)
 | .sum [] [] .nor [] _::π=>([],π)
 |π=>([],π)
def Z2a (P:Program) (U:Zu D) (fr:Fr D) (ty:Nat) (π:List (Ans D)) (op:Op) (H:List (Z3 D)) (v:AV D):Nat→Nat→Option (List Prop)
 |_,0=>some []
 |k,n+1=>match opD P U fr (Hk H k) ty π op with
  |some r=>match Z2a P U fr ty π op H v (k+1) n with
   |some qs=>some (r.obl++((r.val=v)::qs))
   |none=>none
  |none=>none
theorem Z6Q {P:Program} {U:Zu D} {fr:Fr D} {ty:Nat} {π:List (Ans D)} {op:Op} {H:List (Z3 D)} {v:AV D} :∀(n k:Nat) (qs:List Prop),Z2a P U fr ty π op H v k n=some qs→ZD qs→
  ∀j,k≤j→j<k+n→∃r,opD P U fr (Hk H j) ty π op=some r∧ZD r.obl∧r.val=v
 |0,k,qs,_,_,j,h1,h2=>by omega
 |n+1,k,qs,h,hq,j,h1,h2=>by
  simp only[Z2a]at h
  split at h
  case h_2=>cases h
  rename_i r hr
  split at h
  case h_2=>cases h
  rename_i qs' hq'
  injection h with h;subst h
  rw[YG]at hq
  by_cases e:j=k
  ·subst e;exact⟨r,hr,hq.1,hq.2.1⟩
  ·exact Z6Q n (k+1) qs' hq' hq.2.2 j (by omega) (by omega)

def pass (P:Program) (U:Zu D) (N:Nat) (all:List Oper) (H:List (Z3 D)) (mj ms:List Nat):Nat→Nat→List Oper→Fr D→List (Ans D)→Option (List Prop×Fr D×Z28 D×List (Ans D))
 |k,_,[],fr,π=>some ([],fr,([],[]),π)
 |k,i,o::rest,fr,π=>match o.dst with
  |none=>match mj.contains i with
   |true=>match Z29 o.op,o.guard,opA P U fr (Hk H k) o.type π o.op,Nat.beq (loR ms mj i) k,Nat.beq (hiR ms mj i) k with
    |true,none,some r,true,true=>match pass P U N all H mj ms (k+1) (i+1) rest fr r.pi with
     |some (qs,fr2,al,π2)=>some ((r.hp=Hk H (k+1))::(r.obl++qs),fr2,al,π2)
     |none=>none
    |_,_,_,_,_=>none
   |false=>match Z9b P fr o.op,o.guard with
    |some (d,x),none=>match pass P U N all H mj ms k (i+1) rest fr π with
     |some (qs,fr2,al,π2)=>some (qs,fr2,(al.1,(i,d,x)::al.2),π2)
     |none=>none
    |_,_=>none
  |some d=>match Nat.ble (d+1) N with
   |false=>none
   |true=>match Z6O P U fr o.type π o.op,o.guard,mj.contains i with
    |some (ps,e,z,π1),none,false=>match pass P U N all H mj ms k (i+1) rest ((d, .un)::fr) π1 with
     |some (qs,fr2,al,π2)=>some (ps++qs,fr2,((d,e,z)::al.1,al.2),π2)
     |none=>none
    |_,_,_=>match WH fr all π o.guard with
     |none=>none
     |some (ps,true,fr1,π1)=>match mj.contains i with
      |false=>match Z0p o.op π1,opD P U fr1 (Hk H k) o.type π1 o.op with
       |true,some r=>match Z2a P U fr1 o.type π1 o.op H r.val (loR ms mj i) (k-loR ms mj i),Z2a P U fr1 o.type π1 o.op H r.val (k+1) (hiR ms mj i-k)with
        |some q1,some q2=>match pass P U N all H mj ms k (i+1) rest ((d,r.val)::fr1) r.pi with
         |some (qs,fr2,al,π2)=>some (ps++(r.obl++(q1++(q2++qs))),fr2,al,π2)
         |none=>none
        |_,_=>none
       |_,_=>none
      |true=>match Z0q o.op,opA P U fr1 (Hk H k) o.type π1 o.op,Nat.beq (loR ms mj i) k,Nat.beq (hiR ms mj i) k with
       |true,some r,true,true=>match pass P U N all H mj ms (k+1) (i+1) rest ((d,r.val)::fr1) r.pi with
        |some (qs,fr2,al,π2)=>some (ps++((r.hp=Hk H (k+1))::(r.obl++qs)),fr2,al,π2)
        |none=>none
       |_,_,_,_=>none
     |some (ps,false,fr1,π1)=>match mj.contains i with
      |true=>none
      |false=>match pass P U N all H mj ms k (i+1) rest ((d, .v (.tuple #[]))::fr1) π1 with
       |some (qs,fr2,al,π2)=>some (ps++qs,fr2,al,π2)
       |none=>none

def Vg:List (Nat×Nat×AV D)→Fr D→Z3 D→Fr D×Z3 D
 | [],fr,hp=>(fr,hp)
 |(d,e,z)::r,fr,hp=>Vg r ((d,(VF hp e z).1)::fr) (VF hp e z).2

def Xa:List (Nat×Nat×AV D)→(Nat→Bool)→Nat→AV D→AV D
 | [],_,_,z=>z
 |(i,d',x)::r,f,d,z=>match Nat.beq d' d with
  |true=>match f i with|true=>x|false=>z
  |false=>Xa r f d z
def Z9c (al sl:List (Nat×Nat×AV D)):Bool:=
 X4 (sl.map (·.2.1)) && (sl.all fun s=>al.all fun x=> !Nat.beq x.1 s.2.1||(Nat.beq (ZH x.2.2).length (ZH s.2.2).length && ((wk x.2.2).isNone && (wk s.2.2).isNone))) && sl.all fun s=>al.any fun x=>Nat.beq x.1 s.2.1

def Z6R (P:Program) (U:Zu D) (N:Nat) (ops:List Oper) (fr:Fr D) (hp:Z3 D) (q:Nat) (π:List (Ans D)):Option (List Prop×Fr D×Z3 D×List (Ans D)):=
 match Z6P π with
 |(mh,π0)=>match Z9a ops q,X4 (mh.map (·.1)) && (mh.all fun m=>Nat.ble (m.1+1) q),pass P U N ops (hp::mh.map (·.2)) (mh.map (·.1)) (WB ops []) 0 0 (ops.take q) fr π0 with
  |true,true,some (ps,fr1,al,π1)=>match Z9c al.1 al.2 && (al.2.all fun s=> !(mh.map (·.1)).contains s.1),Vg (al.1.map fun x=>(x.1,x.2.1,Xa al.2 (fun _=>true) x.1 x.2.2)) fr1 (Hk (hp::mh.map (·.2)) mh.length)with
   |true,(fr2,hp2)=>match VA P U N ops (ops.drop q) fr2 hp2 π1 with
    |some (qs,fr3,hp3,π3)=>some (ps++qs,fr3,hp3,π3)
    |none=>none
   |false,_=>none
  |_,_,_=>none

theorem Zdp {sl:List (Nat×Nat×AV D)} {f:Nat→Bool} {d:Nat} {z:AV D} (h:∀s∈sl,s.2.1=d→f s.1=false):Xa sl f d z=z:=by
 induction sl with
 |nil=>rfl
 |cons a r ih=>
  obtain⟨i,d',x⟩:=a
  simp only[Xa]
  split
  ·rename_i hb
   rw[h (i,d',x) (by simp) (Nat.eq_of_beq_eq_true hb)]
  ·exact ih fun s hs=>h s (by simp[hs])
theorem Z4I {sl:List (Nat×Nat×AV D)} {f g:Nat→Bool} {d:Nat} {z:AV D} (h:∀s∈sl,s.2.1=d→f s.1=g s.1):Xa sl f d z=Xa sl g d z:=by
 induction sl with
 |nil=>rfl
 |cons a r ih=>
  obtain⟨i,d',x⟩:=a
  simp only[Xa]
  split
  ·rename_i hb
   rw[h (i,d',x) (by simp) (Nat.eq_of_beq_eq_true hb)]
  ·exact ih fun s hs=>h s (by simp[hs])
theorem Zdq {sl:List (Nat×Nat×AV D)} {f:Nat→Bool} {i d:Nat} {x z:AV D} (hn:(sl.map (·.2.1)).Nodup) (hm:(i,d,x)∈sl) (hf:f i=true):Xa sl f d z=x:=by
 induction sl with
 |nil=>cases hm
 |cons a r ih=>
  obtain⟨j,d',y⟩:=a
  simp only[List.map_cons,List.nodup_cons]at hn
  simp only[Xa]
  rcases List.mem_cons.1 hm with h|h
  ·injection h with h1 h2;injection h2 with h2 h3
   subst h1;subst h2;subst h3
   simp[hf]
  ·have hne:d'≠d:=fun e=>hn.1 (List.mem_map.2 ⟨_,h,e.symm⟩)
   split
   ·rename_i hb;exact absurd (Nat.eq_of_beq_eq_true hb) hne
   ·exact ih hn.2 h
theorem Z9d {sl:List (Nat×Nat×AV D)} {f:Nat→Bool} {d:Nat} {z:AV D} (hz:wk z=none) (h:∀s∈sl,s.2.1=d→wk s.2.2=none):wk (Xa sl f d z)=none:=by
 induction sl with
 |nil=>exact hz
 |cons a r ih=>
  obtain⟨i,d',x⟩:=a
  simp only[Xa]
  split
  ·rename_i hb
   split
   ·exact h (i,d',x) (by simp) (Nat.eq_of_beq_eq_true hb)
   ·exact hz
  ·exact ih fun s hs=>h s (by simp[hs])
theorem Zdr {sl:List (Nat×Nat×AV D)} {f:Nat→Bool} {d b:Nat} {z:AV D} (h:∀s∈sl,s.2.1=d→wk z=none∧wk s.2.2=none):WJ b (Xa sl f d z)=WJ b z:=by
 by_cases hs:∃s∈sl,s.2.1=d
 ·obtain⟨s,hs,hd⟩:=hs
  have hz:=(h s hs hd).1
  have hc:wk (Xa sl f d z)=none:=Z9d hz (fun s hs hd=>(h s hs hd).2)
  simp only[WJ,hz,hc]
 ·have:Xa sl f d z=z:=by
   clear h
   induction sl with
   |nil=>rfl
   |cons a r ih=>
    obtain⟨i,d',x⟩:=a
    simp only[Xa]
    split
    ·rename_i hb
     exact absurd ⟨(i,d',x),by simp,Nat.eq_of_beq_eq_true hb⟩ hs
    ·exact ih fun⟨s,h1,h2⟩=>hs ⟨s,by simp[h1],h2⟩
  rw[this]
theorem Zds {sl:List (Nat×Nat×AV D)} {f:Nat→Bool} {d:Nat} {z:AV D} (h:∀s∈sl,s.2.1=d→(ZH z).length=(ZH s.2.2).length):(ZH (Xa sl f d z)).length=(ZH z).length:=by
 induction sl with
 |nil=>rfl
 |cons a r ih=>
  obtain⟨i,d',x⟩:=a
  simp only[Xa]
  split
  ·rename_i hb
   split
   ·exact(h (i,d',x) (by simp) (Nat.eq_of_beq_eq_true hb)).symm
   ·rfl
  ·exact ih fun s hs=>h s (by simp[hs])

section
variable {P:Program} {U:Zu D} {o:Oper} {a:Act} {w:World} {E:Emb} {hp:Z3 D} {N:Nat}

theorem Z9e:∀(l:List Oper) (acc:List Nat),(WB l acc).length=acc.length+l.length
 | [],acc=>by simp[WB]
 |o::r,acc=>by rw[WB,Z9e r];simp;omega
theorem Z9f {acc:List Nat} {j:Nat} :∀(es:List Edge) (s:Nat),(es.foldl (fun s e=>match Region.binds .any e with|true=>s|||2 ^ e.on|||(acc[e.on]?).getD 0|false=>s) s).testBit j=true→
  s.testBit j=true∨∃e∈es,Region.binds .any e=true∧(j=e.on∨((acc[e.on]?).getD 0).testBit j=true)
 | [],s,h=> .inl h
 |e::r,s,h=>by
  simp only[List.foldl_cons]at h
  rcases Z9f r _ h with h|⟨e',he',hb,hj⟩
  ·cases hb:Region.binds .any e with
   |true=>
    rw[hb]at h
    simp only[Nat.testBit_or,Bool.or_eq_true,Nat.testBit_two_pow,decide_eq_true_eq]at h
    rcases h with(h|h)|h
    ·exact .inl h
    ·exact .inr ⟨e,by simp,hb, .inl h.symm⟩
    ·exact .inr ⟨e,by simp,hb, .inr h⟩
   |false=>rw[hb]at h;exact .inl h
  ·exact .inr ⟨e',by simp[he'],hb,hj⟩

def Wf (ops:Array Oper) (listed:Array Bool):Prop:=
 ∀(i:Nat) o,ops[i]?=some o→listed.getD i false=true→∀e∈o.after,Region.binds .any e=true→listed.getD e.on false=true

theorem Z9g {ops:Array Oper} {listed:Array Bool} (hc:Wf ops listed):∀(l:List Oper) (acc:List Nat),(∀i,l[i]?=ops[acc.length+i]?)→
  (∀(i:Nat) o m,ops[i]?=some o→acc[i]?=some m→(∀e∈o.after,Region.binds .any e=true→listed.getD e.on false=true)→∀j,m.testBit j=true→listed.getD j false=true)→
  ∀(i:Nat) o m,ops[i]?=some o→(WB l acc)[i]?=some m→(∀e∈o.after,Region.binds .any e=true→listed.getD e.on false=true)→∀j,m.testBit j=true→listed.getD j false=true
 | [],acc,_,h=>h
 |o::r,acc,hl,h=>by
  rw[WB]
  refine Z9g hc r (acc++ [Z99 acc o]) (fun i=> ?_) (fun i o' m ho' hm hd j hj=> ?_)
  ·have:=hl (i+1)
   simp only[List.length_append,List.length_cons,List.length_nil]
   rw[show acc.length+(0+1)+i=acc.length+(i+1)from by omega, ←this]
   simp
  ·rcases W9 hm with⟨_,hm'⟩|⟨rfl,rfl⟩
   ·exact h i o' m ho' hm' hd j hj
   ·have ho:o'=o:=by
     have:=hl 0
     rw[Nat.add_zero,ho']at this
     simpa using this.symm
    subst ho
    rcases Z9f _ _ hj with h0|⟨e,he,hb,hje⟩
    ·simp at h0
    ·have hon:=hd e (by simpa using he) hb
     rcases hje with rfl|hje
     ·exact hon
     ·cases hq:acc[e.on]? with
      |none=>rw[hq]at hje;simp at hje
      |some m'=>
       rw[hq]at hje
       have hlt:e.on<ops.size:=by
        rcases Nat.lt_or_ge e.on ops.size with hh|hh
        ·exact hh
        ·have hq':=(List.getElem?_eq_some_iff.1 hq).1
         have:=hl 0
         rw[Nat.add_zero,ho']at this
         have:=(Array.getElem?_eq_some_iff.1 ho').1
         omega
       have hoe:=Array.getElem?_eq_getElem hlt
       exact h e.on _ m' hoe hq (fun e' he' hb'=>hc e.on _ hoe hon e' he' hb') j hje

theorem Zdt {w0:World} {E0:Emb} {hp0:Z3 D} (hi:Inv U w E hp) (hs:Zg U w0 E0 hp0 w E hp) {e b:Nat} {z:AV D} {c:List Value} (hb:w.heap[b]?=some (.cells ⟨c⟩ e (0,0)))
  (hr:ZW U w E hp c (ZH z)) (hnS:¬E.S b) (hnO:¬Own E hp b) (hB:w0.heap.size≤b):
  ∃E',Inv U w E' (Wk hp e z []).hp∧Rep U w E' (Wk hp e z []).hp (.pointer (some ⟨b,0,none⟩)) (Wk hp e z []).val∧Zg U w0 E0 hp0 w E' (Wk hp e z []).hp∧
   (∀b',Own E' (Wk hp e z []).hp b'→Own E hp b'∨b'=b)∧(∀b',E'.S b'→E.S b'∨Own E hp b'∨w.heap.size≤b')∧(∀x y,Rep U w E hp x y→Rep U w E' (Wk hp e z []).hp x y)∧(∀x y,ZE U w E.S x y→ZE U w E'.S x y):=by
 obtain⟨E1,i1,s1,r1⟩:=TL (ZH z) E hp c hi hr
 have e1:Wk hp e z []=⟨[], .op (hp.length+(YB hp.length (ZH z)).1.length) 1 0 0,hp++(YB hp.length (ZH z)).1++ [.box e (YB hp.length (ZH z)).2 false],[]⟩:=rfl
 rw[e1]
 generalize YB hp.length (ZH z)=q at *
 have hlt:b<w.heap.size:=(Array.getElem?_eq_some_iff.1 hb).1
 have hnS1:¬E1.S b:=fun h=>by
  rcases s1.snew b h with h|h|h
  ·exact hnS h
  ·exact hnO h
  ·omega
 have hnO1:¬Own E1 (hp++q.1) b:=fun h=>hnO (s1.own b hlt h)
 let hp1:=hp++q.1
 let E2:=E1.upd hp1.length (some (b,(1:Nat)))
 have own2:∀b',Own E2 (hp1++ [.box e q.2 false]) b'→Own E1 hp1 b'∨b'=b:=by
  rintro b' ⟨id,o,ho,hf,hm⟩
  rcases W9 ho with⟨hl,ho'⟩|⟨rfl,_⟩
  ·exact .inl ⟨id,o,ho',hf,(Xp (by omega)).1 hm⟩
  ·exact .inr (WW.1 hm)
 have ev:Evo U E1 hp1 E2 (hp1++ [.box e q.2 false]):=Z4s _ _
 have rr:∀x y,Rep U w E1 hp1 x y→Rep U w E2 (hp1++ [.box e q.2 false]) x y:=fun x y h=>Rep.mono (w:=w) (w':=w) (E:=E1) (E':=E2) (hp:=hp1) (fun _ h=>h) (fun _ _=>rfl) ev h
 have i2:Inv U w E2 (hp1++ [.box e q.2 false]):=by
  refine⟨fun id o ho=> ?_,fun i j oi oj b' h1 h2 f1 f2 m1 m2=> ?_,i1.sb,i1.gl⟩
  ·rcases W9 ho with⟨hl,ho'⟩|⟨rfl,rfl⟩
   ·have em:E2.m id=E1.m id:=by simp only[E2,Emb.upd];rw[if_neg (by omega)]
    rw[em]
    exact(i1.obj id o ho').keep (fun _ _ _ _ _=>rfl) (fun _ h=>h) (fun _ _ _ _ _ _ h=>h) (Nat.le_refl _) rr (fun x a h=>h)
   ·have em:E2.m hp1.length=some (b,((1:Nat):Cap)):=by simp[E2,Emb.upd]
    rw[em]
    refine⟨c,e,hb,r1.1,fun k d hk=> ?_,fun h=>(by cases h),fun _=>hnS1,fun _ b' hn=>hn.elim,fun _=>rfl⟩
    have hk:q.2[k]?=some d:=hk
    have hkl:k<c.length:=by rw[r1.1];exact(List.getElem?_eq_some_iff.1 hk).1
    exact⟨c[k],List.getElem?_eq_getElem hkl,rr _ _ (r1.2 k _ d (List.getElem?_eq_getElem hkl) hk)⟩
  ·rcases W9 h1 with⟨l1,h1'⟩|⟨rfl,rfl⟩ <;> rcases W9 h2 with⟨l2,h2'⟩|⟨rfl,rfl⟩
   ·exact i1.inj i j oi oj b' h1' h2' f1 f2 ((Xp (by omega)).1 m1) ((Xp (by omega)).1 m2)
   ·have e9:=WW.1 m2
    subst e9
    exact absurd ⟨i,oi,h1',f1,(Xp (by omega)).1 m1⟩ hnO1
   ·have e9:=WW.1 m1
    subst e9
    exact absurd ⟨j,oj,h2',f2,(Xp (by omega)).1 m2⟩ hnO1
   ·rfl
 refine⟨E2,i2, ?_, ?_,fun b' h=> ?_,fun b' h=>s1.snew b' h,fun x y h=>rr x y (s1.rep hi h),fun x y h=>s1.prep hi h⟩
 ·refine .op _ _ _ _ _ ⟨⟨_,rfl⟩, .box e q.2 false,by simp,Nat.le_refl _,fun _=> ?_⟩
  have:E2.m (hp.length+q.1.length)=some (b,((1:Nat):Cap)):=by simp[E2,Emb.upd,hp1]
  rw[this]
  simp[XW]
 ·have s01:=hs.trans s1
  refine⟨s01.os,s01.tape,s01.output,s01.fz,s01.size,s01.keep,fun b' hb' h=> ?_,s01.smono,s01.snew,s01.evo.trans ev⟩
  rcases own2 b' h with h|h
  ·exact s01.own b' hb' h
  ·omega
 ·rcases own2 b' h with h|h
  ·by_cases hbl:b'<w.heap.size
   ·exact .inl (s1.own b' hbl h)
   ·exact absurd (Own.lt i1 h) hbl
  ·exact .inr h

theorem Zdu {w0:World} {E0:Emb} {hp0:Z3 D} (hi:Inv U w E hp) (hs:Zg U w0 E0 hp0 w E hp) {e b t:Nat} {l:List (D t)} {c:List Value} (hb:w.heap[b]?=some (.cells ⟨c⟩ e (0,0)))
  (hlen:c.length=l.length * U.width t) (hr:∀(k:Nat) x a,c[k]?=some x→(Z5 U t l)[k]?=some a→ZE U w E.S x a) (hty:e=t) (hnS:¬E.S b) (hnO:¬Own E hp b) (hB:w0.heap.size≤b):
  ∃E',Inv U w E' (hp++ [.arr t l l.length false])∧Rep U w E' (hp++ [.arr t l l.length false]) (.slice (some ⟨b,0,none⟩) l.length l.length) (.os hp.length l.length)∧Zg U w0 E0 hp0 w E' (hp++ [.arr t l l.length false])∧
   (∀b',Own E' (hp++ [.arr t l l.length false]) b'→Own E hp b'∨b'=b)∧(∀b',E'.S b'→E.S b'∨Own E hp b'∨w.heap.size≤b')∧(∀x y,Rep U w E hp x y→Rep U w E' (hp++ [.arr t l l.length false]) x y)∧(∀x y,ZE U w E.S x y→ZE U w E'.S x y):=by
 let E2:=E.upd hp.length (some (b,l.length))
 have own2:∀b',Own E2 (hp++ [.arr t l l.length false]) b'→Own E hp b'∨b'=b:=by
  rintro b' ⟨id,o,ho,hf,hm⟩
  rcases W9 ho with⟨hl,ho'⟩|⟨rfl,_⟩
  ·exact .inl ⟨id,o,ho',hf,(Xp (by omega)).1 hm⟩
  ·exact .inr (WW.1 hm)
 have ev:Evo U E hp E2 (hp++ [.arr t l l.length false]):=Z4s _ _
 have rr:∀x y,Rep U w E hp x y→Rep U w E2 (hp++ [.arr t l l.length false]) x y:=fun x y h=>Rep.mono (w:=w) (w':=w) (E:=E) (E':=E2) (hp:=hp) (fun _ h=>h) (fun _ _=>rfl) ev h
 have i2:Inv U w E2 (hp++ [.arr t l l.length false]):=by
  refine⟨fun id o ho=> ?_,fun i j oi oj b' h1 h2 f1 f2 m1 m2=> ?_,hi.sb,hi.gl⟩
  ·rcases W9 ho with⟨hl,ho'⟩|⟨rfl,rfl⟩
   ·have em:E2.m id=E.m id:=by simp only[E2,Emb.upd];rw[if_neg (by omega)]
    rw[em]
    exact(hi.obj id o ho').keep (fun _ _ _ _ _=>rfl) (fun _ h=>h) (fun _ _ _ _ _ _ h=>h) (Nat.le_refl _) rr (fun x a h=>h)
   ·have em:E2.m hp.length=some (b,(l.length:Cap)):=by simp[E2,Emb.upd]
    rw[em]
    refine⟨c,e,hb,⟨hlen,Nat.le_refl _,rfl⟩,fun k d hk=> ?_,fun h=>(by cases h),fun _=>hnS,fun _ b' hn=>hn.elim,fun _=>hty⟩
    have hk:(Z5 U t l)[k]?=some d:=hk
    have hkl:k<c.length:=by
     have:=(List.getElem?_eq_some_iff.1 hk).1
     rw[Yp]at this
     omega
    exact⟨c[k],List.getElem?_eq_getElem hkl,hr k _ d (List.getElem?_eq_getElem hkl) hk⟩
  ·rcases W9 h1 with⟨l1,h1'⟩|⟨rfl,rfl⟩ <;> rcases W9 h2 with⟨l2,h2'⟩|⟨rfl,rfl⟩
   ·exact hi.inj i j oi oj b' h1' h2' f1 f2 ((Xp (by omega)).1 m1) ((Xp (by omega)).1 m2)
   ·have e9:=WW.1 m2
    subst e9
    exact absurd ⟨i,oi,h1',f1,(Xp (by omega)).1 m1⟩ hnO
   ·have e9:=WW.1 m1
    subst e9
    exact absurd ⟨j,oj,h2',f2,(Xp (by omega)).1 m2⟩ hnO
   ·rfl
 refine⟨E2,i2, ?_, ?_,own2,fun b' h=> .inl h,rr,fun x y h=>h⟩
 ·refine .os _ _ _ ⟨⟨_,_,_,rfl⟩, .arr t l l.length false,by simp,Nat.le_refl _,fun _=> ?_⟩
  have:E2.m hp.length=some (b,(l.length:Cap)):=by simp[E2,Emb.upd]
  rw[this]
  simp[X3]
 ·refine⟨hs.os,hs.tape,hs.output,hs.fz,hs.size,hs.keep,fun b' hb' h=> ?_,hs.smono,hs.snew,hs.evo.trans ev⟩
  rcases own2 b' h with h|h
  ·exact hs.own b' hb' h
  ·omega
theorem Zdv {w0:World} {E0:Emb} {hp0:Z3 D} (hi:Inv U w E hp) (hs:Zg U w0 E0 hp0 w E hp) {e b:Nat} {z:AV D} {c:List Value} (hb:w.heap[b]?=some (.cells ⟨c⟩ e (0,0)))
  (hr:Wn U w E hp e c z) (hnS:¬E.S b) (hnO:¬Own E hp b) (hB:w0.heap.size≤b):
  ∃E',Inv U w E' (VF hp e z).2∧Rep U w E' (VF hp e z).2 (WJ b z) (VF hp e z).1∧Zg U w0 E0 hp0 w E' (VF hp e z).2∧
   (∀b',Own E' (VF hp e z).2 b'→Own E hp b'∨b'=b)∧(∀b',E'.S b'→E.S b'∨Own E hp b'∨w.heap.size≤b')∧(∀x y,Rep U w E hp x y→Rep U w E' (VF hp e z).2 x y)∧(∀x y,ZE U w E.S x y→ZE U w E'.S x y):=by
 cases hk:wk z with
 |none=>
  simp only[Wn,VF,WJ,hk]at hr⊢
  obtain⟨E',h1,h2,h3,h4,h5,h6,h7⟩:=Zdt hi hs hb hr hnS hnO hB
  exact⟨E',h1,h2,h3,h4,h5,h6,h7⟩
 |some q=>
  obtain⟨t,l⟩:=q
  simp only[Wn,VF,WJ,hk]at hr⊢
  exact Zdu hi hs hb hr.1.1 hr.1.2 hr.2 hnS hnO hB

def FLe (x y:AV D):Prop:=y=x∨∃b,x= .v (.bool b)∧y= .db b
theorem FLe.refl (x:AV D):FLe x x:= .inl rfl
theorem FLe.trans {x y z:AV D} (h1:FLe x y) (h2:FLe y z):FLe x z:=by
 rcases h1 with rfl|⟨b,rfl,rfl⟩
 ·exact h2
 ·rcases h2 with rfl|⟨b',h,_⟩
  ·exact .inr ⟨b,rfl,rfl⟩
  ·cases h
theorem FLe.down {v:Value} {x y:AV D} (h:FLe x y) (hr:Rep U w E hp v y):Rep U w E hp v x:=by
 rcases h with rfl|⟨b,rfl,rfl⟩
 ·exact hr
 ·rw[Wy hr];exact .v _
theorem FLe.up {v:Value} {x y:AV D} (h:FLe x y) (hr:Rep U w E hp v x):Rep U w E hp v y:=by
 rcases h with rfl|⟨b,rfl,rfl⟩
 ·exact hr
 ·rw[Z0b hr];exact .db _

theorem Z6S {fr fr1:Fr D} {ops:List Oper} {g:Option (Nat×Bool)} {π π1:List (Ans D)} {ps:List Prop} {want:Bool} (h:WH fr ops π g=some (ps,want,fr1,π1)) (hps:ZD ps) (t:Nat):FLe (ZL fr t) (ZL fr1 t):=by
 unfold WH at h
 split at h
 ·simp only[Option.some.injEq,Prod.mk.injEq]at h
  obtain⟨_,_,rfl,_⟩:=h
  exact .refl _
 ·split at h
  case h_2=>cases h
  rename_i d hd
  split at h
  ·simp only[Option.some.injEq,Prod.mk.injEq]at h
   obtain⟨_,_,rfl,_⟩:=h
   exact .refl _
  ·rename_i b hb
   split at h
   case h_2=>cases h
   rename_i c π'
   simp only[Option.some.injEq,Prod.mk.injEq]at h
   obtain⟨rfl,_,rfl,_⟩:=h
   have hbc:b=c:=hps.1
   simp only[ZL]
   split
   ·rename_i hdt
    have:d=t:=Nat.eq_of_beq_eq_true hdt
    subst this
    rw[hb,hbc];exact .inr ⟨c,rfl,rfl⟩
   ·exact .refl _
  ·simp only[Option.some.injEq,Prod.mk.injEq]at h
   obtain⟨_,_,rfl,_⟩:=h
   exact .refl _
  ·cases h

def rst (T:List Nat) (fr:Fr D):Fr D:=T.map fun t=>(t,ZL fr t)
theorem Z0r {T:List Nat} {fr:Fr D} {t:Nat} :ZL (rst T fr) t=if t∈T then ZL fr t else .un:=by
 unfold rst
 induction T with
 |nil=>simp[ZL]
 |cons x r ih=>
  simp only[List.map_cons,ZL]
  split
  ·rename_i h
   have:x=t:=Nat.eq_of_beq_eq_true h
   subst this
   simp
  ·rename_i h
   have hne:t≠x:=fun e=>by subst e;simp at h
   rw[ih]
   simp[hne]

theorem UF {fr fr':Fr D} {x:Operand} (h:∀t,x= .tmp t→ZL fr t=ZL fr' t) (ty:Nat):Zv P fr ty x=Zv P fr' ty x:=by
 cases x with
 |tmp t=>exact h t rfl
 |_=>rfl
theorem Z2b {fr fr':Fr D} :∀(xs:List Operand) (tys:List Nat),(∀t,Operand.tmp t∈xs→ZL fr t=ZL fr' t)→W6 P fr tys xs=W6 P fr' tys xs
 | [],_,_=>rfl
 |x::r,tys,h=>by
  simp only[W6]
  rw[UF (fun t e=>h t (by simp[e])),Z2b r _ (fun t ht=>h t (by simp[ht]))]

theorem Zdw {fr fr':Fr D} {ty:Nat} {π:List (Ans D)} {op:Op} (hp1:VE op π=true) (h:∀t,Operand.tmp t∈op.operands.toList→ZL fr t=ZL fr' t):
  Yj P U fr hp ty π op=Yj P U fr' hp ty π op:=by
 have ev:∀x ty,x∈op.operands.toList→Zv P fr ty x=Zv P fr' ty x:=fun x ty hx=>UF (fun t e=>h t (e ▸hx)) ty
 cases op with
 |buildSlice t n parts=>
  simp only[Yj]
  have:∀e,(parts.toList.map fun q=>(q.1,Zv P fr e q.2))=(parts.toList.map fun q=>(q.1,Zv P fr' e q.2)):=fun e=>by
   refine List.map_congr_left fun q hq=> ?_
   rw[ev q.2 _ (by simp only[Op.operands];simpa using ⟨q.1,by simpa using hq⟩)]
  simp only[this]
 |assign x=>simp only[Yj];rw[ev x _ (by simp[Op.operands])]
 |move x=>simp only[Yj,opA];rw[ev x _ (by simp[Op.operands])]
 |pick c x y=>simp only[Yj,opA];rw[ev c _ (by simp[Op.operands]),ev x _ (by simp[Op.operands]),ev y _ (by simp[Op.operands])]
 |fieldAddr s x f=>simp only[Yj,opA];rw[ev x _ (by simp[Op.operands])]
 |indexAddr t x i=>simp only[Yj,opA];rw[ev x _ (by simp[Op.operands]),ev i _ (by simp[Op.operands])]
 |load t x=>simp only[Yj,opA];rw[ev x _ (by simp[Op.operands])]
 |binOp op xt x y yt=>simp only[Yj,opA];rw[ev x _ (by simp[Op.operands]),ev y _ (by simp[Op.operands])]
 |unOp op xt x=>simp only[Yj,opA];rw[ev x _ (by simp[Op.operands])]
 |convert s d x=>simp only[Yj,opA];rw[ev x _ (by simp[Op.operands])]
 |extract x i=>simp only[Yj,opA];rw[ev x _ (by simp[Op.operands])]
 |nilCheck x=>simp only[Yj,opA];rw[ev x _ (by simp[Op.operands])]
 |build t parts=>
  simp only[Yj,opA]
  have:(parts.toList.map fun q=>(q.1,Zv P fr (Z4n P t q.1) q.2))=(parts.toList.map fun q=>(q.1,Zv P fr' (Z4n P t q.1) q.2)):=by
   refine List.map_congr_left fun q hq=> ?_
   rw[ev q.2 _ (by simp only[Op.operands];simpa using ⟨q.1,by simpa using hq⟩)]
  rw[this]
 |makeFunc f first cap=>
  simp only[Yj,opA]
  rw[Z2b first.toList [] (fun t ht=>h t (by simp[Op.operands]at ht⊢;exact .inl ht)),Z2b cap.toList [] (fun t ht=>h t (by simp[Op.operands]at ht⊢;exact .inr ht))]
 |slice t x lo hi mx=>
  simp only[Yj,opA]
  have m:∀z:Option Operand,(∀y,z=some y→y∈(Op.slice t x lo hi mx).operands.toList)→z.map (Zv P fr ty)=z.map (Zv P fr' ty):=by
   intro z hz
   cases z with
   |none=>rfl
   |some y=>simp only[Option.map_some];rw[ev y _ (hz y rfl)]
  rw[ev x _ (by simp[Op.operands]),ev x _ (by simp[Op.operands]),m lo (fun y e=>by subst e;simp[Op.operands]),m hi (fun y e=>by subst e;simp[Op.operands])]
  cases mx with
  |none=>cases(Ye P t).bind (ZT P) <;> rfl
  |some z=>
   have e1:=ev z ty (by simp[Op.operands])
   cases(Ye P t).bind (ZT P)with
   |none=>rfl
   |some v=>simp only[e1]
 |index t x i=>simp only[Yj,opA];rw[ev x _ (by simp[Op.operands]),ev i _ (by simp[Op.operands])]
 |call c=>
  obtain⟨callee,args,tys⟩:=c
  have ha:W6 P fr tys.toList args.toList=W6 P fr' tys.toList args.toList:=Z2b _ _ (fun t ht=>h t (by
   simp only[Op.operands,Call.operands];simp at ht⊢;exact .inr ht))
  have ev1:∀x ty,x∈args.toList→Zv P fr ty x=Zv P fr' ty x:=fun x ty hx=>ev x ty (by simp only[Op.operands,Call.operands];simp at hx⊢;exact .inr hx)
  cases callee with
  |value f=>simp only[Yj,opA];rw[ha,ev f _ (by simp[Op.operands,Call.operands])]
  |invoke r m=>rfl
  |builtin b=>
   cases b <;> simp only[Yj,opA] <;> try (simp[VE]at hp1;done)
   ·split
    ·rename_i x t hx ht
     rw[ev1 x _ (by rw[hx];simp)]
    ·rfl
   all_goals first
    |rw[ha]
    |split
     ·rename_i x t hx ht
      rw[ev1 x _ (by rw[hx];simp)]
     ·rfl
 |_=>simp[VE]at hp1

theorem Zdx {fr fr':Fr D} {ty:Nat} {π:List (Ans D)} {op:Op} (hp1:Z0p op π=true) (h:∀t,Operand.tmp t∈op.operands.toList→ZL fr t=ZL fr' t):
  opD P U fr hp ty π op=opD P U fr' hp ty π op:=by
 unfold opD;unfold Z0p at hp1
 cases hpa:U4 op π with
 |false=>rw[hpa]at hp1;exact Zdw hp1 h
 |true=>
  have ev:∀x ty,x∈op.operands.toList→Zv P fr ty x=Zv P fr' ty x:=fun x ty hx=>UF (fun t e=>h t (e ▸hx)) ty
  cases op with
  |call c=>
   obtain⟨callee,args,tys⟩:=c
   have ev1:∀x ty,x∈args.toList→Zv P fr ty x=Zv P fr' ty x:=fun x ty hx=>ev x ty (by simp only[Op.operands,Call.operands];simp at hx⊢;exact .inr hx)
   simp only[TP]
   generalize args.toList=as at *
   generalize tys.toList=ts at *
   rcases as with _|⟨x,_|⟨y,_|⟨z,r⟩⟩⟩ <;> rcases ts with _|⟨t,_|⟨t2,_|⟨t3,r2⟩⟩⟩ <;> (try rfl)
   rcases π with _|⟨q,π⟩
   ·rfl
   ·cases q <;> try rfl
    rename_i ids ob
    cases ob <;> try rfl
    simp only[ev1 x _ (by simp),ev1 y _ (by simp)]
  |_=>rfl

theorem Zdy {fr fr':Fr D} {ty:Nat} {π:List (Ans D)} {op:Op} (hm:Z0q op=true) (h:∀t,Operand.tmp t∈op.operands.toList→ZL fr t=ZL fr' t):
    opA P U fr hp ty π op=opA P U fr' hp ty π op:=by
  have ev:∀x ty,x∈op.operands.toList→Zv P fr ty x=Zv P fr' ty x:=fun x ty hx=>UF (fun t e=>h t (e ▸hx)) ty
  cases op with
  |call c=>
    obtain⟨callee,args,tys⟩:=c
    have ha:W6 P fr tys.toList args.toList=W6 P fr' tys.toList args.toList:=Z2b _ _ (fun t ht=>h t (by
      simp only[Op.operands,Call.operands];simp at ht⊢;exact .inr ht))
    have ev1:∀x ty,x∈args.toList→Zv P fr ty x=Zv P fr' ty x:=fun x ty hx=>ev x ty (by simp only[Op.operands,Call.operands];simp at hx⊢;exact .inr hx)
    cases callee with
    |value f=>simp only[opA];rw[ha,ev f _ (by simp[Op.operands,Call.operands])]
    |invoke r m=>simp[Z0q]at hm
    |builtin b=>
      cases b <;> try (simp[Z0q]at hm;done)
      all_goals
       simp only[opA]
       generalize args.toList=as at *
       generalize tys.toList=ts at *
       rcases as with _|⟨x,_|⟨y,_|⟨z,r⟩⟩⟩ <;> rcases ts with _|⟨t,_|⟨t2,_|⟨t3,r2⟩⟩⟩ <;> try rfl
       simp only[ev1 x _ (by simp),ev1 y _ (by simp)]
  |buildSlice t n parts=>
    simp only[opA]
    have:∀e,(parts.toList.map fun q=>(q.1,Zv P fr e q.2))=(parts.toList.map fun q=>(q.1,Zv P fr' e q.2)):=fun e=>by
      refine List.map_congr_left fun q hq=> ?_
      rw[ev q.2 _ (by simp only[Op.operands];simpa using ⟨q.1,by simpa using hq⟩)]
    simp only[this]
  |makeSlice t l c=>simp only[opA];rw[ev l _ (by simp[Op.operands]),ev c _ (by simp[Op.operands])]
  |_=>simp[Z0q]at hm

theorem Zdz {fr fr':Fr D} {ty:Nat} {π:List (Ans D)} {op:Op} (hm:Z29 op=true) (h:∀t,Operand.tmp t∈op.operands.toList→ZL fr t=ZL fr' t):
  opA P U fr hp ty π op=opA P U fr' hp ty π op:=by
 have ev:∀x ty,x∈op.operands.toList→Zv P fr ty x=Zv P fr' ty x:=fun x ty hx=>UF (fun t e=>h t (e ▸hx)) ty
 cases op with
 |store t p x=>simp only[opA];rw[ev p _ (by simp[Op.operands]),ev x _ (by simp[Op.operands])]
 |_=>simp[Z29]at hm

theorem ZdA {fr:Fr D} {ty:Nat} {π:List (Ans D)} {op:Op} {r:Res D} (hp1:VE op π=true) (h:Yj P U fr hp ty π op=some r):r.hp=hp:=by
 have ldh:∀t p,Z0f P U hp t π p=some r→r.hp=hp:=by
  intro t p h
  unfold Z0f at h
  (repeat' split at h) <;> first|(cases h;done)|(cases h;rfl)
 have slh:∀x lo hi mx,Z1S P U hp x lo hi mx π=some r→r.hp=hp:=by
  intro x lo hi mx h
  unfold Z1S Z4j Z4i at h
  (repeat' split at h) <;> first|(cases h;done)|(cases h;rfl)
 cases op with
 |buildSlice t n parts=>
  simp only[Yj]at h
  split at h
  case h_2=>cases h
  split at h
  case h_2=>cases h
  split at h
  case h_2=>cases h
  split at h
  case h_2=>cases h
  split at h
  case h_2=>cases h
  injection h with h;subst h;rfl
 |load t x=>exact ldh _ _ h
 |slice t x lo hi mx=>
  simp only[Yj,opA]at h
  split at h
  ·exact slh _ _ _ _ h
  ·unfold sliceB at h
   (repeat' split at h) <;> first|(cases h;done)|(cases h;rfl)
  ·split at h
   ·unfold Z4k at h
    (repeat' split at h) <;> first|(cases h;done)|(cases h;rfl)
   ·cases h
  ·cases h
 |index=>simp only[Yj,opA,Z4q]at h;(repeat' split at h) <;> first|(cases h;done)|(cases h;rfl)
 |binOp op xt x y yt=>
  simp only[Yj,opA]at h
  split at h
  ·unfold Z4e at h
   (repeat' split at h) <;> first|(cases h;done)|(cases h;rfl)
  ·unfold Z4f at h
   (repeat' split at h) <;> first|(cases h;done)|(cases h;rfl)
 |call c=>
  obtain⟨callee,args,tys⟩:=c
  cases callee with
  |value f=>
   cases π with
   |nil=>simp[VE]at hp1
   |cons q π=>
    cases q <;> try (simp[VE]at hp1;done)
    ·simp only[Yj,opA,Z4h,Z1R,Z0i,Z0h]at h
     (repeat' split at h) <;> first|(cases h;done)|(cases h;rfl)
    ·rename_i ids r0
     cases ids with
     |cons i r=>simp[VE]at hp1
     |nil=>
      simp only[Yj,opA,Z4h,Z1R,Z0i,Z0h]at h
      (repeat' split at h) <;> first|(cases h;done)|(cases h;rfl)
  |invoke r m=>simp[Yj,opA]at h
  |builtin b=>
   cases b <;> simp only[Yj,opA,Z4m]at h <;> try (simp[VE]at hp1;done)
   all_goals (repeat' split at h) <;> first|(cases h;done)|(cases h;rfl)|((repeat' split at h) <;> first|(cases h;done)|(cases h;rfl))
 |assign x=>simp only[Yj]at h;injection h with h;subst h;rfl
 |move x=>simp only[Yj,opA]at h;injection h with h;subst h;rfl
 |makeFunc=>simp only[Yj,opA]at h;injection h with h;subst h;rfl
 |pick=>simp only[Yj,opA]at h;(repeat' split at h) <;> first|(cases h;done)|(cases h;rfl)
 |fieldAddr=>simp only[Yj,opA]at h;(repeat' split at h) <;> first|(cases h;done)|(cases h;rfl)
 |indexAddr=>simp only[Yj,opA,Z4p]at h;(repeat' split at h) <;> first|(cases h;done)|(cases h;rfl)
 |unOp=>simp only[Yj,opA]at h;(repeat' split at h) <;> first|(cases h;done)|(cases h;rfl)
 |convert=>simp only[Yj,opA,Z4l]at h;(repeat' split at h) <;> first|(cases h;done)|(cases h;rfl)
 |extract=>simp only[Yj,opA]at h;(repeat' split at h) <;> first|(cases h;done)|(cases h;rfl)
 |nilCheck=>simp only[Yj,opA]at h;(repeat' split at h) <;> first|(cases h;done)|(cases h;rfl)
 |build=>simp only[Yj,opA]at h;(repeat' split at h) <;> first|(cases h;done)|(cases h;rfl)
 |_=>simp[VE]at hp1

theorem ZdB {fr:Fr D} {ty:Nat} {π:List (Ans D)} {op:Op} {r:Res D} (hp1:Z0p op π=true) (h:opD P U fr hp ty π op=some r):r.hp=hp:=by
 unfold opD at h;unfold Z0p at hp1
 cases hpa:U4 op π with
 |false=>rw[hpa]at hp1 h;exact ZdA hp1 h
 |true=>
  rw[hpa]at h
  cases op with
  |call c=>simp only[TP]at h;(repeat' split at h) <;> first|(cases h;done)|(cases h;rfl)
  |buildSlice t n parts=>simp only[TP]at h;(repeat' split at h) <;> first|(cases h;done)|(cases h;rfl)
  |_=>simp[U4]at hpa

theorem ZdC {d:Nat} :∀(l:List Oper),(l.filterMap (·.dst)).Nodup→∀(a b:Nat) oa ob,l[a]?=some oa→l[b]?=some ob→oa.dst=some d→ob.dst=some d→a=b:=by
 intro l
 induction l with
 |nil=>intro _ a b oa ob h;simp at h
 |cons x r ihl=>
  intro hn a b oa ob ha hb hda hdb
  cases hxd:x.dst with
  |none=>
   rw[List.filterMap_cons,hxd]at hn
   cases a with
   |zero=>simp at ha;subst ha;rw[hxd]at hda;cases hda
   |succ a=>
    cases b with
    |zero=>simp at hb;subst hb;rw[hxd]at hdb;cases hdb
    |succ b=>rw[ihl hn a b oa ob (by simpa using ha) (by simpa using hb) hda hdb]
  |some dx=>
   rw[List.filterMap_cons,hxd]at hn
   rw[List.nodup_cons]at hn
   have nin:∀(c:Nat) oc,r[c]?=some oc→oc.dst=some dx→False:=fun c oc hc hdc=>hn.1 (List.mem_filterMap.2 ⟨oc,List.mem_of_getElem? hc,hdc⟩)
   cases a with
   |zero=>
    simp at ha;subst ha
    cases b with
    |zero=>rfl
    |succ b=>rw[hxd]at hda;injection hda with hda;subst hda;exact(nin b ob (by simpa using hb) hdb).elim
   |succ a=>
    cases b with
    |zero=>simp at hb;subst hb;rw[hxd]at hdb;injection hdb with hdb;subst hdb;exact(nin a oa (by simpa using ha) hda).elim
    |succ b=>rw[ihl hn.2 a b oa ob (by simpa using ha) (by simpa using hb) hda hdb]

def Z9h (P:Program) (U:Zu D) (all:List Oper) (H:List (Z3 D)) (mj ms:List Nat) (i:Nat) (o:Oper) (d:Nat) (fr F:Fr D) (al:List (Nat×Nat×AV D)):Prop:=
 (∃π π' ps e z,Z6O P U fr o.type π o.op=some (ps,e,z,π')∧ZD ps∧o.guard=none∧(d,e,z)∈al∧ZL F d= .un∧mj.contains i=false)∨
 (∃π1 ps fr1 v,(∃π,WH fr all π o.guard=some (ps,true,fr1,π1))∧ZD ps∧Z0p o.op π1=true∧(∀j,loR ms mj i≤j→j≤hiR ms mj i→∃r,opD P U fr1 (Hk H j) o.type π1 o.op=some r∧ZD r.obl∧r.val=v)∧FLe v (ZL F d)∧(∀x∈al,x.1≠d)∧mj.contains i=false)∨
 (∃π π1 ps fr1,WH fr all π o.guard=some (ps,false,fr1,π1)∧ZD ps∧FLe (.v (.tuple #[])) (ZL F d)∧(∀x∈al,x.1≠d)∧mj.contains i=false)∨
 (∃π1 ps fr1 r,(∃π,WH fr all π o.guard=some (ps,true,fr1,π1))∧ZD ps∧Z0q o.op=true∧opA P U fr1 (Hk H (loR ms mj i)) o.type π1 o.op=some r∧ZD r.obl∧r.hp=Hk H (loR ms mj i+1)∧hiR ms mj i=loR ms mj i∧FLe r.val (ZL F d)∧(∀x∈al,x.1≠d)∧mj.contains i=true)

def Z6T (P:Program) (U:Zu D) (N:Nat) (all:List Oper) (H:List (Z3 D)) (mj ms:List Nat) (i:Nat) (o:Oper) (fr F:Fr D) (al:Z28 D):Prop:=
 (∃d,o.dst=some d∧d<N∧Z9h P U all H mj ms i o d fr F al.1)∨
 (o.dst=none∧o.guard=none∧mj.contains i=false∧∃t d x k,o.op= .store t (.tmp d) x∧ZT P t=some k∧k=(ZH (Zv P fr t x)).length∧(ZH (Zv P fr t x)).all XP=true∧(i,d,Zv P fr t x)∈al.2)∨
 (o.dst=none∧o.guard=none∧mj.contains i=true∧Z29 o.op=true∧∃π1 r,opA P U fr (Hk H (loR ms mj i)) o.type π1 o.op=some r∧ZD r.obl∧r.hp=Hk H (loR ms mj i+1)∧hiR ms mj i=loR ms mj i)

theorem Z2c {all:List Oper} {H:List (Z3 D)} {mj ms:List Nat} :∀(l:List Oper) (k b:Nat) (fr F:Fr D) (π π':List (Ans D)) (ps:List Prop) (al:Z28 D),pass P U N all H mj ms k b l fr π=some (ps,F,al,π')→ZD ps→
  X4 (l.filterMap (·.dst))=true→
  (∀t,(∀o∈l,o.dst≠some t)→FLe (ZL fr t) (ZL F t))∧(∀q∈al.1,∃o∈l,o.dst=some q.1)∧(∀s∈al.2,∃(i:Nat) (o:Oper),l[i]?=some o∧s.1=b+i∧o.dst=none∧∃t x,o.op= .store t (.tmp s.2.1) x)∧
  (∀(i:Nat) o,l[i]?=some o→∃fr',Z6T P U N all H mj ms (b+i) o fr' F al∧(∀t,(∀j o',l[j]?=some o'→i≤j→o'.dst≠some t)→FLe (ZL fr' t) (ZL F t))∧(∀t,(∀j o',l[j]?=some o'→j<i→o'.dst≠some t)→FLe (ZL fr t) (ZL fr' t)))
 | [],k,b,fr,F,π,π',ps,al,h,_,_=>by
  simp only[pass,Option.some.injEq,Prod.mk.injEq]at h
  obtain⟨_,rfl,rfl,_⟩:=h
  exact⟨fun t _=> .refl _,fun q h=>(by cases h),fun q h=>(by cases h),fun i o h=>(by simp at h)⟩
 |o::l,k,b,fr,F,π,π',ps,al,h,hps,hnd=>by
  simp only[pass]at h
  split at h
  ·-- a store
   rename_i hd
   rw[List.filterMap_cons,hd]at hnd
   split at h
   ·-- it changes own objects
    rename_i hmi
    split at h
    case h_2=>cases h
    rename_i r hst hg hop hlo hhi
    split at h
    case h_2=>cases h
    rename_i qs F' al2 π2 hrest
    simp only[Option.some.injEq,Prod.mk.injEq]at h
    obtain⟨rfl,rfl,rfl,_⟩:=h
    obtain⟨o1,hps⟩:=hps
    rw[YG]at hps
    obtain⟨g1,g2,g3,g4⟩:=Z2c l (k+1) (b+1) _ _ _ _ _ _ hrest hps.2 hnd
    have gt:∀t,(∀o'∈o::l,o'.dst≠some t)→FLe (ZL fr t) (ZL F' t):=fun t ht=>g1 t (fun o' ho'=>ht o' (by simp[ho']))
    have hlo:=Nat.eq_of_beq_eq_true hlo
    have hhi:=Nat.eq_of_beq_eq_true hhi
    refine⟨gt,fun q hq=> ?_,fun s hs=> ?_,fun i o' ho'=> ?_⟩
    ·obtain⟨o',ho',e⟩:=g2 q hq;exact⟨o',by simp[ho'],e⟩
    ·obtain⟨i,o',h1,h2,h3⟩:=g3 s hs
     exact⟨i+1,o',by simpa using h1,by omega,h3⟩
    ·cases i with
     |zero=>
      simp at ho';subst ho'
      refine⟨fr, .inr (.inr ⟨hd,hg,hmi,hst,π,r,by rw[Nat.add_zero,hlo];exact hop,hps.1,by rw[Nat.add_zero b,hlo];exact o1,by rw[Nat.add_zero,hlo,hhi]⟩),fun t ht=>gt t (fun o' ho'=> ?_),fun t _=> .refl _⟩
      obtain⟨j,hj⟩:=List.mem_iff_getElem?.1 ho'
      exact ht j o' hj (Nat.zero_le _)
     |succ i=>
      obtain⟨fr',h1,h4,h5⟩:=g4 i o' (by simpa using ho')
      refine⟨fr', ?_,fun t ht=>h4 t (fun j o'' hj hij=>ht (j+1) o'' (by simpa using hj) (by omega)),fun t ht=>h5 t (fun j o'' hj hij=>ht (j+1) o'' (by simpa using hj) (by omega))⟩
      rw[show b+(i+1)=b+1+i from by omega]
      exact h1
   rename_i hmi
   split at h
   case h_2=>cases h
   rename_i d x hst hg
   split at h
   case h_2=>cases h
   rename_i qs F' al2 π2 hrest
   simp only[Option.some.injEq,Prod.mk.injEq]at h
   obtain⟨rfl,rfl,rfl,_⟩:=h
   obtain⟨g1,g2,g3,g4⟩:=Z2c l k (b+1) _ _ _ _ _ _ hrest hps hnd
   have gt:∀t,(∀o'∈o::l,o'.dst≠some t)→FLe (ZL fr t) (ZL F' t):=fun t ht=>g1 t (fun o' ho'=>ht o' (by simp[ho']))
   unfold Z9b at hst
   split at hst
   case h_2=>cases hst
   rename_i t d0 x0 hop
   split at hst
   case h_2=>cases hst
   rename_i kk hk
   split at hst
   case h_2=>cases hst
   rename_i hkl hok
   simp only[Option.some.injEq,Prod.mk.injEq]at hst
   obtain⟨rfl,rfl⟩:=hst
   refine⟨gt,fun q hq=> ?_,fun s hs=> ?_,fun i o' ho'=> ?_⟩
   ·obtain⟨o',ho',e⟩:=g2 q hq;exact⟨o',by simp[ho'],e⟩
   ·rcases List.mem_cons.1 hs with rfl|hs
    ·exact⟨0,o,rfl,rfl,hd,_,_,hop⟩
    ·obtain⟨i,o',h1,h2,h3⟩:=g3 s hs
     exact⟨i+1,o',by simpa using h1,by omega,h3⟩
   ·cases i with
    |zero=>
     simp at ho';subst ho'
     refine⟨fr, .inr (.inl ⟨hd,hg,hmi,t,d0,x0,kk,hop,hk,Nat.eq_of_beq_eq_true hkl,hok,by simp⟩),fun t ht=>gt t (fun o' ho'=> ?_),fun t _=> .refl _⟩
     obtain⟨j,hj⟩:=List.mem_iff_getElem?.1 ho'
     exact ht j o' hj (Nat.zero_le _)
    |succ i=>
     obtain⟨fr',h1,h4,h5⟩:=g4 i o' (by simpa using ho')
     refine⟨fr', ?_,fun t ht=>h4 t (fun j o'' hj hij=>ht (j+1) o'' (by simpa using hj) (by omega)),fun t ht=>h5 t (fun j o'' hj hij=>ht (j+1) o'' (by simpa using hj) (by omega))⟩
     rw[show b+(i+1)=b+1+i from by omega]
     rcases h1 with h1|h1|h1
     case inr.inr=>exact .inr (.inr h1)
     case inl=>exact .inl h1
     obtain⟨a1,a2,a0,t1,d1,x1,k1,a3,a4,a5,a6,a7⟩:=h1
     exact .inr (.inl ⟨a1,a2,a0,t1,d1,x1,k1,a3,a4,a5,a6,by simp[a7]⟩)
  rename_i d hd
  have hnd2:X4 (l.filterMap (·.dst))=true∧∀o'∈l,o'.dst≠some d:=by
   rw[List.filterMap_cons,hd]at hnd
   simp only[X4,Bool.and_eq_true,Bool.not_eq_true']at hnd
   refine⟨hnd.2,fun o' ho' e=> ?_⟩
   have hm:d∈l.filterMap (·.dst):=List.mem_filterMap.2 ⟨o',ho',e⟩
   have h1:=hnd.1
   rw[List.contains_eq_mem]at h1
   simp at h1
   exact h1 o' ho' e
  split at h
  ·cases h
  rename_i hdN
  have hdN:d<N:=Nat.le_of_ble_eq_true hdN
  -- one step
  have step:∀(k2:Nat) (fr1:Fr D) (v:AV D) (π2:List (Ans D)) (qs:List Prop) (F':Fr D) (al2 al3:Z28 D) (π3:List (Ans D)),(∀t,FLe (ZL fr t) (ZL fr1 t))→pass P U N all H mj ms k2 (b+1) l ((d,v)::fr1) π2=some (qs,F',al2,π3)→ZD qs→F'=F→al=al3→al3.2=al2.2→(∀q∈al2.1,q∈al3.1)→(∀q∈al3.1,q∈al2.1∨q.1=d)→
    ((FLe v (ZL F d))→(∀x∈al2.1,x.1≠d)→Z9h P U all H mj ms b o d fr F al.1)→
    (∀t,(∀o'∈o::l,o'.dst≠some t)→FLe (ZL fr t) (ZL F t))∧(∀q∈al.1,∃o'∈o::l,o'.dst=some q.1)∧(∀s∈al.2,∃(i:Nat) (o':Oper),(o::l)[i]?=some o'∧s.1=b+i∧o'.dst=none∧∃t x,o'.op= .store t (.tmp s.2.1) x)∧
    (∀(i:Nat) o',(o::l)[i]?=some o'→∃fr',Z6T P U N all H mj ms (b+i) o' fr' F al∧(∀t,(∀j o'',(o::l)[j]?=some o''→i≤j→o''.dst≠some t)→FLe (ZL fr' t) (ZL F t))∧(∀t,(∀j o'',(o::l)[j]?=some o''→j<i→o''.dst≠some t)→FLe (ZL fr t) (ZL fr' t))):=by
   intro k2 fr1 v π2 qs F' al2 al3 π3 hle hpass hqs hF hal hal2 hsub hsup hfact
   subst hF;subst hal
   obtain⟨g1,g2,g2',g3⟩:=Z2c l _ _ _ _ _ _ _ _ hpass hqs hnd2.1
   have hFd:FLe v (ZL F' d):=by
    have:=g1 d (fun o' ho'=>hnd2.2 o' ho')
    simpa[ZL]using this
   have gt:∀t,(∀o'∈o::l,o'.dst≠some t)→FLe (ZL fr t) (ZL F' t):=by
    intro t ht
    have h1:=g1 t (fun o' ho'=>ht o' (by simp[ho']))
    have hne:d≠t:=fun e=>ht o (by simp) (by rw[hd,e])
    have h2:ZL ((d,v)::fr1) t=ZL fr1 t:=by
     simp only[ZL]
     split
     ·rename_i hb;exact absurd (Nat.eq_of_beq_eq_true hb) hne
     ·rfl
    rw[h2]at h1
    exact(hle t).trans h1
   have nod:∀x∈al2.1,x.1≠d:=fun x hx e=>by
    obtain⟨o',ho',e2⟩:=g2 x hx
    exact hnd2.2 o' ho' (by rw[e2,e])
   refine⟨gt,fun q hq=> ?_,fun s hs=> ?_,fun i o' ho'=> ?_⟩
   ·rcases hsup q hq with h|h
    ·obtain⟨o',ho',e⟩:=g2 q h;exact⟨o',by simp[ho'],e⟩
    ·exact⟨o,by simp,by rw[hd,h]⟩
   ·rw[hal2]at hs
    obtain⟨i,o',h1,h2,h3⟩:=g2' s hs
    exact⟨i+1,o',by simpa using h1,by omega,h3⟩
   ·cases i with
    |zero=>
     simp at ho';subst ho'
     refine⟨fr, .inl ⟨d,hd,hdN,hfact hFd nod⟩,fun t ht=>gt t (fun o' ho'=> ?_),fun t _=> .refl _⟩
     obtain⟨j,hj⟩:=List.mem_iff_getElem?.1 ho'
     exact ht j o' hj (Nat.zero_le _)
    |succ i=>
     obtain⟨fr',h3,h4,h5⟩:=g3 i o' (by simpa using ho')
     refine⟨fr', ?_,fun t ht=>h4 t (fun j o'' hj hij=>ht (j+1) o'' (by simpa using hj) (by omega)),fun t ht=> ?_⟩
     case refine_2=>
      have hne:d≠t:=fun e=>ht 0 o rfl (by omega) (by rw[hd,e])
      have h6:=h5 t (fun j o'' hj hij=>ht (j+1) o'' (by simpa using hj) (by omega))
      have h7:ZL ((d,v)::fr1) t=ZL fr1 t:=by
       simp only[ZL]
       split
       ·rename_i hb;exact absurd (Nat.eq_of_beq_eq_true hb) hne
       ·rfl
      rw[h7]at h6
      exact(hle t).trans h6
     rw[show b+(i+1)=b+1+i from by omega]
     rcases h3 with⟨d',h1,h2,h3⟩|⟨a1,a2,a0,t1,d1,x1,k1,a3,a4,a5,a6,a7⟩|h3
     case inr.inl=>exact .inr (.inl ⟨a1,a2,a0,t1,d1,x1,k1,a3,a4,a5,a6,by rw[hal2];exact a7⟩)
     case inr.inr=>exact .inr (.inr h3)
     refine .inl ⟨d',h1,h2, ?_⟩
     have hdd:d'≠d:=fun e=>by
      refine hnd2.2 o' (List.mem_of_getElem? (l:=l) (i:=i) (by simpa using ho')) (by rw[h1,e])
     have up:(∀x∈al2.1,x.1≠d')→∀x∈al.1,x.1≠d':=fun h x hx=>by
      rcases hsup x hx with h'|h'
      ·exact h x h'
      ·rw[h'];exact fun e=>hdd e.symm
     rcases h3 with⟨πa,πb,psa,e,z,k1,k0,k2,k3,k4,k5⟩|⟨π5,ps4,fr4,v4,k1,k2,k3,k4,k5,k6,k7⟩|⟨π4,π5,ps4,fr4,k1,k2,k3,k4,k5⟩|⟨π5,ps4,fr4,r4,k1,k2,k3,k4,k5,k6,k7,k8,k9,k10⟩
     ·exact .inl ⟨πa,πb,psa,e,z,k1,k0,k2,hsub _ k3,k4,k5⟩
     ·exact .inr (.inl ⟨π5,ps4,fr4,v4,k1,k2,k3,k4,k5,up k6,k7⟩)
     ·exact .inr (.inr (.inl ⟨π4,π5,ps4,fr4,k1,k2,k3,up k4,k5⟩))
     ·exact .inr (.inr (.inr ⟨π5,ps4,fr4,r4,k1,k2,k3,k4,k5,k6,k7,k8,up k9,k10⟩))
  split at h
  ·rename_i psa e z π1 hal hg hmi
   split at h
   case h_2=>cases h
   rename_i qs F' al2 π2 hrest
   simp only[Option.some.injEq,Prod.mk.injEq]at h
   obtain⟨rfl,rfl,rfl,_⟩:=h
   rw[YG]at hps
   exact step k fr .un π1 qs F' al2 _ π2 (fun t=> .refl _) hrest hps.2 rfl rfl rfl (fun q hq=>by simp[hq]) (fun q hq=>by simp at hq;rcases hq with rfl|hq;exact .inr rfl;exact .inl hq) (fun hf _=> .inl ⟨π,π1,psa,e,z,hal,hps.1,hg,by simp,(by rcases hf with h|⟨b,h,_⟩;exact h;cases h),hmi⟩)
  ·split at h
   ·cases h
   ·rename_i ps1 fr1 π1 hg
    split at h
    ·rename_i hmi
     split at h
     case h_2=>cases h
     rename_i r hpu hop
     split at h
     case h_2=>cases h
     rename_i q1 q2 hr1 hr2
     split at h
     case h_2=>cases h
     rename_i qs F' al2 π2 hrest
     simp only[Option.some.injEq,Prod.mk.injEq]at h
     obtain⟨rfl,rfl,rfl,_⟩:=h
     rw[YG,YG,YG,YG]at hps
     obtain⟨o1,o2,o3,o4,o5⟩:=hps
     refine step k fr1 r.val r.pi qs F' al2 _ π2 (Z6S hg o1) hrest o5 rfl rfl rfl (fun q hq=>hq) (fun q hq=> .inl hq) (fun hf nd=> .inr (.inl ⟨π1,ps1,fr1,r.val,⟨π,hg⟩,o1,hpu,fun j hj1 hj2=> ?_,hf,nd,hmi⟩))
     rcases Nat.lt_trichotomy j k with hj|hj|hj
     ·exact Z6Q _ _ _ hr1 o3 j hj1 (by omega)
     ·subst hj;exact⟨r,hop,o2,rfl⟩
     ·exact Z6Q _ _ _ hr2 o4 j hj (by omega)
    ·rename_i hmi
     split at h
     case h_2=>cases h
     rename_i r hmo hop hlo hhi
     split at h
     case h_2=>cases h
     rename_i qs F' al2 π2 hrest
     simp only[Option.some.injEq,Prod.mk.injEq]at h
     obtain⟨rfl,rfl,rfl,_⟩:=h
     rw[YG]at hps
     obtain⟨o1,o2,o3⟩:=hps
     rw[YG]at o3
     have hlo:=Nat.eq_of_beq_eq_true hlo
     have hhi:=Nat.eq_of_beq_eq_true hhi
     exact step (k+1) fr1 r.val r.pi qs F' al2 _ π2 (Z6S hg o1) hrest o3.2 rfl rfl rfl (fun q hq=>hq) (fun q hq=> .inl hq) (fun hf nd=> .inr (.inr (.inr ⟨π1,ps1,fr1,r,⟨π,hg⟩,o1,hmo,by rw[hlo];exact hop,o3.1,by rw[hlo];exact o2,by rw[hlo,hhi],hf,nd,hmi⟩)))
   ·rename_i ps1 fr1 π1 hg
    split at h
    ·cases h
    rename_i hmi
    split at h
    case h_2=>cases h
    rename_i qs F' al2 π2 hrest
    simp only[Option.some.injEq,Prod.mk.injEq]at h
    obtain⟨rfl,rfl,rfl,_⟩:=h
    rw[YG]at hps
    exact step k fr1 (.v (.tuple #[])) π1 qs F' al2 _ π2 (Z6S hg hps.1) hrest hps.2 rfl rfl rfl (fun q hq=>hq) (fun q hq=> .inl hq) (fun hf nd=> .inr (.inr (.inl ⟨π,π1,ps1,fr1,hg,hps.1,hf,nd,hmi⟩)))

theorem TQ {all:List Oper} {H:List (Z3 D)} {mj ms:List Nat} :∀(l:List Oper) (k b:Nat) (fr F:Fr D) (π π':List (Ans D)) (ps:List Prop) (al:Z28 D),pass P U N all H mj ms k b l fr π=some (ps,F,al,π')→
  (al.1.map (·.1)).Sublist (l.filterMap (·.dst))
 | [],k,b,fr,F,π,π',ps,al,h=>by
  simp only[pass,Option.some.injEq,Prod.mk.injEq]at h
  obtain⟨_,_,rfl,_⟩:=h
  simp
 |o::l,k,b,fr,F,π,π',ps,al,h=>by
  simp only[pass]at h
  split at h
  ·rename_i hd
   rw[List.filterMap_cons,hd]
   split at h
   ·split at h
    case h_2=>cases h
    split at h
    case h_2=>cases h
    rename_i hrest
    simp only[Option.some.injEq,Prod.mk.injEq]at h
    obtain⟨_,_,rfl,_⟩:=h
    have h0:=TQ l _ _ _ _ _ _ _ _ hrest
    exact h0
   split at h
   case h_2=>cases h
   split at h
   case h_2=>cases h
   rename_i hrest
   simp only[Option.some.injEq,Prod.mk.injEq]at h
   obtain⟨_,_,rfl,_⟩:=h
   have h0:=TQ l _ _ _ _ _ _ _ _ hrest
   exact h0
  rename_i d hd
  rw[List.filterMap_cons,hd]
  split at h
  ·cases h
  split at h
  ·split at h
   case h_2=>cases h
   rename_i hrest
   simp only[Option.some.injEq,Prod.mk.injEq]at h
   obtain⟨_,_,rfl,_⟩:=h
   simp only[List.map_cons]
   exact(TQ l _ _ _ _ _ _ _ _ hrest).cons_cons _
  ·split at h
   ·cases h
   ·split at h
    ·split at h
     case h_2=>cases h
     split at h
     case h_2=>cases h
     split at h
     case h_2=>cases h
     rename_i hrest
     simp only[Option.some.injEq,Prod.mk.injEq]at h
     obtain⟨_,_,rfl,_⟩:=h
     exact(TQ l _ _ _ _ _ _ _ _ hrest).cons _
    ·split at h
     case h_2=>cases h
     split at h
     case h_2=>cases h
     rename_i hrest
     simp only[Option.some.injEq,Prod.mk.injEq]at h
     obtain⟨_,_,rfl,_⟩:=h
     exact(TQ l _ _ _ _ _ _ _ _ hrest).cons _
   ·split at h
    ·cases h
    split at h
    case h_2=>cases h
    rename_i hrest
    simp only[Option.some.injEq,Prod.mk.injEq]at h
    obtain⟨_,_,rfl,_⟩:=h
    exact(TQ l _ _ _ _ _ _ _ _ hrest).cons _

theorem Z6U {l:List Nat} :X4 l=true↔l.Nodup:=by
 induction l with
 |nil=>simp[X4]
 |cons a r ih=>simp[X4,ih,List.contains_eq_mem]

theorem Z9i (hi:Inv U w E hp) (ob:Obj) (hfz:∀a,({ w with heap:=w.heap.push ob } :World).frozen? a=w.frozen? a):Inv U { w with heap:=w.heap.push ob } E hp∧Zg U w E hp { w with heap:=w.heap.push ob } E hp:=by
 have hs:Zg U w E hp { w with heap:=w.heap.push ob } E hp:=
  ⟨rfl,rfl,rfl,fun q _ _=>hfz q,by simp,fun b hb _=>WX hb,fun _ _ h=>h,fun _ h=>h,fun _ h=> .inl h,Evo.refl U E hp⟩
 refine⟨⟨fun id o ho=>(hi.obj id o ho).keep (fun b b0 cap hm hb=>WX (hi.kb ho hm hb)) (fun _ h=>h) (fun _ _ _ _ _ _ h=>h) (by simp) (fun x a h=>hs.rep hi h) (fun x a h=>hs.prep hi h),hi.inj,fun b hb=> ?_,hi.gl' hs⟩,hs⟩
 have:=hi.sb b hb
 simp;omega

theorem Z4J {listed:Array Bool} {i j:Nat} {x:Bool} (hi:i<listed.size):(listed.setIfInBounds i true).getD j x=if j=i then true else listed.getD j x:=by
 rw[Array.getD_eq_getD_getElem?,Array.getD_eq_getD_getElem?,Array.getElem?_setIfInBounds]
 by_cases h:i=j
 ·subst h;simp[hi]
 ·rw[if_neg h,if_neg (fun e=>h e.symm)]

theorem Z6V {ops:Array Oper} {q:Nat} {Q:Exit→Act→World→Prop} {hp':Z3 D} {fr':Fr D} {π':List (Ans D)}
  (h3:∀i o,q≤i→ops[i]?=some o→∀listed,Wf ops listed→(∀e∈o.after,Region.binds .any e=true→listed.getD e.on false=true)→∀j,j<i→listed.getD j false=true)
  (h4:∀(i:Nat) o,ops[i]?=some o→∀e∈o.after,Region.binds .any e=true→e.on<i):
  ∀(fuel p:Nat) (listed:Array Bool) (a:Act) (w:World) (E:Emb) (hp:Z3 D) (fr:Fr D) (π:List (Ans D)) (ps:List Prop),q≤p→p+fuel=ops.size→listed.size=ops.size→Wf ops listed→
   (∀j,j<p→listed.getD j false=true)→(∀j,p≤j→j<ops.size→listed.getD j true=false)→
   VA P U N ops.toList (ops.toList.drop p) fr hp π=some (ps,fr',hp',π')→ZD ps→Inv U w E hp→X8 U w E hp N a fr→
   (∀a' w' E',Inv U w' E' hp'→Zg U w E hp w' E' hp'→X8 U w' E' hp' N a' fr'→Q .normal a' w')→wpAny P .any ops Q fuel listed a w
 |0,p,listed,a,w,E,hp,fr,π,ps,hqp,hsz,hls,hcl,hlo,hhi,hrun,hps,hi,hf,hQ=>by
  have hd:ops.toList.drop p= []:=List.drop_eq_nil_of_le (by simp;omega)
  rw[hd]at hrun
  simp only[VA,Option.some.injEq,Prod.mk.injEq]at hrun
  obtain⟨_,rfl,rfl,_⟩:=hrun
  refine⟨?_,hQ a w E hi (Zg.refl ..) hf⟩
  rw[List.eq_nil_iff_forall_not_mem]
  intro i hr
  obtain⟨h1,o,ho,_⟩:=mem_ready.1 hr
  have hil:=(Array.getElem?_eq_some_iff.1 ho).1
  have:=hlo i (by omega)
  rw[Array.getD_eq_getD_getElem?]at h1 this
  cases hq:listed[i]? with
  |none=>rw[hq]at h1;simp at h1
  |some b=>rw[hq]at h1 this;simp at h1 this;rw[h1]at this;cases this
 |fuel+1,p,listed,a,w,E,hp,fr,π,ps,hqp,hsz,hls,hcl,hlo,hhi,hrun,hps,hi,hf,hQ=>by
  have hpl:p<ops.size:=by omega
  have hop:=Array.getElem?_eq_getElem hpl
  have hready:p∈Region.ready .any ops listed:=mem_ready.2 ⟨hhi p (Nat.le_refl _) hpl,_,hop,fun e he hb=>hlo e.on (h4 p _ hop e he hb)⟩
  have only:∀i∈Region.ready .any ops listed,i=p:=by
   intro i hr
   obtain⟨h1,o,ho,he⟩:=mem_ready.1 hr
   have hil:=(Array.getElem?_eq_some_iff.1 ho).1
   rcases Nat.lt_trichotomy i p with hlt|heq|hgt
   ·have:=hlo i hlt
    rw[Array.getD_eq_getD_getElem?]at h1 this
    cases hq:listed[i]? with
    |none=>rw[hq]at h1;simp at h1
    |some b=>rw[hq]at h1 this;simp at h1 this;rw[h1]at this;cases this
   ·exact heq
   ·have h5:=h3 i o (by omega) ho listed hcl he p hgt
    have h6:=hhi p (Nat.le_refl _) hpl
    rw[Array.getD_eq_getD_getElem?]at h5 h6
    cases hq:listed[p]? with
    |none=>rw[hq]at h5;simp at h5
    |some b=>rw[hq]at h5 h6;simp at h5 h6;rw[h5]at h6;cases h6
  refine⟨fun h=>(by rw[h]at hready;cases hready),fun i hr=> ?_⟩
  have:=only i hr
  subst this
  have hdrop:ops.toList.drop i=ops[i]::ops.toList.drop (i+1):=by
   rw[List.drop_eq_getElem_cons (by simpa using hpl)];simp
  rw[hdrop]at hrun
  have hcl':Wf ops (listed.setIfInBounds i true):=by
   intro j o ho hl e he hb
   rw[Z4J (by omega)]at hl⊢
   by_cases hej:e.on=i
   ·rw[if_pos hej]
   ·rw[if_neg hej]
    by_cases hji:j=i
    ·subst hji;rw[hop]at ho;injection ho with ho;subst ho
     exact hlo e.on (h4 j _ hop e he hb)
    ·rw[if_neg hji]at hl;exact hcl j o ho hl e he hb
  have hlo':∀j,j<i+1→(listed.setIfInBounds i true).getD j false=true:=fun j hj=>by
   rw[Z4J (by omega)]
   by_cases hji:j=i
   ·rw[if_pos hji]
   ·rw[if_neg hji];exact hlo j (by omega)
  have hhi':∀j,i+1≤j→j<ops.size→(listed.setIfInBounds i true).getD j true=false:=fun j hj hjs=>by
   rw[Z4J (by omega),if_neg (by omega)];exact hhi j (by omega) hjs
  simp only[VA]at hrun
  split at hrun
  ·cases hrun
  rename_i hd
  split at hrun
  ·cases hrun
  ·rename_i qs fr1 π1 hg
   split at hrun
   ·cases hrun
   rename_i r hr'
   split at hrun
   ·cases hrun
   rename_i rs fr2 hp2 π2 hrest
   simp only[Option.some.injEq,Prod.mk.injEq]at hrun
   obtain⟨rfl,rfl,rfl,rfl⟩:=hrun
   rw[YG,YG]at hps
   refine Z4H hop hi hf hd hg hps.1 (fun _=>⟨r,hr',hps.2.1,fun a' w' E' i1 s1 f1=> ?_⟩) (fun h=>by cases h)
   exact Z6V h3 h4 fuel (i+1) _ a' w' E' r.hp _ _ rs (by omega) (by omega) (by simp[hls]) hcl' hlo' hhi' hrest hps.2.2 i1 f1 (fun a2 w2 E2 i2 s2 f2=>hQ a2 w2 E2 i2 (s1.trans s2) f2)
  ·rename_i qs fr1 π1 hg
   split at hrun
   ·cases hrun
   rename_i rs fr2 hp2 π2 hrest
   simp only[Option.some.injEq,Prod.mk.injEq]at hrun
   obtain⟨rfl,rfl,rfl,rfl⟩:=hrun
   rw[YG]at hps
   refine Z4H hop hi hf hd hg hps.1 (fun h=>by cases h) (fun _ a' f1=> ?_)
   exact Z6V h3 h4 fuel (i+1) _ a' w E hp _ _ rs (by omega) (by omega) (by simp[hls]) hcl' hlo' hhi' hrest hps.2 hi f1 hQ

theorem ZdD {w0:World} {E0:Emb} {hp0:Z3 D} (hi:Inv U w E hp) (hs:Zg U w0 E0 hp0 w E hp) {b e:Nat} {c:List Value} (hB:w0.heap.size≤b) (hnS:¬E.S b) (hnO:¬Own E hp b) (c':List Value):
  Inv U (w.setRow b ⟨c'⟩) E hp∧Zg U w0 E0 hp0 (w.setRow b ⟨c'⟩) E hp∧(∀v x,Rep U w E hp v x→Rep U (w.setRow b ⟨c'⟩) E hp v x)∧(∀v x,ZE U w E.S v x→ZE U (w.setRow b ⟨c'⟩) E.S v x):=by
 have rp:∀v x,ZE U w E.S v x→ZE U (w.setRow b ⟨c'⟩) E.S v x:=fun v x h=>ZE.mono (fun _ h=>h) (fun b' hb'=>setRow_other w b b' _ (fun e=>hnS (e ▸hb'))) h
 have rr:∀v x,Rep U w E hp v x→Rep U (w.setRow b ⟨c'⟩) E hp v x:=fun v x h=>
  Rep.mono (w:=w) (w':=w.setRow b ⟨c'⟩) (E:=E) (E':=E) (hp:=hp) (fun _ h=>h) (fun b' hb'=>setRow_other w b b' _ (fun e=>hnS (e ▸hb'))) (Evo.refl U E hp) h
 refine⟨⟨fun id o ho=> ?_,hi.inj,fun k hk=>by have:=hi.sb k hk;simpa using this,fun g r hg=>rp _ _ (hi.gl g r hg)⟩,⟨hs.os,hs.tape,hs.output,fun q hq ho=>(Z8N w _ _ q).trans (hs.fz q hq ho),by have:=hs.size;simpa using this,fun k hk hn=> ?_,hs.own,hs.smono,hs.snew,hs.evo⟩,rr,rp⟩
 ·refine(hi.obj id o ho).keep (fun b' b0 cp hm' hbb=>setRow_other w b b' _ (fun e'=> ?_)) (fun _ h=>h) (fun _ _ _ _ _ _ h=>h) (by simp) rr rp
  subst e'
  cases hfj:o.fz with
  |true=>
   rcases hbb with rfl|⟨_,hbb⟩
   ·have:=hi.obj id o ho
    rw[hm']at this
    obtain⟨_,_,_,_,_,g1,_⟩:=this
    exact hnS (g1 hfj)
   ·rw[hfj]at hbb;cases hbb
  |false=>exact hnO ⟨id,o,ho,hfj,b0,cp,hm',hbb.imp (fun h=>h) (·.1)⟩
 ·rw[setRow_other w b k _ (fun e=>by omega)]
  exact hs.keep k hk hn

def Xm (mj:List Nat) (listed:Array Bool):Nat:=WY mj fun j=>listed.getD j false
theorem Z6W {f g:Nat→Bool} :∀(l:List Nat),(∀j∈l,f j=true→g j=true)→WY l f≤WY l g
 | [],_=>Nat.le_refl _
 |x::r,h=>by
  have ih:=Z6W r (fun j hj=>h j (by simp[hj]))
  have hx:=h x (by simp)
  simp only[WY,List.filter_cons]at ih⊢
  cases hf:f x <;> cases hg:g x
  ·simpa using ih
  ·simp;omega
  ·rw[hx hf]at hg;cases hg
  ·simpa using ih
theorem Z9j {f:Nat→Bool} :∀(l:List Nat),(∀j∈l,f j=true)→WY l f=l.length
 | [],_=>rfl
 |x::r,h=>by
  have ih:=Z9j r (fun j hj=>h j (by simp[hj]))
  simp only[WY,List.filter_cons]at ih⊢
  rw[if_pos (h x (by simp))];simp[ih]
theorem Z9k {mj:List Nat} {listed:Array Bool} {i:Nat} (hm:mj.contains i=false) (hset:∀j x,(listed.setIfInBounds i true).getD j x=if j=i then true else listed.getD j x):Xm mj (listed.setIfInBounds i true)=Xm mj listed:=by
 unfold Xm WY
 congr 1
 refine List.filter_congr fun j hj=> ?_
 rw[hset,if_neg]
 intro e
 subst e
 rw[List.contains_eq_mem]at hm
 simp at hm
 exact hm hj
theorem Z6X {i:Nat} {listed:Array Bool} (hl:listed.getD i false=false) (hset:∀j x,(listed.setIfInBounds i true).getD j x=if j=i then true else listed.getD j x):∀(mj:List Nat),mj.Nodup→i∈mj→Xm mj (listed.setIfInBounds i true)=Xm mj listed+1
 | [],_,h=>by cases h
 |x::r,hn,h=>by
  rw[List.nodup_cons]at hn
  by_cases e:x=i
  ·subst e
   have h1:=Z9k (mj:=r) (by rw[List.contains_eq_mem];simpa using hn.1) hset
   simp only[Xm,WY,List.filter_cons]at h1⊢
   rw[hset,if_pos rfl,hl,if_pos rfl,if_neg Bool.false_ne_true,List.length_cons,h1]
  ·have ih:=Z6X hl hset r hn.2 (by rcases List.mem_cons.1 h with h|h;exact absurd h.symm e;exact h)
   simp only[Xm,WY,List.filter_cons]at ih⊢
   rw[hset,if_neg e]
   split
   ·rw[List.length_cons,List.length_cons,ih]
   ·exact ih

structure J (P:Program) (U:Zu D) (N:Nat) (ops:Array Oper) (q:Nat) (H:List (Z3 D)) (mj:List Nat) (F fr0:Fr D) (al sl:List (Nat×Nat×AV D)) (w0:World) (E0:Emb) (listed:Array Bool) (a:Act) (w:World) (E:Emb) (pb:Nat→Nat):Prop where
 inv:Inv U w E (Hk H (Xm mj listed))
 step:Zg U w0 E0 (Hk H 0) w E (Hk H (Xm mj listed))
 size:a.tmps.size=N
 defers:a.defers= []
 closed:Wf ops listed
 lsize:listed.size=ops.size
 slots:∀t,((∀o∈ops.toList.take q,o.dst≠some t)∨∃(i:Nat) (o:Oper),i<q∧ops[i]?=some o∧o.dst=some t∧listed.getD i false=true)→Rep U w E (Hk H (Xm mj listed)) (a.tmps.getD t undef) (ZL F t)
 pend:∀d e z,(d,e,z)∈al→(∃(i:Nat) (o:Oper),i<q∧ops[i]?=some o∧o.dst=some d∧listed.getD i false=true)→
  a.tmps.getD d undef=WJ (pb d) z∧w0.heap.size≤pb d∧(∃c:List Value,w.heap[pb d]?=some (.cells ⟨c⟩ e (0,0))∧Wn U w E (Hk H (Xm mj listed)) e c (Xa sl (fun j=>listed.getD j false) d z))∧¬E.S (pb d)∧¬Own E (Hk H (Xm mj listed)) (pb d)
 apart:∀d e z d' e' z',(d,e,z)∈al→(d',e',z')∈al→(∃(i:Nat) (o:Oper),i<q∧ops[i]?=some o∧o.dst=some d∧listed.getD i false=true)→
  (∃(i:Nat) (o:Oper),i<q∧ops[i]?=some o∧o.dst=some d'∧listed.getD i false=true)→pb d=pb d'→d=d'
 later:∀i,q≤i→i<ops.size→listed.getD i true=false
 olds:∀(t j:Nat) (o:Oper),j<q→ops[j]?=some o→o.dst=some t→listed.getD j false=false→Rep U w E (Hk H (Xm mj listed)) (a.tmps.getD t undef) (ZL fr0 t)

theorem Z9l {w0:World} {E0:Emb} {hp0:Z3 D} {pb:Nat→Nat} :∀(al:List (Nat×Nat×AV D)) (fr:Fr D) (hp:Z3 D) (E:Emb),Inv U w E hp→Zg U w0 E0 hp0 w E hp→XX U w E hp a fr→(al.map (·.1)).Nodup→
  (∀d e z,(d,e,z)∈al→a.tmps.getD d undef=WJ (pb d) z∧w0.heap.size≤pb d∧(∃c:List Value,w.heap[pb d]?=some (.cells ⟨c⟩ e (0,0))∧Wn U w E hp e c z)∧¬E.S (pb d)∧¬Own E hp (pb d))→
  (∀d e z d' e' z',(d,e,z)∈al→(d',e',z')∈al→pb d=pb d'→d=d')→
  ∃E',Inv U w E' (Vg al fr hp).2∧Zg U w0 E0 hp0 w E' (Vg al fr hp).2∧XX U w E' (Vg al fr hp).2 a (Vg al fr hp).1
 | [],fr,hp,E,hi,hs,hf,_,_,_=>⟨E,hi,hs,hf⟩
 |(d,e,z)::r,fr,hp,E,hi,hs,hf,hnd,hp1,hap=>by
  obtain⟨h1,h2,⟨c,h3,h4⟩,h5,h6⟩:=hp1 d e z (by simp)
  obtain⟨E',i1,r1,s1,o1,n1,rr,rp⟩:=Zdv hi hs h3 h4 h5 h6 h2
  simp only[List.map_cons,List.nodup_cons]at hnd
  simp only[Vg]
  refine Z9l r _ _ E' i1 s1 (fun t=> ?_) hnd.2 (fun d' e' z' hm=> ?_) (fun d1 e1 z1 d2 e2 z2 m1 m2=>hap d1 e1 z1 d2 e2 z2 (by simp[m1]) (by simp[m2]))
  ·simp only[ZL]
   split
   ·rename_i hb
    have:d=t:=Nat.eq_of_beq_eq_true hb
    subst this
    rw[h1];exact r1
   ·exact rr _ _ (hf t)
  ·obtain⟨k1,k2,⟨c',k3,k4⟩,k5,k6⟩:=hp1 d' e' z' (by simp[hm])
   have hne:pb d'≠pb d:=fun e0=>by
    have:=hap d' e' z' d e z (by simp[hm]) (by simp) e0
    subst this
    exact hnd.1 (List.mem_map.2 ⟨_,hm,rfl⟩)
   refine⟨k1,k2,⟨c',k3,k4.mono rr rp⟩,fun h=> ?_,fun h=> ?_⟩
   ·rcases n1 _ h with h|h|h
    ·exact k5 h
    ·exact k6 h
    ·have:=(Array.getElem?_eq_some_iff.1 k3).1;omega
   ·rcases o1 _ h with h|h
    ·exact k6 h
    ·exact hne h

theorem Z6Y {dst d:Nat} {v:Value} (hd:d<a.tmps.size) (t:Nat):(a.put (some d) v).tmps.getD t undef=if t=d then v else a.tmps.getD t undef:=by
 simp only[Act.put,Array.getD_eq_getD_getElem?,Array.getElem?_setIfInBounds]
 by_cases h:d=t
 ·subst h;simp[hd]
 ·rw[if_neg h,if_neg (fun e=>h e.symm)]

theorem Z6Z {fr fr1:Fr D} {all:List Oper} {o:Oper} {π π1:List (Ans D)} {ps:List Prop} {want:Bool} (h:WH fr all π o.guard=some (ps,want,fr1,π1)):
  ∃fr2,WH (rst (X9 all o) fr) all π o.guard=some (ps,want,fr2,π1)∧∀t,t∈X9 all o→ZL fr2 t=ZL fr1 t:=by
 have hl:∀t,t∈X9 all o→ZL (rst (X9 all o) fr) t=ZL fr t:=fun t ht=>by rw[Z0r,if_pos ht]
 unfold WH at h⊢
 split at h
 ·rename_i hg
  simp only[Option.some.injEq,Prod.mk.injEq]at h
  obtain⟨rfl,rfl,rfl,rfl⟩:=h
  exact⟨_,rfl,hl⟩
 ·rename_i j want' hg
  split at h
  case h_2=>cases h
  rename_i d hd
  have hdT:d∈X9 all o:=by simp[X9,hg,hd]
  rw[hl d hdT]
  split at h
  ·rename_i b hb
   simp only[Option.some.injEq,Prod.mk.injEq]at h
   obtain⟨rfl,rfl,rfl,rfl⟩:=h
   exact⟨_,rfl,hl⟩
  ·rename_i b hb
   split at h
   case h_2=>cases h
   rename_i c π'
   simp only[Option.some.injEq,Prod.mk.injEq]at h
   obtain⟨rfl,rfl,rfl,rfl⟩:=h
   refine⟨_,rfl,fun t ht=> ?_⟩
   simp only[ZL]
   split
   ·rfl
   ·exact hl t ht
  ·rename_i x hb
   simp only[Option.some.injEq,Prod.mk.injEq]at h
   obtain⟨rfl,rfl,rfl,rfl⟩:=h
   exact⟨_,rfl,hl⟩
  ·cases h

theorem ZdE {ops:Array Oper} {q:Nat} {Q:Exit→Act→World→Prop} {F fr0:Fr D} {al sl:List (Nat×Nat×AV D)} {w0:World} {E0:Emb} {H:List (Z3 D)} {mj ms:List Nat} (hq:q≤ops.size) (hmnd:mj.Nodup) (hmq:∀j∈mj,j<q)
  (hrange:∀(i:Nat) o,i<q→ops[i]?=some o→∀listed,Wf ops listed→(∀e∈o.after,Region.binds .any e=true→listed.getD e.on false=true)→listed.getD i false=false→loR ms mj i≤Xm mj listed∧Xm mj listed≤hiR ms mj i)
  (facts:∀(i:Nat) o,(ops.toList.take q)[i]?=some o→∃fr',Z6T P U N ops.toList H mj ms (0+i) o fr' F (al,sl)∧(∀t,(∀j o',(ops.toList.take q)[j]?=some o'→i≤j→o'.dst≠some t)→FLe (ZL fr' t) (ZL F t))∧(∀t,(∀j o',(ops.toList.take q)[j]?=some o'→j<i→o'.dst≠some t)→FLe (ZL fr0 t) (ZL fr' t)))
  (hnd:((ops.toList.take q).filterMap (·.dst)).Nodup) (halnd:(al.map (·.1)).Nodup) (hald:∀x∈al,∃o∈ops.toList.take q,o.dst=some x.1)
  (hsl:∀s∈sl,∃(i:Nat) (o:Oper),(ops.toList.take q)[i]?=some o∧s.1=0+i∧o.dst=none∧∃t x,o.op= .store t (.tmp s.2.1) x) (hslnd:(sl.map (·.2.1)).Nodup)
  (hslw:∀s∈sl,∀x∈al,x.1=s.2.1→(ZH x.2.2).length=(ZH s.2.2).length) (hslk:∀s∈sl,∀x∈al,x.1=s.2.1→wk x.2.2=none∧wk s.2.2=none) (hsla:∀s∈sl,∃x∈al,x.1=s.2.1) (hslm:∀s∈sl,mj.contains s.1=true→False)
  (h2:∀(i:Nat) o,i<q→ops[i]?=some o→∀t∈X9 ops.toList o,∀(j:Nat) o',j<q→ops[j]?=some o'→o'.dst=some t→(j<i∧∀listed,Wf ops listed→(∀e∈o.after,Region.binds .any e=true→listed.getD e.on false=true)→listed.getD j false=true)∨(o.dst≠none∧i<j∧∀listed,Wf ops listed→listed.getD i false=false→listed.getD j false=false))
  (h3:∀i o,q≤i→ops[i]?=some o→∀listed,Wf ops listed→(∀e∈o.after,Region.binds .any e=true→listed.getD e.on false=true)→∀j,j<i→listed.getD j false=true)
  (h4:∀(i:Nat) o,ops[i]?=some o→∀e∈o.after,Region.binds .any e=true→e.on<i)
  (htail:∀(listed:Array Bool) (a:Act) (w:World) (E:Emb),listed.size=ops.size→Wf ops listed→(∀j,j<q→listed.getD j false=true)→(∀j,q≤j→j<ops.size→listed.getD j true=false)→
   Inv U w E (Vg (al.map fun x=>(x.1,x.2.1,Xa sl (fun _=>true) x.1 x.2.2)) F (Hk H mj.length)).2→Zg U w0 E0 (Hk H 0) w E (Vg (al.map fun x=>(x.1,x.2.1,Xa sl (fun _=>true) x.1 x.2.2)) F (Hk H mj.length)).2→X8 U w E (Vg (al.map fun x=>(x.1,x.2.1,Xa sl (fun _=>true) x.1 x.2.2)) F (Hk H mj.length)).2 N a (Vg (al.map fun x=>(x.1,x.2.1,Xa sl (fun _=>true) x.1 x.2.2)) F (Hk H mj.length)).1→wpAny P .any ops Q (ops.size-q) listed a w):
  ∀(m:Nat) (listed:Array Bool) (a:Act) (w:World) (E:Emb) (pb:Nat→Nat),J P U N ops q H mj F fr0 al sl w0 E0 listed a w E pb→((List.range q).filter fun i=> !listed.getD i false).length=m→wpAny P .any ops Q (m+(ops.size-q)) listed a w:=by
 have slmem:∀s∈sl,s.1<q∧∃o,ops[s.1]?=some o∧o.dst=none∧s.2.1∈X9 ops.toList o:=by
  intro s hs
  obtain⟨i,o,h1,h2,h3,t,x,h4⟩:=hsl s hs
  have hlt:i<q:=by have:=(List.getElem?_eq_some_iff.1 h1).1;simp at this;omega
  rw[List.getElem?_take_of_lt hlt]at h1
  have h2:s.1=i:=by omega
  rw[h2]
  refine⟨hlt,o,by simpa using h1,h3, ?_⟩
  simp[X9,h4,Op.operands]
 intro m
 induction m with
 |zero=>
  intro listed a w E pb hJ hm
  have hall:∀j,j<q→listed.getD j false=true:=by
   intro j hj
   have:=List.eq_nil_of_length_eq_zero hm
   rw[List.filter_eq_nil_iff]at this
   have:=this j (List.mem_range.2 hj)
   simpa using this
  have writer:∀t,(∃o∈ops.toList.take q,o.dst=some t)→∃(i:Nat) (o:Oper),i<q∧ops[i]?=some o∧o.dst=some t∧listed.getD i false=true:=by
   rintro t ⟨o,ho,hd⟩
   obtain⟨i,hi⟩:=List.mem_iff_getElem?.1 ho
   have hlt:i<q:=by have:=(List.getElem?_eq_some_iff.1 hi).1;simp at this;omega
   rw[List.getElem?_take_of_lt hlt]at hi
   exact⟨i,o,hlt,by simpa using hi,hd,hall i hlt⟩
  have hcnt:Xm mj listed=mj.length:=Z9j mj (fun j hj=>hall j (hmq j hj))
  have hJi:=hJ.inv
  have hJs:=hJ.step
  rw[hcnt]at hJi hJs
  have hslots:XX U w E (Hk H mj.length) a F:=by
   intro t
   rw[←hcnt]
   by_cases h:∃o∈ops.toList.take q,o.dst=some t
   ·exact hJ.slots t (.inr (writer t h))
   ·exact hJ.slots t (.inl (fun o ho hd=>h ⟨o,ho,hd⟩))
  obtain⟨E',i1,s1,f1⟩:=Z9l (pb:=pb) (al.map fun x=>(x.1,x.2.1,Xa sl (fun _=>true) x.1 x.2.2)) F (Hk H mj.length) E hJi hJs hslots (by rw[List.map_map];exact halnd) (fun d e z hm=>by
   obtain⟨⟨d1,e1,z1⟩,hm0,heq⟩:=List.mem_map.1 hm
   injection heq with q1 q2;injection q2 with q2 q3
   subst q1;subst q2;subst q3
   obtain⟨k1,k2,⟨c,k3,k3'⟩,k4,k5⟩:=hJ.pend d1 e1 z1 hm0 (writer d1 (hald _ hm0))
   rw[hcnt]at k3' k5
   refine⟨?_,k2,⟨c,k3, ?_⟩,k4,k5⟩
   ·rw[k1];exact(Zdr (fun s hs he=>hslk s hs _ hm0 he.symm)).symm
   rw[Z4I (g:=fun _=>true) (fun s hs _=>hall s.1 (slmem s hs).1)]at k3'
   exact k3')
   (fun d e z d' e' z' m1 m2=>by
    obtain⟨⟨d1,e1,z1⟩,n1,heq⟩:=List.mem_map.1 m1
    injection heq with q1 q2;injection q2 with q2 q3
    obtain⟨⟨d2,e2,z2⟩,n2,heq⟩:=List.mem_map.1 m2
    injection heq with r1 r2;injection r2 with r2 r3
    subst q1;subst r1
    exact hJ.apart d1 e1 z1 d2 e2 z2 n1 n2 (writer d1 (hald _ n1)) (writer d2 (hald _ n2)))
  rw[Nat.zero_add]
  exact htail listed a w E' hJ.lsize hJ.closed hall hJ.later i1 s1 ⟨hJ.size,hJ.defers,f1⟩
 |succ m ih=>
  intro listed a w E pb hJ hm
  -- some operation of the first part is left
  have hex:∃i,i<q∧listed.getD i false=false:=by
   cases hf:(List.range q).filter fun i=> !listed.getD i false with
   |nil=>rw[hf]at hm;simp at hm
   |cons x r=>
    have:x∈(List.range q).filter fun i=> !listed.getD i false:=by rw[hf];simp
    rw[List.mem_filter]at this
    exact⟨x,List.mem_range.1 this.1,by simpa using this.2⟩
  have hready:Region.ready .any ops listed≠ []:=by
   -- the least one
   have least:∀n,n<q→listed.getD n false=false→∃i,i<q∧listed.getD i false=false∧∀j,j<i→listed.getD j false=true:=by
    intro n
    induction n using Nat.strongRecOn with
    |_ n ihn=>
     intro hn hl
     by_cases h:∃j,j<n∧listed.getD j false=false
     ·obtain⟨j,hj,hlj⟩:=h
      exact ihn j hj (by omega) hlj
     ·exact⟨n,hn,hl,fun j hj=>by
       cases hb:listed.getD j false with
       |true=>rfl
       |false=>exact absurd ⟨j,hj,hb⟩ h⟩
   obtain⟨n,hn,hl⟩:=hex
   obtain⟨i,hi,hli,hlt⟩:=least n hn hl
   have hop:=Array.getElem?_eq_getElem (show i<ops.size by omega)
   have:i∈Region.ready .any ops listed:=mem_ready.2 ⟨by
    rw[Array.getD_eq_getD_getElem?]at hli⊢
    have hls:i<listed.size:=by rw[hJ.lsize];omega
    rw[Array.getElem?_eq_getElem hls]at hli⊢
    exact hli,_,hop,fun e he hb=>hlt e.on (h4 i _ hop e he hb)⟩
   intro h;rw[h]at this;cases this
  rw[show m+1+(ops.size-q)=(m+(ops.size-q))+1 from by omega]
  refine⟨fun h=>absurd h hready,fun i hr=> ?_⟩
  obtain⟨hl,o,ho,he⟩:=mem_ready.1 hr
  have hil:=(Array.getElem?_eq_some_iff.1 ho).1
  have hlif:listed.getD i false=false:=by
   rw[Array.getD_eq_getD_getElem?]at hl⊢
   have hls:i<listed.size:=by rw[hJ.lsize];exact hil
   rw[Array.getElem?_eq_getElem hls]at hl⊢
   exact hl
  have hiq:i<q:=by
   rcases Nat.lt_or_ge i q with h|h
   ·exact h
   ·obtain⟨n,hn,hln⟩:=hex
    have:=h3 i o h ho listed hJ.closed he n (by omega)
    rw[hln]at this;cases this
  have hot:(ops.toList.take q)[i]?=some o:=by rw[List.getElem?_take_of_lt hiq];simpa using ho
  obtain⟨fr',hfactE,hfle,hfle0⟩:=facts i o hot
  have hset:∀j x,(listed.setIfInBounds i true).getD j x=if j=i then true else listed.getD j x:=fun j x=>Z4J (by rw[hJ.lsize];exact hil)
  have hcl':Wf ops (listed.setIfInBounds i true):=by
   intro j o' ho' hl' e' he' hb
   rw[hset]at hl'⊢
   by_cases hej:e'.on=i
   ·rw[if_pos hej]
   ·rw[if_neg hej]
    by_cases hji:j=i
    ·subst hji;rw[ho]at ho';injection ho' with ho';subst ho'
     exact he e' he' hb
    ·rw[if_neg hji]at hl';exact hJ.closed j o' ho' hl' e' he' hb
  have hm':((List.range q).filter fun j=> !(listed.setIfInBounds i true).getD j false).length=m:=by
   have e1:(List.range q).filter (fun j=> !(listed.setIfInBounds i true).getD j false)=((List.range q).filter fun j=> !listed.getD j false).filter (fun j=> !(j==i)):=by
    rw[List.filter_filter]
    refine List.filter_congr fun j _=> ?_
    rw[hset]
    by_cases hji:j=i
    ·subst hji;simp
    ·simp[hji]
   rw[e1]
   have hmem:i∈(List.range q).filter fun j=> !listed.getD j false:=List.mem_filter.2 ⟨List.mem_range.2 hiq,by simp[hlif]⟩
   have hndr:((List.range q).filter fun j=> !listed.getD j false).Nodup:=List.nodup_range.filter _
   generalize (List.range q).filter (fun j=> !listed.getD j false)=L at hmem hndr hm
   have key:∀L:List Nat,i∈L→L.Nodup→(L.filter fun j=> !(j==i)).length+1=L.length:=by
    intro L
    induction L with
    |nil=>intro h;cases h
    |cons x r ihL=>
     intro h hn
     rw[List.nodup_cons]at hn
     by_cases hx:x=i
     ·subst hx
      have:r.filter (fun j=> !(j==x))=r:=List.filter_eq_self.2 fun y hy=>by
       have:y≠x:=fun e=>hn.1 (e ▸hy)
       simp[this]
      simp[List.filter_cons,this]
     ·have hir:i∈r:=by
       rcases List.mem_cons.1 h with h|h
       ·exact absurd h.symm hx
       ·exact h
      have:=ihL hir hn.2
      simp[List.filter_cons,hx]
      omega
   have:=key L hmem hndr
   omega
  -- what the operation reads stands
  have hrg:=hrange i o hiq ho listed hJ.closed he hlif
  obtain⟨hp,hpc⟩:∃hp,hp=Hk H (Xm mj listed):=⟨_,rfl⟩
  obtain⟨hpn,hpcn⟩:∃hpn,hpn=Hk H (Xm mj (listed.setIfInBounds i true)):=⟨_,rfl⟩
  have hJi:Inv U w E hp:=by rw[hpc];exact hJ.inv
  have hJs:Zg U w0 E0 (Hk H 0) w E hp:=by rw[hpc];exact hJ.step
  have hJslots:=hJ.slots
  rw[←hpc]at hJslots
  have hJpend:=hJ.pend
  rw[←hpc]at hJpend
  have hJolds:=hJ.olds
  rw[←hpc]at hJolds
  have hsame:mj.contains i=false→hpn=hp:=fun h=>by rw[hpcn,Z9k h hset,hpc]
  have reads:∀t∈X9 ops.toList o,Rep U w E hp (a.tmps.getD t undef) (ZL fr' t):=by
   intro t ht
   by_cases hw:∃(j:Nat) (o':Oper),j<q∧ops[j]?=some o'∧o'.dst=some t
   ·obtain⟨j,o',hjq,hj',hd'⟩:=hw
    have others:∀(j2:Nat) o2,(ops.toList.take q)[j2]?=some o2→o2.dst=some t→j2=j:=fun j2 o2 hj2 hd2=>
     ZdC _ hnd j2 j o2 o' hj2 (by rw[List.getElem?_take_of_lt hjq];simpa using hj') hd2 hd'
    rcases h2 i o hiq ho t ht j o' hjq hj' hd' with⟨hji,hlj⟩|⟨_,hij,hlj⟩
    ·have hF:=hJslots t (.inr ⟨j,o',hjq,hj',hd',hlj listed hJ.closed he⟩)
     refine(hfle t fun j2 o2 hj2 hij2 hd2=> ?_).down hF
     have:=others j2 o2 hj2 hd2
     omega
    ·have h0:=hJolds t j o' hjq hj' hd' (hlj listed hJ.closed hlif)
     refine(hfle0 t fun j2 o2 hj2 hij2 hd2=> ?_).up h0
     have:=others j2 o2 hj2 hd2
     omega
   ·have hno:∀(j2:Nat) o2,(ops.toList.take q)[j2]?=some o2→o2.dst≠some t:=fun j2 o2 hj2 hd2=>by
     have hjq:j2<q:=by have:=(List.getElem?_eq_some_iff.1 hj2).1;simp at this;omega
     rw[List.getElem?_take_of_lt hjq]at hj2
     exact hw ⟨j2,o2,hjq,by simpa using hj2,hd2⟩
    refine(hfle t fun j2 o2 hj2 _=>hno j2 o2 hj2).down (hJslots t (.inl fun o' ho' hd'=> ?_))
    obtain⟨j2,hj2⟩:=List.mem_iff_getElem?.1 ho'
    exact hno j2 o' hj2 hd'
  have srst:XX U w E hp a (rst (X9 ops.toList o) fr'):=by
   intro t
   rw[Z0r]
   by_cases ht:t∈X9 ops.toList o
   ·rw[if_pos ht];exact reads t ht
   ·rw[if_neg ht];exact .un _
  have nsi0:mj.contains i=true→o.dst=none→Z29 o.op=true→∀s∈sl,s.1=i→False:=by
   intro h1 h2 h3 s hs e
   obtain⟨i',o',q1,q2,q3,t',x',q4⟩:=hsl s hs
   obtain⟨fr'',hf'',_⟩:=facts i' o' q1
   have:i'=i:=by omega
   subst this
   rw[hot]at q1;injection q1 with q1;subst q1
   exact hslm s hs (by rw[e];exact h1)
  rcases hfactE with⟨d,hd,hdN,hfact⟩|⟨hd,hgd,hmi0,t,d,x,k,hopx,hk,hkl,hok,hmemS⟩|⟨hd,hgd,hmi,hst,π1,r,hop,hobl,hrhp,hhi⟩
  case inr.inr=>
   rw[Nat.zero_add]at hmi hop hrhp hhi
   have hcl:Xm mj listed=loR ms mj i:=by omega
   rw[←hcl, ←hpc]at hop
   have hop2:opA P U (rst (X9 ops.toList o) fr') hp o.type π1 o.op=some r:=by
    rw[←hop]
    exact Zdz hst (fun t ht=>by
     rw[Z0r,if_pos]
     simp only[X9,List.mem_append,List.mem_filterMap]
     exact .inl ⟨_,ht,rfl⟩)
   have hnp:r.hp=hpn:=by
    rw[hrhp,hpcn,Z6X hlif hset mj hmnd (by rw[List.contains_eq_mem]at hmi;simpa using hmi),hcl]
   unfold wpOp
   simp only[ho]
   have hw:Region.wanted o (yielded ops a.tmps)=true:=by unfold Region.wanted;rw[hgd]
   rw[if_pos hw]
   left
   refine Z4F hJi srst hop2 hobl _ Q fun v w' E' i1 s1 r1=> ?_
   rw[hnp]at i1 s1 r1
   rw[hd]
   have lst:∀t,(∃(j:Nat) (o':Oper),j<q∧ops[j]?=some o'∧o'.dst=some t∧(listed.setIfInBounds i true).getD j false=true)→∃(j:Nat) (o':Oper),j<q∧ops[j]?=some o'∧o'.dst=some t∧listed.getD j false=true:=by
    rintro t ⟨j,o',g1,g2,g3,g4⟩
    rw[hset]at g4
    by_cases hji:j=i
    ·subst hji;rw[ho]at g2;injection g2 with g2;subst g2;rw[hd]at g3;cases g3
    ·rw[if_neg hji]at g4;exact⟨j,o',g1,g2,g3,g4⟩
   refine ih (listed.setIfInBounds i true) a w' E' pb ⟨by rw[←hpcn];exact i1,by rw[←hpcn];exact hJs.trans s1,hJ.size,hJ.defers,hcl',by simp[hJ.lsize],fun t ht=> ?_,fun d' e' z' hmem hw=> ?_,fun d1 e1 z1 d2 e2 z2 m1 m2 l1 l2 hpp=>hJ.apart d1 e1 z1 d2 e2 z2 m1 m2 (lst d1 l1) (lst d2 l2) hpp,fun j hj hjs=> ?_,fun t j o' hjq ho' hd' hl'=> ?_⟩ hm'
   ·rw[←hpcn]
    refine s1.rep hJi (hJslots t ?_)
    rcases ht with h|h
    ·exact .inl h
    ·exact .inr (lst t h)
   ·rw[←hpcn]
    obtain⟨k1,k2,⟨c',k3,k4⟩,k5,k6⟩:=hJpend d' e' z' hmem (lst d' hw)
    have hlt:pb d'<w.heap.size:=(Array.getElem?_eq_some_iff.1 k3).1
    rw[Z4I (g:=fun j=>listed.getD j false) (fun s hs _=>by rw[hset,if_neg (fun e0=>nsi0 hmi hd hst s hs e0)])]
    refine⟨k1,k2,⟨c',by rw[s1.keep _ hlt k6];exact k3,k4.mono (fun _ _ h=>s1.rep hJi h) (fun _ _ h=>s1.prep hJi h)⟩,fun h=> ?_,fun h=>k6 (s1.own _ hlt h)⟩
    rcases s1.snew _ h with h|h|h
    ·exact k5 h
    ·exact k6 h
    ·omega
   ·rw[hset,if_neg (by omega)];exact hJ.later j hj hjs
   ·rw[←hpcn]
    have hl2:listed.getD j false=false:=by
     rw[hset]at hl'
     by_cases hji:j=i
     ·rw[if_pos hji]at hl';cases hl'
     ·rw[if_neg hji]at hl';exact hl'
    exact s1.rep hJi (hJolds t j o' hjq ho' hd' hl2)
  case inr.inl=>
   -- it stores into what waits
   have hmemS:(i,d,Zv P fr' t x)∈sl:=by rw[Nat.zero_add]at hmemS;exact hmemS
   have hdT:d∈X9 ops.toList o:=by simp[X9,hopx,Op.operands]
   obtain⟨⟨d0,e,z⟩,hal,hd0⟩:=hsla _ hmemS
   have hd0:d0=d:=hd0
   subst hd0
   obtain⟨oa,hoa,hda⟩:=hald _ hal
   obtain⟨ja,hja⟩:=List.mem_iff_getElem?.1 hoa
   have hjaq:ja<q:=by have:=(List.getElem?_eq_some_iff.1 hja).1;simp at this;omega
   rw[List.getElem?_take_of_lt hjaq]at hja
   have hja':ops[ja]?=some oa:=by simpa using hja
   have hlja:=((h2 i o hiq ho d0 hdT ja oa hjaq hja' hda).resolve_right (fun q=>q.1 hd)).2 listed hJ.closed he
   have hwr:∃(j:Nat) (o':Oper),j<q∧ops[j]?=some o'∧o'.dst=some d0∧listed.getD j false=true:=⟨ja,oa,hjaq,hja',hda,hlja⟩
   obtain⟨p1,p2,⟨c,p3,p4⟩,p5,p6⟩:=hJpend d0 e z hal hwr
   have hzw:(ZH z).length=(ZH (Zv P fr' t x)).length:=hslw _ hmemS _ hal rfl
   obtain⟨hkz,hkx⟩:wk z=none∧wk (Zv P fr' t x)=none:=hslk _ hmemS _ hal rfl
   have p1:a.tmps.getD d0 undef= .pointer (some ⟨pb d0,0,none⟩):=by rw[p1];simp only[WJ,hkz]
   have p4:ZW U w E hp c (ZH (Xa sl (fun j=>listed.getD j false) d0 z)):=by
    have hkc:wk (Xa sl (fun j=>listed.getD j false) d0 z)=none:=Z9d hkz (fun s hs hsd=>(hslk s hs _ hal hsd.symm).2)
    simp only[Wn,hkc]at p4
    exact p4
   have hcl:c.length=k:=by
    rw[p4.1,Zds (fun s hs hsd=>by
     have:(ZH z).length=(ZH s.2.2).length:=hslw s hs _ hal hsd.symm
     exact this),hzw,hkl]
   have hcg:Zv P (rst (X9 ops.toList o) fr') t x=Zv P fr' t x:=UF (fun t' et=>by
    rw[Z0r,if_pos]
    subst et
    simp[X9,hopx,Op.operands]) t
   have hrx:Rep U w E hp (a.eval x) (Zv P fr' t x):=by rw[←hcg];exact ZY hJi srst t x
   have hcr:=Wa (Z0l hok) hrx
   have hvl:(a.eval x).cells.toList.length=k:=by rw[hcr.1,hkl]
   have hrun:=Z4x (P:=P) (w:=w) (t:=t) (base:=0) p3 hk hvl (by omega) (Z0m hok hcr)
   have hrow:c.take 0++(a.eval x).cells.toList++c.drop (0+(a.eval x).cells.toList.length)=(a.eval x).cells.toList:=by
    rw[List.take_zero,List.nil_append,List.drop_eq_nil_of_le (by omega),List.append_nil]
   rw[hrow]at hrun
   obtain⟨i1,s1,rr,rp⟩:=ZdD (e:=e) (c:=c) hJi hJs p2 p5 p6 (a.eval x).cells.toList
   rw[Nat.zero_add]at hmi0
   have hnp:=hsame hmi0
   rw[hpcn]at hnp
   unfold wpOp
   simp only[ho]
   have hw:Region.wanted o (yielded ops a.tmps)=true:=by unfold Region.wanted;rw[hgd]
   rw[if_pos hw]
   left
   have hrun2:(execOp a.eval o).run P w= .ok .skip (w.setRow (pb d0) ⟨(a.eval x).cells.toList⟩):=by
    have ea:a.eval (.tmp d0)= .pointer (some ⟨pb d0,0,none⟩):=p1
    simp[execOp,hopx,ea,Instr.storeAt,Instr.sureAddr,hrun]
   unfold Oper.wp
   rw[hrun2]
   show wpAny P .any ops Q (m+(ops.size-q)) (listed.setIfInBounds i true) (a.put o.dst undef) _
   rw[hd]
   have lst:∀t,(∃(j:Nat) (o':Oper),j<q∧ops[j]?=some o'∧o'.dst=some t∧(listed.setIfInBounds i true).getD j false=true)→∃(j:Nat) (o':Oper),j<q∧ops[j]?=some o'∧o'.dst=some t∧listed.getD j false=true:=by
    rintro t ⟨j,o',g1,g2,g3,g4⟩
    rw[hset]at g4
    by_cases hji:j=i
    ·subst hji;rw[ho]at g2;injection g2 with g2;subst g2;rw[hd]at g3;cases g3
    ·rw[if_neg hji]at g4;exact⟨j,o',g1,g2,g3,g4⟩
   refine ih (listed.setIfInBounds i true) a (w.setRow (pb d0) ⟨(a.eval x).cells.toList⟩) E pb ⟨by rw[hnp];exact i1,by rw[hnp];exact s1,hJ.size,hJ.defers,hcl',by simp[hJ.lsize],fun t ht=> ?_,fun d' e' z' hmem hw=> ?_,fun d1 e1 z1 d2 e2 z2 m1 m2 l1 l2 hpp=>hJ.apart d1 e1 z1 d2 e2 z2 m1 m2 (lst d1 l1) (lst d2 l2) hpp,fun j hj hjs=> ?_,fun t j o' hjq ho' hd' hl'=> ?_⟩ hm'
   ·rw[hnp]
    refine rr _ _ (hJslots t ?_)
    rcases ht with h|h
    ·exact .inl h
    ·exact .inr (lst t h)
   ·rw[hnp]
    obtain⟨k1,k2,⟨c',k3,k4⟩,k5,k6⟩:=hJpend d' e' z' hmem (lst d' hw)
    by_cases hdd:d'=d0
    ·subst hdd
     have hee:e'=e:=by
      rw[p3]at k3
      simp at k3
      exact k3.2.symm
     subst hee
     refine⟨k1,k2,⟨_,setRow_heap w (pb d') ⟨c⟩ ⟨(a.eval x).cells.toList⟩ e' (0,0) p3, ?_⟩,k5,k6⟩
     rw[Zdq hslnd hmemS (by rw[hset,if_pos rfl])]
     simp only[Wn,hkx]
     exact⟨hcr.1,fun k x y hx hy=>rr _ _ (hcr.2 k x y hx hy)⟩
    ·have hne:pb d'≠pb d0:=fun e0=>hdd (hJ.apart d' e' z' d0 e z hmem hal (lst d' hw) hwr e0)
     refine⟨k1,k2,⟨c',by rw[setRow_other w (pb d0) (pb d') _ hne];exact k3, ?_⟩,k5,k6⟩
     rw[Z4I (g:=fun j=>listed.getD j false) (fun s hs hsd=>by
      rw[hset,if_neg]
      intro e0
      have:s=(i,d0,Zv P fr' t x):=by
       have key:∀L:List (Nat×Nat×AV D),s∈L→s∈sl:=fun _ _=>hs
       obtain⟨_,os,g1,g2,g3⟩:=slmem s hs
       obtain⟨i',o',q1,q2,q3,t',x',q4⟩:=hsl s hs
       have hi':i'=i:=by omega
       subst hi'
       rw[hot]at q1;injection q1 with q1;subst q1
       rw[hopx]at q4;injection q4 with q4 q5 q6
       injection q5 with q5
       exact absurd (hsd.symm.trans q5.symm) hdd
      rw[this]at hsd
      exact hdd hsd.symm)]
     exact k4.mono rr (fun _ _ h=>rp _ _ h)
   ·rw[hset,if_neg (by omega)];exact hJ.later j hj hjs
   ·rw[hnp]
    have hl2:listed.getD j false=false:=by
     rw[hset]at hl'
     by_cases hji:j=i
     ·rw[if_pos hji]at hl';cases hl'
     ·rw[if_neg hji]at hl';exact hl'
    exact rr _ _ (hJolds t j o' hjq ho' hd' hl2)
  -- the only writer of d
  have uniq:∀(j:Nat) o',j<q→ops[j]?=some o'→o'.dst=some d→j=i:=by
   intro j o' hjq ho' hd'
   have inj:∀(l:List Oper),(l.filterMap (·.dst)).Nodup→∀(a b:Nat) oa ob,l[a]?=some oa→l[b]?=some ob→oa.dst=some d→ob.dst=some d→a=b:=by
    intro l
    induction l with
    |nil=>intro _ a b oa ob h;simp at h
    |cons x r ihl=>
     intro hn a b oa ob ha hb hda hdb
     cases hxd:x.dst with
     |none=>
      rw[List.filterMap_cons,hxd]at hn
      cases a with
      |zero=>simp at ha;subst ha;rw[hxd]at hda;cases hda
      |succ a=>
       cases b with
       |zero=>simp at hb;subst hb;rw[hxd]at hdb;cases hdb
       |succ b=>rw[ihl hn a b oa ob (by simpa using ha) (by simpa using hb) hda hdb]
     |some dx=>
      rw[List.filterMap_cons,hxd]at hn
      rw[List.nodup_cons]at hn
      have nin:∀(c:Nat) oc,r[c]?=some oc→oc.dst=some dx→False:=fun c oc hc hdc=>hn.1 (List.mem_filterMap.2 ⟨oc,List.mem_of_getElem? hc,hdc⟩)
      cases a with
      |zero=>
       simp at ha;subst ha
       cases b with
       |zero=>rfl
       |succ b=>rw[hxd]at hda;injection hda with hda;subst hda;exact(nin b ob (by simpa using hb) hdb).elim
      |succ a=>
       cases b with
       |zero=>simp at hb;subst hb;rw[hxd]at hdb;injection hdb with hdb;subst hdb;exact(nin a oa (by simpa using ha) hda).elim
       |succ b=>rw[ihl hn.2 a b oa ob (by simpa using ha) (by simpa using hb) hda hdb]
   exact inj _ hnd j i o' o (by rw[List.getElem?_take_of_lt hjq];simpa using ho') hot hd' hd
  have hdsz:d<a.tmps.size:=by rw[hJ.size];exact hdN
  -- what is left of J behind one more operation
  have next:∀(v:Value) (w':World) (E':Emb) (pb':Nat→Nat),Inv U w' E' hpn→Zg U w E hp w' E' hpn→Rep U w' E' hpn v (ZL F d)→(∀d',d'≠d→pb' d'=pb d')→
    (∀e z,(d,e,z)∈al→v=WJ (pb' d) z∧w.heap.size≤pb' d∧(∃c:List Value,w'.heap[pb' d]?=some (.cells ⟨c⟩ e (0,0))∧Wn U w' E' hpn e c z)∧¬E'.S (pb' d)∧¬Own E' hpn (pb' d))→
    wpAny P .any ops Q (m+(ops.size-q)) (listed.setIfInBounds i true) (a.put o.dst v) w':=by
   intro v w' E' pb' i1 s1 hv hpb hal
   rw[hd]
   have lst:∀t,t≠d→(∃(j:Nat) (o':Oper),j<q∧ops[j]?=some o'∧o'.dst=some t∧(listed.setIfInBounds i true).getD j false=true)→∃(j:Nat) (o':Oper),j<q∧ops[j]?=some o'∧o'.dst=some t∧listed.getD j false=true:=by
    rintro t ht ⟨j,o',h1,h2,h3,h4⟩
    rw[hset]at h4
    by_cases hji:j=i
    ·subst hji;rw[ho]at h2;injection h2 with h2;subst h2;rw[hd]at h3;injection h3 with h3;exact absurd h3.symm ht
    ·rw[if_neg hji]at h4;exact⟨j,o',h1,h2,h3,h4⟩
   have nsi:∀s∈sl,s.1≠i:=fun s hs e0=>by
    obtain⟨_,o',g1,g2,_⟩:=slmem s hs
    rw[e0,ho]at g1;injection g1 with g1;subst g1
    rw[hd]at g2;cases g2
   have old:∀d' e z,d'≠d→(d',e,z)∈al→(∃(j:Nat) (o':Oper),j<q∧ops[j]?=some o'∧o'.dst=some d'∧(listed.setIfInBounds i true).getD j false=true)→
     pb d'<w.heap.size∧a.tmps.getD d' undef=WJ (pb d') z∧w0.heap.size≤pb d'∧(∃c:List Value,w'.heap[pb d']?=some (.cells ⟨c⟩ e (0,0))∧Wn U w' E' hpn e c (Xa sl (fun j=>(listed.setIfInBounds i true).getD j false) d' z))∧¬E'.S (pb d')∧¬Own E' hpn (pb d'):=by
    intro d' e z hne hmem hw
    obtain⟨k1,k2,⟨c,k3,k4⟩,k5,hno⟩:=hJpend d' e z hmem (lst d' hne hw)
    rw[Z4I (g:=fun j=>listed.getD j false) (fun s hs _=>by rw[hset,if_neg (nsi s hs)])]
    have hlt:pb d'<w.heap.size:=(Array.getElem?_eq_some_iff.1 k3).1
    refine⟨hlt,k1,k2,⟨c,by rw[s1.keep _ hlt hno];exact k3,k4.mono (fun _ _ h=>s1.rep hJi h) (fun _ _ h=>s1.prep hJi h)⟩,fun h=> ?_,fun h=>hno (s1.own _ hlt h)⟩
    rcases s1.snew _ h with h|h|h
    ·exact k5 h
    ·exact hno h
    ·omega
   refine ih (listed.setIfInBounds i true) (a.put (some d) v) w' E' pb' ⟨by rw[←hpcn];exact i1,by rw[←hpcn];exact hJs.trans s1,by simp[Act.put,hJ.size],hJ.defers,hcl',by simp[hJ.lsize],fun t ht=> ?_,fun d' e z hmem hw=> ?_,fun d1 e1 z1 d2 e2 z2 m1 m2 l1 l2 hpp=> ?_,fun j hj hjs=> ?_,fun t j o' hjq ho' hd' hl'=> ?_⟩ hm'
   ·rw[←hpcn]
    rw[Z6Y (dst:=0) hdsz]
    by_cases htd:t=d
    ·subst htd;rw[if_pos rfl];exact hv
    ·rw[if_neg htd]
     refine s1.rep hJi (hJslots t ?_)
     rcases ht with h|h
     ·exact .inl h
     ·exact .inr (lst t htd h)
   ·rw[←hpcn]
    rw[Z6Y (dst:=0) hdsz]
    by_cases hdd:d'=d
    ·subst hdd
     rw[if_pos rfl]
     obtain⟨k1,k2,k3,k4⟩:=hal e z hmem
     rw[Zdp (fun s hs hsd=>by
      rw[hset,if_neg (nsi s hs)]
      obtain⟨g0,o',g1,g2,g3⟩:=slmem s hs
      cases hb:listed.getD s.1 false with
      |false=>rfl
      |true=>
       rw[hsd]at g3
       have:=((h2 s.1 o' g0 g1 _ g3 i o hiq ho hd).resolve_right (fun q=>q.1 g2)).2 listed hJ.closed (fun e' he' hb'=>hJ.closed s.1 o' g1 hb e' he' hb')
       rw[hlif]at this;cases this)]
     exact⟨k1,by have:=hJs.size;omega,k3,k4⟩
    ·rw[if_neg hdd,hpb d' hdd]
     exact(old d' e z hdd hmem hw).2
   ·by_cases h1d:d1=d
    ·by_cases h2d:d2=d
     ·rw[h1d,h2d]
     ·subst h1d
      have k:=(hal e1 z1 m1).2.1
      have k2:=(old d2 e2 z2 h2d m2 l2).1
      rw[hpb d2 h2d]at hpp
      omega
    ·by_cases h2d:d2=d
     ·subst h2d
      have k:=(hal e2 z2 m2).2.1
      have k2:=(old d1 e1 z1 h1d m1 l1).1
      rw[hpb d1 h1d]at hpp
      omega
     ·rw[hpb d1 h1d,hpb d2 h2d]at hpp
      exact hJ.apart d1 e1 z1 d2 e2 z2 m1 m2 (lst d1 h1d l1) (lst d2 h2d l2) hpp
   ·rw[hset,if_neg (by omega)];exact hJ.later j hj hjs
   ·rw[←hpcn]
    rw[Z6Y (dst:=0) hdsz]
    have hl2:listed.getD j false=false:=by
     rw[hset]at hl'
     by_cases hji:j=i
     ·rw[if_pos hji]at hl';cases hl'
     ·rw[if_neg hji]at hl';exact hl'
    by_cases htd:t=d
    ·subst htd
     have:=uniq j o' hjq ho' hd'
     rw[hset,if_pos this]at hl';cases hl'
    ·rw[if_neg htd]
     exact s1.rep hJi (hJolds t j o' hjq ho' hd' hl2)
  unfold wpOp
  simp only[ho]
  rw[Nat.zero_add]at hfact
  rcases hfact with⟨πa,πb,psa,e,z,hal,hpsa,hg,hmem,hFd,hmi⟩|⟨π1,ps,fr1,v0,⟨π,hg⟩,hps,hpu,hrd,hle,hna,hmi⟩|⟨π,π1,ps,fr1,hg,hps,hle,hna,hmi⟩|⟨π1,ps,fr1,r,⟨π,hg⟩,hps,hmo,hop,hobl,hrhp,hhi,hle,hna,hmi⟩
  ·-- it lays a variable
   have hw:Region.wanted o (yielded ops a.tmps)=true:=by unfold Region.wanted;rw[hg]
   rw[if_pos hw]
   left
   have hzu:∀e' z',(d,e',z')∈al→(e',z')=(e,z):=by
    intro e' z' hm2
    have key:∀L:List (Nat×Nat×AV D),(L.map (·.1)).Nodup→(d,e',z')∈L→(d,e,z)∈L→(e',z')=(e,z):=by
     intro L
     induction L with
     |nil=>intro _ h;cases h
     |cons x r ihL=>
      intro hn h1 h2
      simp only[List.map_cons,List.nodup_cons]at hn
      rcases List.mem_cons.1 h1 with h1|h1 <;> rcases List.mem_cons.1 h2 with h2|h2
      ·rw[←h1]at h2;injection h2 with _ h2;exact h2.symm
      ·exact absurd (List.mem_map.2 ⟨_,h2,by rw[←h1]⟩) hn.1
      ·exact absurd (List.mem_map.2 ⟨_,h1,by rw[←h2]⟩) hn.1
      ·exact ihL hn.2 h1 h2
    exact key al halnd hm2 hmem
   have main:∀v:Value,wk z=none→X7 z=true→Rep U w E hp v z→(execOp a.eval o).run P w= .ok (.value (.pointer (some ⟨w.heap.size,0,none⟩))) { w with heap:=w.heap.push (.cells v.cells e (0,0)) } →o.wp P a w (wpAny P .any ops Q (m+(ops.size-q)) (listed.setIfInBounds i true)) Q:=by
    intro v hkz hok hrv hrun
    unfold Oper.wp
    rw[hrun]
    obtain⟨i1,s1⟩:=Z9i (w:=w) hJi (.cells v.cells e (0,0)) (Z0e w _ _)
    have hcr:=Wa hok hrv
    have hnp:=hsame hmi
    refine next _ _ E (fun d'=>if d'=d then w.heap.size else pb d') (by rw[hnp];exact i1) (by rw[hnp];exact s1) (by rw[hFd];exact .un _) (fun d' hne=>by simp[hne]) (fun e' z' hm2=> ?_)
    have:=hzu e' z' hm2
    injection this with e1 e2
    subst e1;subst e2
    rw[hnp]
    refine⟨by simp[WJ,hkz],by simp,⟨v.cells.toList,by simp, ?_⟩,fun h=> ?_,fun h=>by
     have h:=Own.lt hJi h
     simp at h⟩
    ·simp only[Wn,hkz]
     exact⟨hcr.1,fun k x y hx hy=>s1.rep hJi (hcr.2 k x y hx hy)⟩
    have:=hJi.sb _ h
    simp at this
   unfold Z6O at hal
   split at hal
   ·-- an array of zeros
    rename_i t l c hoe
    split at hal
    case h_2=>cases hal
    rename_i e0 n m he hn hm
    split at hal
    case h_2=>cases hal
    rename_i e1 l1 ln π1'
    split at hal
    case h_2=>cases hal
    rename_i sz z0 hsz hz hee
    split at hal
    case h_2=>cases hal
    rename_i ps0 zc hs1 hzk hvw
    simp only[Option.some.injEq,Prod.mk.injEq]at hal
    obtain⟨rfl,rfl,rfl,rfl⟩:=hal
    have hee:e0=e1:=Nat.eq_of_beq_eq_true hee
    subst hee
    have hs1:sz=U.width e0:=Nat.eq_of_beq_eq_true hs1
    subst hs1
    obtain⟨⟨h0,hnm,hb,h63,y,hl1,hy⟩,hln,hmn,hps0⟩:=hpsa
    subst hmn
    have ev:∀x,x∈ [l,c]→Zv P (rst (X9 ops.toList o) fr') o.type x=Zv P fr' o.type x:=fun x hx=>UF (fun t' et=>by
     rw[Z0r,if_pos]
     subst et
     simp only[X9,hoe,Op.operands,List.mem_append,List.mem_filterMap]
     exact .inl ⟨.tmp t',by simpa using hx,rfl⟩) o.type
    have el:=Yo (hn ▸(ev l (by simp)) ▸ZY (P:=P) hJi srst o.type l)
    have ec:=Yo (hm ▸(ev c (by simp)) ▸ZY (P:=P) hJi srst o.type c)
    obtain⟨z2,hz2,hzok,hzl⟩:=UE hzk
    rw[hz]at hz2;injection hz2 with hz2;subst hz2
    have hi0:Inv U w E ([]:Z3 D):=⟨fun id o h=>by simp at h,fun i j oi oj b h=>by simp at h,hJi.sb,hJi.gl⟩
    obtain⟨ti,zv,hti,hzz,hzr⟩:=WI (U:=U) (w:=w) (E:=E) (hp:=([]:Z3 D)) hz
    have hisz:ti.size=U.width e0:=by
     simp only[ZT,hti,Option.map_some]at hsz;injection hsz
    have hbt:ti.bytes=YK P e0:=by simp[YK,Program.bytesOf,hti]
    have hcr:=Wa hzok hzr
    have hzs:zv.cells.size=U.width e0:=by have:=hcr.1;rw[hzl]at this;simpa using this
    have hpr:=U2 (S':=E.S) (ids:= []) hi0 (fun id h=>by cases h) (fun _ h=>h) (by rw[hvw];exact hps0) hcr
    rw[hvw]at hpr
    have hrun:=run_make (P:=P) w t e0 ti zv (XQ he) hti hzz .i64 .i64 m m h0 (Int.le_refl _) (by rw[hbt,Int.mul_comm];omega) (by omega)
    have hll:l1.length=m.toNat:=by rw[hl1];simp
    unfold Oper.wp
    have hrun2:(execOp a.eval o).run P w= .ok (.value (.slice (some ⟨w.heap.size,0,none⟩) m.toNat m.toNat)) { w with heap:=w.heap.push (.cells (madeCells zv.cells (m.toNat * ti.size)) e0 (0,0)) } :=by
     simp only[execOp,hoe,el,ec]
     exact Xq hrun
    rw[hrun2]
    obtain⟨i1,s1⟩:=Z9i (w:=w) hJi (.cells (madeCells zv.cells (m.toNat * ti.size)) e0 (0,0)) (Z0e w _ _)
    have hnp:=hsame hmi
    refine next _ _ E (fun d'=>if d'=d then w.heap.size else pb d') (by rw[hnp];exact i1) (by rw[hnp];exact s1) (by rw[hFd];exact .un _) (fun d' hne=>by simp[hne]) (fun e' z' hm2=> ?_)
    have:=hzu e' z' hm2
    injection this with e1 e2
    subst e1;subst e2
    rw[hnp]
    refine⟨by simp[WJ,wk,hll],by simp,⟨(madeCells zv.cells (m.toNat * ti.size)).toList,by simp, ?_⟩,fun h=> ?_,fun h=>by
     have h:=Own.lt hJi h
     simp at h⟩
    ·simp only[Wn,wk]
     refine⟨⟨by rw[Array.length_toList,size_madeCells,hisz,hll],fun k x a hx ha=> ?_⟩,trivial⟩
     rw[hl1]at ha
     have hkm:k<m.toNat * U.width e':=by have:=(List.getElem?_eq_some_iff.1 ha).1;rwa [Yp,List.length_replicate]at this
     have hd:=Z6E ha
     rw[hy]at hd
     have hlt:k % U.width e'<zv.cells.toList.length:=by rw[Array.length_toList,hzs];exact Nat.mod_lt _ (U.pos e')
     have hx0:zv.cells[k % U.width e']?=some zv.cells.toList[k % U.width e']:=by
      rw[←Array.getElem?_toList];exact List.getElem?_eq_getElem hlt
     have hx1:=Z6D hzs (U.pos e') hkm hx0
     rw[hisz,hx1]at hx
     injection hx with hx
     subst hx
     exact s1.prep hJi (hpr.2 _ _ a (List.getElem?_eq_getElem hlt) hd)
    have:=hJi.sb _ h
    simp at this
   rename_i op0 hnmk
   split at hal
   case h_2=>cases hal
   rename_i e9 z9 hal9
   split at hal
   case h_2=>cases hal
   rename_i hkz
   simp only[Option.some.injEq,Prod.mk.injEq]at hal
   obtain⟨rfl,rfl,rfl,rfl⟩:=hal
   have hal:=hal9
   unfold Z98 at hal
   split at hal
   ·rename_i e' hoe
    split at hal
    case h_2=>cases hal
    rename_i z' hz
    split at hal
    case h_2=>cases hal
    rename_i hok
    simp only[Option.some.injEq,Prod.mk.injEq]at hal
    obtain⟨rfl,rfl⟩:=hal
    obtain⟨ti,v,hti,hzz,hzr⟩:=WI (U:=U) (w:=w) (E:=E) (hp:=hp) hz
    exact main v hkz hok hzr (by simp[execOp,hoe,Instr.alloc,zeroValue,typeInfo,hti,hzz,Z1U])
   ·rename_i e' x hoe
    split at hal
    case h_2=>cases hal
    rename_i hok
    simp only[Option.some.injEq,Prod.mk.injEq]at hal
    obtain⟨rfl,rfl⟩:=hal
    have hcg:Zv P (rst (X9 ops.toList o) fr') e' x=Zv P fr' e' x:=UF (fun t et=>by
     rw[Z0r,if_pos]
     subst et
     simp[X9,hoe,Op.operands]) e'
    exact main (a.eval x) hkz hok (by rw[←hcg];exact ZY hJi srst e' x) (by simp[execOp,hoe,Instr.box,Z1U])
   ·cases hal
  ·-- it reads
   obtain⟨fr2,hg2,hl2⟩:=Z6Z hg
   obtain⟨hw,hs2⟩:=Z4G srst hg2 hps
   rw[if_pos hw]
   left
   obtain⟨r,hop,hobl,hv0⟩:=hrd _ hrg.1 hrg.2
   rw[←hpc]at hop
   have hnp:=hsame hmi
   have hop2:opD P U fr2 hp o.type π1 o.op=some r:=by
    rw[←hop]
    exact Zdx hpu (fun t ht=>hl2 t (by
     simp only[X9,List.mem_append,List.mem_filterMap]
     exact .inl ⟨_,ht,rfl⟩))
   have hrhp:=ZdB hpu hop
   refine Zdo hJi hs2 hop2 hobl _ Q fun v w' E' i1 s1 r1=> ?_
   rw[hrhp]at i1 s1 r1
   rw[hv0]at r1
   refine next v w' E' pb (by rw[hnp];exact i1) (by rw[hnp];exact s1) (by rw[hnp];exact hle.up r1) (fun _ _=>rfl) (fun e z hm2=>absurd rfl (hna _ hm2))
  ·-- it is left out
   obtain⟨fr2,hg2,hl2⟩:=Z6Z hg
   obtain⟨hw,hs2⟩:=Z4G srst hg2 hps
   rw[if_neg (by rw[hw];simp)]
   have hnp:=hsame hmi
   refine next undef w E pb (by rw[hnp];exact hJi) (by rw[hnp];exact Zg.refl ..) (hle.up (.v _)) (fun _ _=>rfl) (fun e z hm2=>absurd rfl (hna _ hm2))
  ·-- it changes own objects
   obtain⟨fr2,hg2,hl2⟩:=Z6Z hg
   obtain⟨hw,hs2⟩:=Z4G srst hg2 hps
   rw[if_pos hw]
   left
   have hcl:Xm mj listed=loR ms mj i:=by omega
   rw[←hcl, ←hpc]at hop
   have hop2:opA P U fr2 hp o.type π1 o.op=some r:=by
    rw[←hop]
    exact Zdy hmo (fun t ht=>hl2 t (by
     simp only[X9,List.mem_append,List.mem_filterMap]
     exact .inl ⟨_,ht,rfl⟩))
   have hnp:r.hp=hpn:=by
    rw[hrhp,hpcn,Z6X hlif hset mj hmnd (by rw[List.contains_eq_mem]at hmi;simpa using hmi),hcl]
   refine Z4F hJi hs2 hop2 hobl _ Q fun v w' E' i1 s1 r1=> ?_
   rw[hnp]at i1 s1 r1
   exact next v w' E' pb i1 s1 (hle.up r1) (fun _ _=>rfl) (fun e z hm2=>absurd rfl (hna _ hm2))

theorem ZdF {ops:Array Oper} {id q:Nat} {Q:Exit→Act→World→Prop} {fr fr':Fr D} {hp':Z3 D} {π π':List (Ans D)} {ps:List Prop} (hmix:P.follows .mixedOrders=true)
  (h:Z6R P U N ops.toList fr hp q π=some (ps,fr',hp',π')) (hps:ZD ps) (hi:Inv U w E hp) (hf:X8 U w E hp N a fr)
  (hQ:∀a' w' E',Inv U w' E' hp'→Zg U w E hp w' E' hp'→X8 U w' E' hp' N a' fr'→Q .normal a' w'):(Code.region id ops true).wp P Q a w:=by
 unfold Z6R at h
 split at h
 rename_i mh π0 hmaj
 split at h
 case h_2=>cases h
 rename_i qs F al π1 hok hmjok hpass
 simp only[Bool.and_eq_true]at hmjok
 have hmnd:=Z6U.1 hmjok.1
 have hmq:∀j∈mh.map (·.1),j<q:=fun j hj=>by
  obtain⟨m,hm,rfl⟩:=List.mem_map.1 hj
  exact Nat.le_of_ble_eq_true (List.all_eq_true.1 hmjok.2 m hm)
 split at h
 case h_2=>cases h
 rename_i fr2 hp2 hslok hlay
 split at h
 case h_2=>cases h
 rename_i rs fr3 hp3 π3 hrun
 simp only[Option.some.injEq,Prod.mk.injEq]at h
 obtain⟨rfl,rfl,rfl,rfl⟩:=h
 rw[YG]at hps
 simp only[Z9a,Bool.and_eq_true]at hok
 obtain⟨⟨k1,k2⟩,k4,k3,k5⟩:=hok
 have hnd:=Z6U.1 k1
 obtain⟨_,hald,hsl,facts⟩:=Z2c _ _ _ _ _ _ _ _ _ hpass hps.1 k1
 simp only[Z9c,Bool.and_eq_true]at hslok
 obtain⟨⟨⟨hs1,hs2⟩,hs3⟩,hsm⟩:=hslok
 have hslnd:=Z6U.1 hs1
 have hslw:∀s∈al.2,∀x∈al.1,x.1=s.2.1→(ZH x.2.2).length=(ZH s.2.2).length:=fun s hs x hx e=>by
  have:=List.all_eq_true.1 (List.all_eq_true.1 hs2 s hs) x hx
  rw[e,Nat.beq_refl]at this
  simp only[Bool.not_true,Bool.false_or,Bool.and_eq_true]at this
  exact Nat.eq_of_beq_eq_true this.1
 have hslk:∀s∈al.2,∀x∈al.1,x.1=s.2.1→wk x.2.2=none∧wk s.2.2=none:=fun s hs x hx e=>by
  have:=List.all_eq_true.1 (List.all_eq_true.1 hs2 s hs) x hx
  rw[e,Nat.beq_refl]at this
  simp only[Bool.not_true,Bool.false_or,Bool.and_eq_true,Option.isNone_iff_eq_none]at this
  exact this.2
 have hsla:∀s∈al.2,∃x∈al.1,x.1=s.2.1:=fun s hs=>by
  obtain⟨x,hx,e⟩:=List.any_eq_true.1 (List.all_eq_true.1 hs3 s hs)
  exact⟨x,hx,Nat.eq_of_beq_eq_true e⟩
 have hslm:∀s∈al.2,(mh.map (·.1)).contains s.1=true→False:=by
  intro s hs hc
  have:=List.all_eq_true.1 hsm s hs
  rw[hc]at this
  cases this
 have halnd:(al.1.map (·.1)).Nodup:=hnd.sublist (TQ _ _ _ _ _ _ _ _ _ hpass)
 -- how the order is held
 have mem:∀(i:Nat) o,ops[i]?=some o→(o,i)∈ops.toList.zipIdx:=fun i o ho=>by
  rw[List.mem_zipIdx_iff_getElem?];simpa using ho
 have memq:∀(i:Nat) o,i<q→ops[i]?=some o→(o,i)∈(ops.toList.take q).zipIdx:=fun i o hiq ho=>by
  rw[List.mem_zipIdx_iff_getElem?];rw[List.getElem?_take_of_lt hiq];simpa using ho
 have mget:∀(i:Nat) o,ops[i]?=some o→∃m,(WB ops.toList [])[i]?=some m:=fun i o ho=>by
  have hl:(WB ops.toList []).length=ops.size:=by rw[Z9e];simp
  exact⟨_,List.getElem?_eq_getElem (by rw[hl];exact(Array.getElem?_eq_some_iff.1 ho).1)⟩
 have mspec:∀(i:Nat) o m,ops[i]?=some o→(WB ops.toList [])[i]?=some m→∀listed,Wf ops listed→(∀e∈o.after,Region.binds .any e=true→listed.getD e.on false=true)→∀j,m.testBit j=true→listed.getD j false=true:=
  fun i o m ho hm listed hc hd=>Z9g hc ops.toList [] (fun i=>by simp) (fun i o m _ hm=>by simp at hm) i o m ho hm hd
 have h4:∀(i:Nat) o,ops[i]?=some o→∀e∈o.after,Region.binds .any e=true→e.on<i:=by
  intro i o ho e he hb
  have:=List.all_eq_true.1 k4 _ (mem i o ho)
  have:=List.all_eq_true.1 this e (by simpa using he)
  rw[hb]at this
  exact Nat.le_of_ble_eq_true this
 have h3:∀i o,q≤i→ops[i]?=some o→∀listed,Wf ops listed→(∀e∈o.after,Region.binds .any e=true→listed.getD e.on false=true)→∀j,j<i→listed.getD j false=true:=by
  intro i o hqi ho listed hc hd j hj
  obtain⟨m,hm⟩:=mget i o ho
  have:=List.all_eq_true.1 k3 _ (mem i o ho)
  simp only[Bool.or_eq_true]at this
  rcases this with h|h
  ·have:=Nat.le_of_ble_eq_true h;omega
  ·have:=List.all_eq_true.1 h j (List.mem_range.2 hj)
   rw[hm]at this
   exact mspec i o m ho hm listed hc hd j this
 have h2:∀(i:Nat) o,i<q→ops[i]?=some o→∀t∈X9 ops.toList o,∀(j:Nat) o',j<q→ops[j]?=some o'→o'.dst=some t→(j<i∧∀listed,Wf ops listed→(∀e∈o.after,Region.binds .any e=true→listed.getD e.on false=true)→listed.getD j false=true)∨(o.dst≠none∧i<j∧∀listed,Wf ops listed→listed.getD i false=false→listed.getD j false=false):=by
  intro i o hiq ho t ht j o' hjq ho' hd'
  obtain⟨m,hm⟩:=mget i o ho
  have:=List.all_eq_true.1 k5 _ (memq i o hiq ho)
  have:=List.all_eq_true.1 this t ht
  have:=List.all_eq_true.1 this _ (memq j o' hjq ho')
  simp only[hd',Nat.beq_refl,Bool.not_true,Bool.false_or,Bool.or_eq_true,Bool.and_eq_true]at this
  rcases this with this|⟨⟨hds,hij⟩,hb⟩
  ·rw[hm]at this
   exact .inl ⟨Nat.le_of_ble_eq_true this.1,fun listed hc hd=>mspec i o m ho hm listed hc hd j this.2⟩
  ·obtain⟨mj,hmj⟩:=mget j o' ho'
   rw[hmj]at hb
   refine .inr ⟨fun e=>(by rw[e]at hds;cases hds),Nat.le_of_ble_eq_true hij,fun listed hc hli=> ?_⟩
   cases hlj:listed.getD j false with
   |false=>rfl
   |true=>
    have:=mspec j o' mj ho' hmj listed hc (fun e he hb'=>hc j o' ho' hlj e he hb') i hb
    rw[hli]at this;cases this
 have hrange:∀(i:Nat) o,i<q→ops[i]?=some o→∀listed,Wf ops listed→(∀e∈o.after,Region.binds .any e=true→listed.getD e.on false=true)→listed.getD i false=false→
   loR (WB ops.toList []) (mh.map (·.1)) i≤Xm (mh.map (·.1)) listed∧Xm (mh.map (·.1)) listed≤hiR (WB ops.toList []) (mh.map (·.1)) i:=by
  intro i o hiq ho listed hc hd hli
  obtain⟨m,hm⟩:=mget i o ho
  refine⟨Z6W _ fun j _ hb=> ?_,Z6W _ fun j hj hb=> ?_⟩
  ·rw[hm]at hb
   exact mspec i o m ho hm listed hc hd j hb
  ·have hji:j≠i:=fun e=>by subst e;rw[hli]at hb;cases hb
   have hjq:=hmq j hj
   have hjs:j<ops.size:=by have:=Nat.le_of_ble_eq_true k2;simp at this;omega
   have hoj:=Array.getElem?_eq_getElem hjs
   obtain⟨mj,hmj⟩:=mget j _ hoj
   have h1:Nat.beq j i=false:=by
    cases hb:Nat.beq j i with
    |false=>rfl
    |true=>exact absurd (Nat.eq_of_beq_eq_true hb) hji
   rw[h1,hmj]
   cases hbit:((some mj).getD 0).testBit i with
   |false=>simp
   |true=>
    have:=mspec j _ mj hoj hmj listed hc (fun e he hb'=>hc j _ hoj hb e he hb') i hbit
    rw[hli]at this;cases this
 refine wp_region_any hmix ?_
 have hqs:q≤ops.size:=by have:=Nat.le_of_ble_eq_true k2;simpa using this
 ·let w0:World:= { w with drawn:=w.drawn+1 }
  have i0:Inv U w0 E hp:=Inv.heap (w:=w) (w':=w0) rfl hi
  have s0:Zg U w E hp w0 E hp:=Zg.same (w:=w) (w':=w0) rfl rfl rfl rfl
  have f0:X8 U w0 E hp N a fr:=⟨hf.size,hf.defers,hf.slots.step hi s0⟩
  have hF0:∀t,(∀o∈ops.toList.take q,o.dst≠some t)→FLe (ZL fr t) (ZL F t):=(Z2c _ _ _ _ _ _ _ _ _ hpass hps.1 k1).1
  have hfalse:∀(i:Nat) (x:Bool),i<ops.size→(Array.replicate ops.size false).getD i x=false:=fun i x hi=>by
   rw[Array.getD_eq_getD_getElem?,Array.getElem?_replicate,if_pos hi];rfl
  have hfalse2:∀(i:Nat),(Array.replicate ops.size false).getD i false=false:=fun i=>by
   rw[Array.getD_eq_getD_getElem?,Array.getElem?_replicate];split <;> rfl
  have hc0:Xm (mh.map (·.1)) (Array.replicate ops.size false)=0:=by
   unfold Xm WY
   rw[List.filter_eq_nil_iff.2 (fun j _=>by rw[hfalse2];exact Bool.false_ne_true)]
   rfl
  have main:=ZdE (P:=P) (U:=U) (N:=N) (ops:=ops) (q:=q) (Q:=Q) (F:=F) (fr0:=fr) (al:=al.1) (sl:=al.2) (w0:=w0) (E0:=E) hqs hmnd hmq hrange facts hnd halnd hald hsl hslnd hslw hslk hsla hslm h2 h3 h4
   (fun listed a1 w1 E1 hls hc hlo hhi i1 s1 f1=>by
    simp only[List.length_map,hlay]at i1 s1 f1
    exact Z6V h3 h4 (ops.size-q) q listed a1 w1 E1 hp2 fr2 π1 rs (Nat.le_refl _) (by omega) hls hc hlo hhi hrun hps.2 i1 f1
     (fun a2 w2 E2 i2 s2 f2=>hQ a2 w2 E2 i2 ((s0.trans s1).trans s2) f2))
   q (Array.replicate ops.size false) a w0 E (fun _=>0)
   ⟨by rw[hc0];exact i0,by rw[hc0];exact Zg.refl ..,f0.size,f0.defers,fun i o ho hl=>(by rw[hfalse2]at hl;cases hl),by simp,fun t ht=>(by
    rcases ht with h|⟨i,o,_,_,_,hl⟩
    ·rw[hc0];exact(hF0 t h).up (f0.slots t)
    ·rw[hfalse2]at hl;cases hl),fun d e z _ ⟨i,o,_,_,_,hl⟩=>(by rw[hfalse2]at hl;cases hl),fun d e z d' e' z' _ _ ⟨i,o,_,_,_,hl⟩=>(by rw[hfalse2]at hl;cases hl),fun i _ hi=>hfalse i true hi,fun t j o hjq ho hd hl=>(by rw[hc0];exact f0.slots t)⟩
   (by
    have:(List.range q).filter (fun i=> !(Array.replicate ops.size false).getD i false)=List.range q:=List.filter_eq_self.2 fun i _=>by rw[hfalse2];rfl
    rw[this];simp)
  rwa [show q+(ops.size-q)=ops.size from by omega]at main
end
end Go.Eng
