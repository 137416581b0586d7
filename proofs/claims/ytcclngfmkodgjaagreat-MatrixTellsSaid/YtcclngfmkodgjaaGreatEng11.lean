/- The engine, part 11: every operation, in one word. -/
import Derived.Test.YtcclngfmkodgjaaGreatEngX
import Derived.LaidEqlPtr
import Derived.Lib.Builder
import Derived.Laws.Externs
import Derived.Lib.UnsafeStr
import Derived.Laws.StructEq
set_option linter.unusedVariables false
set_option linter.unusedSectionVars false
set_option linter.unusedSimpArgs false
namespace Go.Eng
open Go
variable {D:Den} [Gl D]

section
variable {P:Program} {U:Zu D} {o:Oper} {a:Act} {w:World} {E:Emb} {hp:Z3 D}

theorem Z25 {fr:Fr D} (hi:Inv U w E hp) (hf:XX U w E hp a fr) (xs:Array Operand) (tys:List Nat):ZW U w E hp (xs.map a.eval).toList (W6 P fr tys xs.toList):=by
 have:=Z8L (P:=P) hi hf xs.toList tys
 rwa [←Array.toList_map]at this

theorem Z26 {fr:Fr D} (hi:Inv U w E hp) (hf:XX U w E hp a fr) (ty:Nat×Operand→Nat):∀(parts:List (Nat×Operand)),
  U3 U w E hp (parts.map fun q=>(q.1,a.eval q.2)) (parts.map fun q=>(q.1,Zv P fr (ty q) q.2))
 | []=>trivial
 |q::r=>⟨rfl,ZY hi hf _ _,Z26 hi hf ty r⟩

theorem Z27 {k k':IntKind} (h:(k==k')=true):k=k':=by
 simpa using h

theorem Zd8 {fr:Fr D} {op:BinOp} {xt yt:Nat} {x y:Operand} {va vb:Value} {π:List (Ans D)} {r:Res D} (h:Z4e P op xt va vb hp x y π=some r) (hobl:ZD r.obl):
  r.hp=hp∧∃v,(do eqGuard op xt x y va vb;binOp op xt va vb:Sem Value).run P w= .ok v w∧r.val= .v v:=by
 unfold Z4e at h
 split at h
 ·split at h
  ·rename_i hk
   have:=Z27 hk;subst this
   injection h with h;subst h
   have hne:=hobl.1
   exact⟨rfl,_,by simp[eqGuard,binOp,Op.intDiv,hne],rfl⟩
  ·cases h
 ·split at h
  ·rename_i hk
   have:=Z27 hk;subst this
   injection h with h;subst h
   have hne:=hobl.1
   exact⟨rfl,_,by simp[eqGuard,binOp,Op.intDiv,hne],rfl⟩
  ·cases h
 ·injection h with h;subst h
  rename_i n
  have hle:(0:Int)≤n:=hobl.1
  have hlt:¬n<0:=by omega
  exact⟨rfl,_,by simp[eqGuard,binOp,Op.shift,hlt],rfl⟩
 ·injection h with h;subst h
  rename_i n
  have hle:(0:Int)≤n:=hobl.1
  have hlt:¬n<0:=by omega
  exact⟨rfl,_,by simp[eqGuard,binOp,Op.shift,hlt],rfl⟩
 ·injection h with h;subst h
  have hle:=hobl.1
  refine⟨rfl,_, ?_,rfl⟩
  simp[eqGuard,binOp,Op.stringOp]
  simp at hle
  omega
 ·split at h
  ·rename_i v hv
   injection h with h;subst h
   exact⟨rfl,v,Z6i hv w,rfl⟩
  ·cases h

theorem Z6K {t off:Nat} {row:List (AV D)} {vs:List Value} {c:AV D} (h:ld P t off row=some c) (hr:ZW U w E hp vs row):∃v,(part t ⟨vs⟩ off).run P w= .ok v w∧Rep U w E hp v c:=by
 unfold ld at h
 split at h
 ·rename_i hag
  split at h
  case h_2=>cases h
  rename_i n hn
  split at h
  case h_2=>cases h
  rename_i hle
  injection h with h;subst h
  have hle:off+n≤row.length:=Nat.le_of_ble_eq_true hle
  obtain⟨ti,hti,htn⟩:∃i,P.info? t=some i∧i.size=n:=by
   simp only[ZT,Option.map_eq_some_iff]at hn;exact hn
  have hag2:(isAgg t).run P w= .ok true w:=by
   unfold Z1P at hag
   unfold isAgg
   split at hag
   ·rename_i fs hu;simp[run_underlying hu]
   ·rename_i a b hu;simp[run_underlying hu]
   ·simp at hag
   ·simp at hag
  refine⟨.agg (Array.extract ⟨vs⟩ off (off+n)), ?_, ?_⟩
  ·simp[part,hag2,sizeOf,typeInfo,hti,htn]
  ·have:(Array.extract (⟨vs⟩:Array Value) off (off+n))=⟨(vs.drop off).take n⟩:=by
    apply Array.ext';simp[List.extract_eq_take_drop,List.drop_take]
   rw[this]
   refine .agg _ _ ?_ fun k x d hx hd=> ?_
   ·simp[hr.1]
   ·rw[List.getElem?_take]at hx hd
    split at hx
    ·rename_i hk
     rw[if_pos hk]at hd
     rw[List.getElem?_drop]at hx hd
     exact hr.2 _ x d hx hd
    ·cases hx
 ·rename_i hag
  have hag2:(isAgg t).run P w= .ok false w:=by
   unfold Z1P at hag
   unfold isAgg
   split at hag
   ·simp at hag
   ·simp at hag
   ·rename_i d h1 h2 hu
    have:(underlying t).run P w= .ok d w:=run_underlying hu w
    simp only[Sem.run_bind,this,Result.andThen_ok]
    first|rfl|(split <;> first|rfl|(exfalso;first|exact h1 _ rfl|exact h2 _ _ rfl))
   ·simp at hag
  have hlt:off<vs.length:=by rw[hr.1];exact(List.getElem?_eq_some_iff.1 h).1
  have hv:vs[off]?=some vs[off]:=List.getElem?_eq_getElem hlt
  exact⟨vs[off],by simp[part,hag2,hlt],hr.2 off _ c hv h⟩
 ·cases h

theorem Zd9 {t:Nat} {n:Int} {kk:IntKind} {π:List (Ans D)} {x:AV D} {v:Value} {r:Res D} (h:Z4p P hp t n π x=some r) (hobl:ZD r.obl) (hx:Rep U w E hp v x):
  r.hp=hp∧∃q,(Instr.indexAt t v (.int kk n)).run P w= .ok q w∧Rep U w E hp q r.val:=by
 unfold Z4p at h
 split at h
 case h_2=>cases h
 rename_i len e k π' hu
 have hu:P.underlying t=some (.array len e):=by
  unfold Z4o at hu
  split at hu
  ·rename_i n' e' hu';simp only[Option.some.injEq,Prod.mk.injEq]at hu;obtain⟨rfl,rfl⟩:=hu;exact hu'
  ·cases hu
 split at h
 case h_2=>cases h
 rename_i sz hsz hk
 have hk:k<len:=Nat.le_of_ble_eq_true hk
 obtain⟨ti,hti,htn⟩:∃i,P.info? e=some i∧i.size=sz:=by
  simp only[ZT,Option.map_eq_some_iff]at hsz;exact hsz
 have main:∀b base,n=(k:Int)→(Instr.indexAt t (.pointer (some ⟨b,base,none⟩)) (.int kk n)).run P w= .ok (.pointer (some ⟨b,base+k * sz,none⟩)) w:=by
  intro b base hn
  subst hn
  have h1:(0:Int)≤(k:Int)∧(k:Int) <(len:Int):=⟨by omega,by omega⟩
  have h2:¬len≤k:=by omega
  simp[Instr.indexAt,asIntOf,run_underlying hu,Instr.sureAddr,h1,h2,sizeOf,typeInfo,hti,htn,W7]
 split at h
 ·rename_i row ro
  injection h with h;subst h
  refine⟨rfl, ?_⟩
  have hx2:=UA hx
  cases hx2 with
  |rp _ _ b base vs hS hc hr=>
   refine⟨_,main b (base+ro) hobl.1, .pure _ _ ?_⟩
   have:=ZE.rp (U:=U) (w:=w) (S:=E.S) row (ro+k * sz) b base vs hS hc hr
   rwa [←Nat.add_assoc]at this
 ·rename_i id m i ro
  split at h
  case h_2=>cases h
  rename_i ob hob
  split at h
  case h_2=>cases h
  rename_i ps hps
  injection h with h;subst h
  refine⟨rfl, ?_⟩
  obtain⟨hn0,hobl2⟩:=hobl
  have hn:=Z4y hps hobl2
  obtain⟨⟨a0,ha0⟩,o1,ho1,hle,hh⟩:=Wz hx
  rw[hob]at ho1;injection ho1 with ho1;subst ho1
  have h3:=hh hn
  cases hm:E.m id with
  |none=>rw[hm]at h3;exact h3.elim
  |some q=>
   obtain⟨b,cap⟩:=q
   rw[hm]at h3
   simp only[XW]at h3
   subst h3
   refine⟨_,main b (i * ob.wid U+ro) hn0, .op _ _ _ _ _ ⟨⟨_,rfl⟩,ob,hob,hle,fun _=> ?_⟩⟩
   rw[hm]
   simp[XW,Nat.add_assoc]
 ·cases h
theorem Zda {t:Nat} {n:Int} {kk:IntKind} {π:List (Ans D)} {cs:List (AV D)} {v:Value} {r:Res D} (h:Z4q P hp t n π cs=some r) (hobl:ZD r.obl) (hx:Rep U w E hp v (.agg cs)):
  r.hp=hp∧∃q,(Instr.index t v (.int kk n)).run P w= .ok q w∧Rep U w E hp q r.val:=by
 unfold Z4q at h
 split at h
 case h_2=>cases h
 rename_i len e k π' hu
 have hu:P.underlying t=some (.array len e):=by
  unfold Z4o at hu
  split at hu
  ·rename_i n' e' hu';simp only[Option.some.injEq,Prod.mk.injEq]at hu;obtain⟨rfl,rfl⟩:=hu;exact hu'
  ·cases hu
 split at h
 case h_2=>cases h
 rename_i sz hsz hk
 have hk:k<len:=Nat.le_of_ble_eq_true hk
 obtain⟨ti,hti,htn⟩:∃i,P.info? e=some i∧i.size=sz:=by
  simp only[ZT,Option.map_eq_some_iff]at hsz;exact hsz
 split at h
 case h_2=>cases h
 rename_i av hav
 injection h with h;subst h
 refine⟨rfl, ?_⟩
 obtain⟨vs,rfl,hr⟩:=Vv hx
 obtain⟨q,hq,hrq⟩:=Z6K (P:=P) hav hr
 have hn:n=(k:Int):=hobl.1
 subst hn
 have h1:(0:Int)≤(k:Int)∧(k:Int) <(len:Int):=⟨by omega,by omega⟩
 refine⟨q, ?_,hrq⟩
 have h2:¬len≤k:=by omega
 simp[Instr.index,asIntOf,run_underlying hu,h1,h2,sizeOf,typeInfo,hti,htn,hq]

theorem Zdb {d t:Nat} {x y:Value} {a b:AV D} {r:Bool} (h:eqV P t a b=some r) (hx:Rep U w E hp x a) (hy:Rep U w E hp y b):(Op.equalIn (d+1) t x y).run P w= .ok r w:=by
 unfold eqV at h
 split at h
 ·rename_i k m k' n kk ha hb hu
  split at h
  case h_2=>cases h
  rename_i hk
  have:=Z27 hk;subst this
  injection h with h;subst h
  rw[WV ha hx,WV hb hy]
  exact run_equalIn_int w d t _ _ _ _ hu
 ·rename_i m n ha hb hu
  injection h with h;subst h
  rw[WV ha hx,WV hb hy]
  exact run_equalIn_bool w d t _ _ hu
 ·rename_i m n ha hb hu
  injection h with h;subst h
  rw[WV ha hx,WV hb hy]
  exact run_equalIn_string w d t _ _ hu
 ·cases h

theorem Z6L:∀(k d t:Nat) (x y:Value) (a b:AV D) (r:Bool),k≤d→eqC P k t a b=some r→Rep U w E hp x a→Rep U w E hp y b→(Op.equalIn d t x y).run P w= .ok r w
 |0,d,t,x,y,a,b,r,hk,h,hx,hy=>by simp[eqC]at h
 |k+1,0,t,x,y,a,b,r,hk,h,hx,hy=>by omega
 |k+1,d+1,t,x,y,a,b,r,hk,h,hx,hy=>by
  unfold eqC at h
  split at h
  ·cases ‹_›
  ·rename_i t1 u2 u3 u4 k0 t0 xs ys heq
   obtain rfl:k=t0:=by omega
   split at h
   case h_2=>cases h
   rename_i fs hu hst
   obtain⟨vs,rfl,hv⟩:=Vv hx
   obtain⟨us,rfl,hu2⟩:=Vv hy
   have hf:P.fieldsOf t1=fs:=by unfold Program.fieldsOf;rw[hu]
   rw[run_equalIn_struct w d t1 ⟨vs⟩ ⟨us⟩ (by rw[hf];exact hu) hst,hf]
   have go:∀(fs:List Field) (r:Bool),eqF P (eqC P k) xs ys fs=some r→(Op.eqFields d ⟨vs⟩ ⟨us⟩ fs).run P w= .ok r w:=by
    intro fs
    induction fs with
    |nil=>intro r h;simp[eqF]at h;subst h;rfl
    |cons f fs ih=>
     intro r h
     simp only[eqF]at h
     split at h
     case h_2=>cases h
     rename_i a b hn ha hb
     split at h
     case h_2=>cases h
     rename_i r1 q1 hr1 hq1
     injection h with h;subst h
     obtain⟨va,e1,g1⟩:=Z6K (P:=P) (U:=U) (w:=w) (E:=E) (hp:=hp) ha hv
     obtain⟨vb,e2,g2⟩:=Z6K (P:=P) (U:=U) (w:=w) (E:=E) (hp:=hp) hb hu2
     have e3:=Z6L k d f.type va vb a b r1 (by omega) hr1 g1 g2
     have hn : f.name ≠ "_" := by intro e; rw [e] at hn; simp at hn
     simp only[Op.eqFields,if_pos hn,Sem.run_bind,e1,e2,e3,Result.andThen_ok]
     cases r1
     ·simp
     ·simp only[Bool.not_true,Bool.false_eq_true,if_false,Bool.true_and];exact ih q1 hq1
   exact go _ _ h
  ·exact Zdb h hx hy

theorem Z4E {t e:Nat} (h:Z0g P t=some e):P.underlying t=some (.pointer e)∧∃j,P.info? e=some j:=by
 unfold Z0g at h
 split at h
 ·rename_i e' he
  split at h
  ·rename_i j hj
   injection h with h;subst h
   exact⟨he,j,hj⟩
  ·cases h
 ·cases h
theorem TO {x:Value} {id n i off:Nat} {ob:Zf D} {ps:List Prop} (h:Rep U w E hp x (.op id n i off)) (ho:hp[id]?=some ob) (hv:vld ob n=some ps) (hps:ZD ps):
  ∃b cap,E.m id=some (b,cap)∧x= .pointer (some ⟨b,i * ob.wid U+off,none⟩):=by
 obtain⟨_,o,ho',_,hh⟩:=Wz h
 rw[ho]at ho';injection ho' with ho';subst ho'
 have:=hh (Z4y hv hps)
 cases hm:E.m id with
 |none=>rw[hm]at this;exact this.elim
 |some q=>obtain⟨b,cap⟩:=q;rw[hm]at this;exact⟨b,cap,rfl,this⟩
theorem Z93 {x:Value} {id n i off:Nat} {ob:Zf D} {ps:List Prop} (h:Rep U w E hp x (.op id n i off)) (ho:hp[id]?=some ob) (hv:vld ob n=some ps) (hps:ZD ps):∃a,x= .pointer (some a):=by
 obtain⟨b,cap,_,h⟩:=TO h ho hv hps
 exact⟨_,h⟩
theorem Zdc {s d:Nat} {x y:AV D} {v:Value} (hi:Inv U w E hp) (h:Z6r P hp s d x=some y) (hx:Rep U w E hp v x):y=x∧(convert s d v).run P w= .ok v w:=by
 unfold Z6r at h
 split at h
 case h_2=>cases h
 rename_i id n i off
 split at h
 case h_2=>cases h
 rename_i e row ho hn h0
 have hn:=Nat.eq_of_beq_eq_true hn
 have h0:=Nat.eq_of_beq_eq_true h0
 subst hn;subst h0
 obtain⟨b,cap,hm,rfl⟩:=TO hx ho (ps:= []) rfl trivial
 have hob:=hi.obj id _ ho
 rw[hm]at hob
 obtain⟨c,e',hb,hcap,_,_,_,_,htie⟩:=hob
 have htie:e'=e:=htie rfl
 subst htie
 have hcl:c.length=row.length:=hcap
 have hsh:w.shape? b=some (e',row.length):=by simp[World.shape?,hb,hcl]
 rw[show(0:Nat) * Zf.wid U (.box e' row false)+off=off by simp]
 split at h
 ·rename_i t hs hd
  split at h
  case h_2=>cases h
  rename_i j hj hle
  split at h
  case h_2=>cases h
  rename_i hz
  injection h with h
  have hle:=Nat.le_of_ble_eq_true hle
  exact⟨h.symm,Lib.run_to_unsafe w _ hs hd hj (Nat.ne_of_beq_eq_false hz) hsh (show off<row.length by omega)⟩
 ·rename_i u hs hd
  split at h
  case h_2=>cases h
  rename_i j hj hl
  injection h with h
  exact⟨h.symm,Lib.run_from_unsafe w _ hs hd hj hsh hl⟩
 ·cases h
theorem Zdd {e:Nat} {z:AV D} (h:Z6s P e=some z):∃i v,P.info? e=some i∧i.zero=some v∧Rep U w E hp v z:=by
 unfold Z6s at h
 split at h
 case h_2=>cases h
 rename_i i hi
 split at h
 case h_2=>cases h
 rename_i vs hz
 injection h with h;subst h
 refine⟨i,_,hi,hz, ?_⟩
 have:=ZE.agg (U:=U) (w:=w) (S:=E.S) vs.toList (vs.toList.map (AV.v (D:=D))) (by simp) (fun k x c hx hc=>by
  rw[List.getElem?_map,hx]at hc
  injection hc with hc;subst hc
  exact .v x)
 exact .pure _ _ this
theorem Zde (w:World) (a:Addr) (n k:Nat) (h:k≠a.block):(w.freeze a n).heap[k]?=w.heap[k]?:=by
 unfold World.freeze
 split
 ·rfl
 ·simp only[Array.getElem?_modify]
  rw[if_neg (Ne.symm h)]
theorem Z6M (w:World) (a:Addr) (n:Nat):(w.freeze a n).heap.size=w.heap.size:=by
 unfold World.freeze
 split
 ·rfl
 ·simp
theorem Zdf {id b e ln:Nat} {l:List (D e)} {cap:Cap} (hi:Inv U w E hp) (ho:hp[id]?=some (.arr e l ln false)) (hm:E.m id=some (b,cap)) (n:Nat):
  ∃E',Inv U (w.freeze ⟨b,0,none⟩ n) E' (ZC hp id (.dead (ln+1) e))∧Zg U w E hp (w.freeze ⟨b,0,none⟩ n) E' (ZC hp id (.dead (ln+1) e)):=by
 let E':Emb:= { m:=fun j=>if j=id then none else E.m j,S:=E.S }
 have mold:∀j,j≠id→E'.m j=E.m j:=fun j hj=>by simp only[E'];rw[if_neg hj]
 have hown:Own E hp b:=⟨id,_,ho,rfl, .of hm⟩
 have hheap:∀k,k≠b→(w.freeze ⟨b,0,none⟩ n).heap[k]?=w.heap[k]?:=fun k hk=>Zde w ⟨b,0,none⟩ n k hk
 have get:∀j oj,(ZC hp id (.dead (ln+1) e))[j]?=some oj→(j=id∧oj= .dead (ln+1) e)∨(j≠id∧hp[j]?=some oj):=by
  intro j oj h
  rw[YQ]at h
  by_cases hj:j=id
  ·subst hj;rw[if_pos rfl,ho]at h;simp at h;exact .inl ⟨rfl,h.symm⟩
  ·rw[if_neg hj]at h;exact .inr ⟨hj,h⟩
 have hs:Zg U w E hp (w.freeze ⟨b,0,none⟩ n) E' (ZC hp id (.dead (ln+1) e)):=by
  refine⟨?_, ?_, ?_,fun q hq hno=> ?_,by rw[Z6M];exact Nat.le_refl _,fun k hk hno=>hheap k (fun e=>hno (e ▸hown)), ?_,fun _ h=>h,fun _ h=> .inl h, ?_⟩
  ·unfold World.freeze;split <;> rfl
  ·unfold World.freeze;split <;> rfl
  ·unfold World.freeze;split <;> rfl
  ·unfold World.frozen?
   rw[hheap q.block (fun e=>hno (e ▸hown))]
  ·rintro b' _ ⟨j,oj,g1,g2,g3⟩
   rcases get j oj g1 with⟨rfl,rfl⟩|⟨hj,h⟩
   ·cases g2
   ·exact⟨j,oj,h,g2,g3.congr (mold j hj).symm⟩
  ·intro j oj hj
   by_cases hji:j=id
   ·subst hji
    rw[ho]at hj;injection hj with hj;subst hj
    exact⟨.dead (ln+1) e,by rw[YQ,if_pos rfl,ho];rfl,rfl,Nat.le_succ _,fun h=>absurd h (by simp only[Zf.len];omega)⟩
   ·exact⟨oj,by rw[YQ,if_neg hji];exact hj,rfl,Nat.le_refl _,fun _=>by rw[mold j hji]⟩
 refine⟨E',⟨fun j oj hj=> ?_,fun i j oi oj b' g1 g2 f1 f2 m1 m2=> ?_,fun b' hb'=>by rw[Z6M];exact hi.sb b' hb',hi.gl' hs⟩,hs⟩
 ·rcases get j oj hj with⟨rfl,rfl⟩|⟨hji,h⟩
  ·simp only[E',if_true]
   trivial
  ·rw[mold j hji]
   refine(hi.obj j oj h).keep (fun b' b0 cp hm' hbb=>hheap b' (fun e'=> ?_)) (fun _ h=>h) (fun _ _ _ _ _ _ h=>h) (by rw[Z6M];exact Nat.le_refl _) (fun x a h=>hs.rep hi h) (fun x a h=>hs.prep hi h)
   subst e'
   have hbj:Blk E j b':=⟨b0,cp,hm',hbb.imp (fun h=>h) (·.1)⟩
   cases hfj:oj.fz with
   |true=>
    rcases hbb with rfl|⟨_,hbb⟩
    ·have:=hi.obj j oj h
     rw[hm']at this
     obtain⟨_,_,_,_,_,g1,_⟩:=this
     exact hown.notS hi (g1 hfj)
    ·rw[hfj]at hbb;cases hbb
   |false=>exact hji (hi.inj j id oj _ b' h ho hfj rfl hbj (.of hm))
 ·rcases get i oi g1 with⟨rfl,rfl⟩|⟨n1,h1'⟩
  ·cases f1
  ·rcases get j oj g2 with⟨rfl,rfl⟩|⟨n2,h2'⟩
   ·cases f2
   ·exact hi.inj i j oi oj b' h1' h2' f1 f2 (m1.congr (mold i n1).symm) (m2.congr (mold j n2).symm)
theorem Zdg {ats:Array TypeId} {ty:Nat} {x:AV D} {v:Value} {π:List (Ans D)} {r:Res D} (hi:Inv U w E hp) (h:Z4m hp π x=some r) (hobl:ZD r.obl) (hx:Rep U w E hp v x):
  r.hp=hp∧∃z,(Builtin.unsafeSliceData_ ats ty #[v]).run P w= .ok z w∧Rep U w E hp z r.val:=by
 unfold Z4m at h
 split at h
 ·rename_i id n
  split at h
  case h_2=>cases h
  rename_i e l ln ho
  injection h with h;subst h
  obtain⟨⟨hn,hl⟩,_⟩:=hobl
  obtain⟨_,o,ho',_,hh⟩:=W1 hx
  rw[ho]at ho';injection ho' with ho';subst ho'
  have hln:=Wj hi ho
  have hh:=hh hn
  have hob:=hi.obj id _ ho
  cases hm:E.m id with
  |none=>
   rw[hm]at hh
   have:=hh.1
   omega
  |some q=>
   obtain⟨b,cap⟩:=q
   rw[hm]at hh hob
   obtain⟨c,e0,hb,hcap,_⟩:=hob
   simp only[X3]at hh
   subst hh
   refine⟨rfl,_,Lib.run_unsafeSliceData_row w ats ty _ n cap.n (by have:=hcap.2.1;omega), ?_⟩
   refine .op _ _ _ _ _ ⟨⟨_,rfl⟩,_,ho,by simp only[Zf.len];omega,fun _=> ?_⟩
   rw[hm]
   simp[XW]
 ·injection h with h;subst h
  have:=Yo hx
  subst this
  exact⟨rfl,_,rfl, .v _⟩
 ·cases h
theorem Zdh {pt it ty:Nat} {x y:AV D} {vx vy:Value} {π:List (Ans D)} {r:Res D} (hi:Inv U w E hp) (h:Z6t P U pt hp x y π=some r) (hobl:ZD r.obl) (hx:Rep U w E hp vx x) (hy:Rep U w E hp vy y):
  ∃z w' E',(Builtin.unsafeString_ #[pt,it] ty #[vx,vy]).run P w= .ok z w'∧Inv U w' E' r.hp∧Zg U w E hp w' E' r.hp∧Rep U w' E' r.hp z r.val:=by
 unfold Z6t at h
 split at h
 ·rename_i id n i off m
  split at h
  case h_2=>cases h
  rename_i e l ln str π' ho
  split at h
  case h_2=>cases h
  rename_i e' hpe h0 h1 hc1 hw1
  split at h
  case h_2=>cases h
  rename_i hee
  injection h with h;subst h
  obtain⟨⟨hn,hm,hl0,hl63,bs,hfl,rfl⟩,_⟩:=hobl
  have h0:=Nat.eq_of_beq_eq_true h0
  have h1:=Nat.eq_of_beq_eq_true h1
  have hee:=Nat.eq_of_beq_eq_true hee
  have hc1:=Nat.eq_of_beq_eq_true hc1
  have hw1:U.width e=1:=Nat.eq_of_beq_eq_true hw1
  subst h0;subst h1;subst hee;subst hm
  have hvy:=Yo hy
  subst hvy
  obtain⟨b,cap,hmm,rfl⟩:=TO hx ho (ps:= [n=ln]) rfl ⟨hn,trivial⟩
  have hob:=hi.obj id _ ho
  rw[hmm]at hob
  obtain⟨c,e0,hb,hcap,hrep,_,_,_,htie⟩:=hob
  have htie:e0=e':=htie rfl
  subst htie
  have hbl:bs.length=l.length:=by
   have:=Yp (U:=U) e0 l
   rw[hfl,List.length_map,hw1,Nat.mul_one]at this
   exact this
  have hcl:bs.length≤c.length:=by
   rw[hcap.1,hw1,Nat.mul_one,hbl];exact hcap.2.1
  have hbs:bs≠ []:=by intro e;rw[e]at hbl;simp at hbl;omega
  have hrun:=Lib.run_unsafeString_row (P:=P) w pt it ty e0 (Z4E hpe).1 hc1 b c.length (by simp[World.shape?,hb]) bs hbs hcl (by omega) (fun j x hx=>by
   obtain⟨v,hv,hr⟩:=hrep j (.v (.int .u8 x.toNat)) (by
    show(Z5 U e0 l)[j]?=_
    rw[hfl,List.getElem?_map,hx];rfl)
   have:=Yo (hr.rep:Rep U w E hp v (.v (.int .u8 x.toNat)))
   subst this
   rw[W7]
   simp[World.cell?,hb,hv])
  obtain⟨E',i2,s2⟩:=Zdf hi ho hmm bs.length
  rw[hbl]at hrun
  refine⟨_,_,E', ?_,i2,s2, .v _⟩
  have e9:(0:Nat) * Zf.wid U (.arr e0 l ln false)+0=0:=by simp
  rw[e9,hbl]
  exact hrun
 ·injection h with h;subst h
  have h1:=Yo hx
  have h2:=Yo hy
  subst h1;subst h2
  exact⟨_,w,E,Lib.run_unsafeString_none w pt it ty none,hi,Zg.refl .., .v _⟩
 ·cases h
theorem Zdi {t t2 e ty:Nat} {x y:AV D} {vx vy:Value} {π:List (Ans D)} {r:Res D} (hi:Inv U w E hp) (he:Ye P t=some e) (h:Z6u P U e t2 hp x y π=some r) (hobl:ZD r.obl) (hx:Rep U w E hp vx x) (hy:Rep U w E hp vy y):
  ∃v w' E',(Builtin.append_ #[t,t2] ty #[vx,vy]).run P w= .ok v w'∧Inv U w' E' r.hp∧Zg U w E hp w' E' r.hp∧Rep U w' E' r.hp v r.val:=by
 unfold Z6u at h
 split at h
 ·rename_i id n s hst
  split at h
  case h_2=>cases h
  rename_i e' l ln hob
  split at h
  case h_2=>cases h
  rename_i e4 l4 n4 π'
  split at h
  case h_2=>cases h
  rename_i sz hsz hzk hw1 hee
  split at h
  case h_2=>cases h
  rename_i hs1
  injection h with h;subst h
  obtain⟨⟨hn,hn4,hb,h63,hex⟩,_⟩:=hobl
  have hs1:sz=U.width e':=Nat.eq_of_beq_eq_true hs1
  subst hs1
  have hw1:U.width e'=1:=Nat.eq_of_beq_eq_true hw1
  have hvy:=Yo hy
  subst hvy
  have hk:P.underlying t2=some .string:=by
   unfold Ve at hst
   split at hst
   ·assumption
   ·cases hst
  have hsrc:Src P (U.width e') t2 (.string s) s.size (byteCells s) w:=by rw[hw1];exact Src.ofString w hk s
  have hnr:YJ U w E.S (byteCells s) ((byteCells s).map (AV.v (D:=D))):=⟨by simp,fun k v c hv hc=>by
   rw[List.getElem?_map,hv]at hc
   injection hc with hc;subst hc
   exact .v v⟩
  subst hn4
  obtain⟨xs,hx1,hx2⟩:=hex
  exact Z8T (ty:=ty) hi he hob (Nat.eq_of_beq_eq_true hee) hsz hsrc hnr hn hb h63 (UE hzk) ⟨xs,hx1,hx2⟩ hx
 ·rename_i s hst
  split at h
  case h_2=>cases h
  rename_i e2 l n2 π'
  split at h
  case h_2=>cases h
  rename_i sz hsz hzk hw1 hee
  split at h
  case h_2=>cases h
  rename_i hs1
  injection h with h;subst h
  obtain⟨⟨hs0,hb,h63,hll,hn2,hfl⟩,_⟩:=hobl
  have hs1:sz=U.width e2:=Nat.eq_of_beq_eq_true hs1
  subst hs1
  have hw1:U.width e2=1:=Nat.eq_of_beq_eq_true hw1
  have hvx:=Yo hx
  have hvy:=Yo hy
  subst hvx;subst hvy
  have hk:P.underlying t2=some .string:=by
   unfold Ve at hst
   split at hst
   ·assumption
   ·cases hst
  have hsrc:Src P (U.width e2) t2 (.string s) s.size (byteCells s) w:=by rw[hw1];exact Src.ofString w hk s
  have hnr:YJ U w E.S (byteCells s) ((byteCells s).map (AV.v (D:=D))):=⟨by simp,fun k v c hv hc=>by
   rw[List.getElem?_map,hv]at hc
   injection hc with hc;subst hc
   exact .v v⟩
  subst hn2
  exact ZcJ (ty:=ty) hi he (Nat.eq_of_beq_eq_true hee) hsz hsrc hnr hb h63 hs0 (UE hzk) hll hfl
 ·cases h
theorem Zdj {op:BinOp} {t:Nat} {va vb:Value} {a b:AV D} {x y:Operand} {π:List (Ans D)} {r:Res D} {act:Act} (h:Z4f P op t a b y hp π=some r) (hx:Rep U w E hp va a) (hy:Rep U w E hp vb b) (hc:Z6n y=true→vb= .slice none 0 0) (hobl:ZD r.obl):
  r.hp=hp∧∃v,(do eqGuard op t x y va vb;binOp op t va vb:Sem Value).run P w= .ok v w∧Rep U w E hp v r.val:=by
 unfold Z4f at h
 split at h
 ·rename_i xs ys
  obtain⟨vs,rfl,_⟩:=Vv hx
  obtain⟨us,rfl,_⟩:=Vv hy
  split at h
  ·rename_i r0 hg he
   injection h with h;subst h
   have e1:=Z6L 10 10000 t _ _ _ _ _ (by omega) he hx hy
   have e2:=run_eqGuard_agg (P:=P) w .eql t x y ⟨vs⟩ ⟨us⟩ hg
   exact⟨rfl, .bool r0,by simp only[Sem.run_bind,e2,Result.andThen_ok,run_eql_struct,e1], .v _⟩
  ·rename_i r0 hg he
   injection h with h;subst h
   have e1:=Z6L 10 10000 t _ _ _ _ _ (by omega) he hx hy
   have e2:=run_eqGuard_agg (P:=P) w .neq t x y ⟨vs⟩ ⟨us⟩ hg
   exact⟨rfl, .bool !r0,by simp only[Sem.run_bind,e2,Result.andThen_ok,run_neq_struct,e1], .v _⟩
  ·cases h
 ·rename_i z tt l _
  obtain⟨ad,len,cap,rfl,rfl,_⟩:=Z0d hx
  have eqn:∀e,Ye P t=some e→(Op.equal t (.slice ad len cap) (.slice none 0 0)).run P w= .ok ad.isNone w:=by
   intro e he
   have h2:(Op.equalIn (9999+1) t (.slice ad len cap) (.slice none 0 0)).run P w= .ok ad.isNone w:=by
    unfold Op.equalIn
    cases ad <;> simp[run_underlying (XQ he)]
   exact h2
  split at h
  ·rename_i e hn he
   injection h with h;subst h
   rw[hc hn]
   exact⟨rfl, .bool ad.isNone,by simp[eqGuard,binOp,eqn e he], .db _⟩
  ·rename_i e hn he
   injection h with h;subst h
   rw[hc hn]
   exact⟨rfl, .bool !ad.isNone,by simp[eqGuard,binOp,eqn e he], .db _⟩
  ·cases h
 ·rename_i id n i off
  have hvb:=Yo hy
  subst hvb
  have eqn:∀(ad:Addr) e,Z0g P t=some e→(Op.equal t (.pointer (some ad)) (.pointer none)).run P w= .ok false w:=by
   intro ad e he
   have h2:(Op.equalIn (9999+1) t (.pointer (some ad)) (.pointer none)).run P w= .ok false w:=by
    unfold Op.equalIn
    simp[run_underlying (Z4E he).1]
   exact h2
  split at h
  ·rename_i ob e ho he
   split at h
   case h_2=>cases h
   rename_i ps hv
   injection h with h;subst h
   obtain⟨ad,rfl⟩:=Z93 hx ho hv hobl
   exact⟨rfl, .bool false,by simp[eqGuard,binOp,eqn _ e he], .db _⟩
  ·rename_i ob e ho he
   split at h
   case h_2=>cases h
   rename_i ps hv
   injection h with h;subst h
   obtain⟨ad,rfl⟩:=Z93 hx ho hv hobl
   exact⟨rfl, .bool true,by simp[eqGuard,binOp,eqn _ e he], .db _⟩
  ·cases h
 ·rename_i id n i off id2 n2 i2 off2
  split at h
  case h_2=>cases h
  rename_i b1 b2 b3
  have b1:=Nat.eq_of_beq_eq_true b1
  have b2:=Nat.eq_of_beq_eq_true b2
  have b3:=Nat.eq_of_beq_eq_true b3
  subst b1;subst b2;subst b3
  split at h
  ·rename_i ob e ho he
   split at h
   case h_2=>cases h
   rename_i ps qs hv hv2
   injection h with h;subst h
   rw[YG]at hobl
   obtain⟨b,cap,hm,rfl⟩:=TO hx ho hv hobl.1
   obtain⟨b',cap',hm',rfl⟩:=TO hy ho hv2 hobl.2
   rw[hm]at hm';injection hm' with hm';injection hm' with e1 e2;subst e1
   obtain⟨h1,j,h2⟩:=Z4E he
   exact⟨rfl, .bool true,by simp only[Sem.run_bind];rw[show(eqGuard .eql t x y (.pointer (some ⟨b,i * ob.wid U+off,none⟩)) (.pointer (some ⟨b,i * ob.wid U+off,none⟩))).run P w= .ok () w from by simp[eqGuard]];exact run_eql_ptr_same w _ h1 h2, .db _⟩
  ·rename_i ob e ho he
   split at h
   case h_2=>cases h
   rename_i ps qs hv hv2
   injection h with h;subst h
   rw[YG]at hobl
   obtain⟨b,cap,hm,rfl⟩:=TO hx ho hv hobl.1
   obtain⟨b',cap',hm',rfl⟩:=TO hy ho hv2 hobl.2
   rw[hm]at hm';injection hm' with hm';injection hm' with e1 e2;subst e1
   obtain⟨h1,j,h2⟩:=Z4E he
   exact⟨rfl, .bool false,by simp only[Sem.run_bind];rw[show(eqGuard .neq t x y (.pointer (some ⟨b,i * ob.wid U+off,none⟩)) (.pointer (some ⟨b,i * ob.wid U+off,none⟩))).run P w= .ok () w from by simp[eqGuard]];exact Lib.run_neq_ptr_same w _ h1 h2, .db _⟩
  ·cases h
 ·cases h

theorem Xq {s:Sem Value} {v:Value} {w':World} (h:s.run P w= .ok v w'):(do pure (Next.value (←s)):Sem Next).run P w= .ok (.value v) w':=by
 simp[h]

theorem Z94 {vs:List Value} {cs:List (AV D)} {k k':IntKind} {m n:Int} (h:cs.map toV= [some (.int k m),some (.int k' n)]) (hr:ZW U w E hp vs cs):
  ∃(_ _:Unit),vs= [.int k m, .int k' n]:=by
 obtain⟨hl,hr⟩:=hr
 cases cs with
 |nil=>simp at h
 |cons c1 cs=>
  cases cs with
  |nil=>simp at h
  |cons c2 cs=>
   cases cs with
   |cons c3 cs=>simp at h
   |nil=>
    simp at h
    match vs,hl,hr with
    | [v1,v2],_,hr=>
     have e1:=WV h.1 (hr 0 v1 c1 rfl rfl)
     have e2:=WV h.2 (hr 1 v2 c2 rfl rfl)
     exact⟨(),(),by rw[e1,e2]⟩
    | [],hl,_=>simp at hl
    | [v1],hl,_=>simp at hl
    |v1::v2::v3::vs,hl,_=>simp at hl

theorem Z4F {fr:Fr D} {π:List (Ans D)} {r:Res D} (hi:Inv U w E hp) (hf:XX U w E hp a fr) (h:opA P U fr hp o.type π o.op=some r) (hobl:ZD r.obl):
  Oks P U o a w E hp r.val r.hp:=by
 cases hop:o.op <;> rw[hop]at h <;> simp only[opA]at h
 case move x=>
  injection h with h;subst h
  exact YC hi (by simp[execOp,hop]) (ZY hi hf _ _)
 case assign x=>
  have hx:=ZY (P:=P) hi hf o.type x
  split at h
  ·rename_i t ht
   injection h with h;subst h
   rw[ht]at hx
   obtain⟨i1,s1⟩:=Z6x hi t false
   obtain⟨a0,ha0⟩:=WT hx
   refine Wm (v:=a.eval x) (by simp[execOp,hop]) i1 s1 (.os _ _ _ ⟨⟨a0,0,0,ha0⟩, .arr t [] 0 false,by simp,Nat.le_refl _,fun _=> ?_⟩)
   simp[Emb.upd,X3,ha0]
  ·injection h with h;subst h
   exact YC hi (by simp[execOp,hop]) hx
 case pick c x y=>
  have hc:=ZY (P:=P) hi hf o.type c
  split at h
  ·rename_i t ht
   injection h with h;subst h
   rw[ht]at hc
   have hb:=Wy hc
   cases t
   ·exact YC hi (v:=a.eval y) (by simp[execOp,hop,hb,asBool]) (ZY hi hf _ _)
   ·exact YC hi (v:=a.eval x) (by simp[execOp,hop,hb,asBool]) (ZY hi hf _ _)
  ·rename_i t ht
   split at h
   ·rename_i d π'
    injection h with h;subst h
    rw[ht]at hc
    have hb:=Z0b hc
    have:=hobl.1;subst this
    cases t
    ·exact YC hi (v:=a.eval y) (by simp[execOp,hop,hb,asBool]) (ZY hi hf _ _)
    ·exact YC hi (v:=a.eval x) (by simp[execOp,hop,hb,asBool]) (ZY hi hf _ _)
   ·cases h
  ·cases h
 case box e x=>
  split at h
  ·rename_i hok
   injection h with h;subst h
   exact Z6y hi hok (ZY hi hf _ _) (by simp[execOp,hop,Instr.box,Z1U])
  ·cases h
 case alloc e=>
  split at h
  ·split at h
   case h_2=>cases h
   rename_i z hz
   split at h
   case h_2=>cases h
   rename_i hok
   injection h with h;subst h
   obtain⟨i,v,hi1,hzz,hzr⟩:=Zdd (U:=U) (w:=w) (E:=E) (hp:=hp) hz
   exact Z6y hi hok hzr (by simp[execOp,hop,Instr.alloc,zeroValue,typeInfo,hi1,hzz,Z1U])
  split at h
  ·rename_i z hz
   split at h
   ·rename_i hok
    injection h with h;subst h
    obtain⟨i,v,hi1,hzz,hzr⟩:=WI (U:=U) (w:=w) (E:=E) (hp:=hp) hz
    exact Z6y hi hok hzr (by simp[execOp,hop,Instr.alloc,zeroValue,typeInfo,hi1,hzz,Z1U])
   ·cases h
  ·cases h
 case fieldAddr s x f=>
  split at h
  ·rename_i off hoff
   have hx:=ZY (P:=P) hi hf o.type x
   split at h
   ·rename_i row ro hrw
    injection h with h;subst h
    rw[hrw]at hx
    generalize hav:a.eval x=v at hx
    cases UA hx with
    |rp _ _ b base vs hS hc hr=>
     obtain⟨b',base',e1,hrun⟩:=Z8P (P:=P) (w:=w) (c:= .un) (r:=(.un:AV D)) hoff ⟨b,base+ro,rfl⟩
     injection e1 with e1;injection e1 with e1;injection e1 with e2 e3;subst e2;subst e3
     refine YC hi (by simp only[execOp,hop,hav];exact Xq hrun) (.pure _ _ ?_)
     have:=ZE.rp (U:=U) (w:=w) (S:=E.S) row (ro+off) b base vs hS hc hr
     rwa [←Nat.add_assoc]at this
   ·rename_i id n i ro hrw
    split at h
    ·rename_i ob hob
     split at h
     ·rename_i ps hps
      injection h with h;subst h
      rw[hrw]at hx
      have hn:=Z4y hps hobl
      obtain⟨⟨a0,ha0⟩,o1,ho1,hle,hh⟩:=Wz hx
      rw[hob]at ho1;injection ho1 with ho1;subst ho1
      have h3:=hh hn
      cases hm:E.m id with
      |none=>rw[hm]at h3;exact h3.elim
      |some q=>
       obtain⟨b,cap⟩:=q
       rw[hm]at h3
       simp only[XW]at h3
       obtain⟨b',base',e1,hrun⟩:=Z8P (P:=P) (w:=w) (c:= .un) (r:=(.un:AV D)) hoff ⟨b,i * ob.wid U+ro,h3⟩
       rw[h3]at e1;injection e1 with e1;injection e1 with e1;injection e1 with e2 e3;subst e2;subst e3
       refine YC hi (by simp only[execOp,hop];exact Xq hrun) (.op _ _ _ _ _ ⟨⟨_,rfl⟩,ob,hob,hle,fun _=> ?_⟩)
       rw[hm]
       simp[XW,Nat.add_assoc]
     ·cases h
    ·cases h
   ·cases h
  ·cases h
 case load t x=>
  have hx:=ZY (P:=P) hi hf o.type x
  obtain⟨e1,v,hrun,hr⟩:=Z8M hi h hobl hx
  rw[e1]
  exact YC hi (by simp[execOp,hop,hrun]) hr
 case store t p x=>
  obtain⟨e1,w',E',hrun,i1,s1⟩:=ZcA hi h hobl (ZY hi hf _ _) (ZY hi hf _ _)
  rw[e1]
  exact Zcn (by simp[execOp,hop,hrun]) i1 s1
 case nilCheck x=>
  have hx:=ZY (P:=P) hi hf o.type x
  split at h
  ·rename_i row ro hrw
   injection h with h;subst h
   rw[hrw]at hx
   have hp1:=UA hx
   have:∃ad,a.eval x= .pointer (some ad):=by
    generalize a.eval x=v at hp1
    cases hp1 with
    |rp=>exact⟨_,rfl⟩
   obtain⟨ad,had⟩:=this
   exact YC hi (v:=a.eval x) (by simp[execOp,hop,had]) hx
  ·rename_i id n i ro hrw
   split at h
   ·rename_i ob hob
    split at h
    ·rename_i ps hps
     injection h with h;subst h
     rw[hrw]at hx
     have hn:=Z4y hps hobl
     have hx2:=hx
     obtain⟨⟨a0,ha0⟩,o1,ho1,hle,hh⟩:=Wz hx
     rw[hob]at ho1;injection ho1 with ho1;subst ho1
     have h3:=hh hn
     cases hm:E.m id with
     |none=>rw[hm]at h3;exact h3.elim
     |some q=>
      rw[hm]at h3
      simp only[XW]at h3
      exact YC hi (v:=a.eval x) (by simp[execOp,hop,h3]) hx2
    ·cases h
   ·cases h
  ·rename_i f fi ca hrw
   injection h with h;subst h
   rw[hrw]at hx
   have hx2:=hx
   obtain⟨vs,ws,e1,_,_⟩:=Uz hx
   exact YC hi (v:=a.eval x) (by simp[execOp,hop,e1]) hx2
  ·cases h
 case binOp op xt x y yt=>
  split at h
  ·rename_i va vb hva hvb
   have ea:=WV hva (ZY (P:=P) hi hf xt x)
   have eb:=WV hvb (ZY (P:=P) hi hf yt y)
   obtain⟨e1,v,hrun,hv⟩:=Zd8 (P:=P) (w:=w) (fr:=fr) (yt:=yt) h hobl
   rw[e1,hv]
   exact YC hi (by simp only[execOp,hop,ea,eb];exact Xq hrun) (.v _)
  ·obtain⟨e1,v,hrun,hv⟩:=Zdj (P:=P) (w:=w) (act:=a) (x:=x) (va:=a.eval x) (vb:=a.eval y) h (ZY (P:=P) hi hf xt x) (ZY (P:=P) hi hf yt y) (fun hn=>by
    unfold Z6n at hn
    split at hn
    ·rfl
    ·cases hn) hobl
   rw[e1]
   exact YC hi (by simp only[execOp,hop];exact Xq hrun) hv
 case unOp op xt x=>
  split at h
  ·rename_i va hva
   have ea:=WV hva (ZY (P:=P) hi hf xt x)
   split at h
   ·rename_i v hv
    injection h with h;subst h
    exact YC hi (by simp only[execOp,hop,ea];exact Xq (Z6i hv w)) (.v _)
   ·cases h
  ·cases h
 case convert src dst x=>
  split at h
  ·rename_i va hva
   have ea:=WV hva (ZY (P:=P) hi hf src x)
   split at h
   ·rename_i v hv
    injection h with h;subst h
    exact YC hi (by simp only[execOp,hop,ea];exact Xq (Z6i hv w)) (.v _)
   ·cases h
  ·split at h
   ·rename_i y hy
    injection h with h;subst h
    obtain⟨rfl,hrun⟩:=Zdc hi hy (ZY (P:=P) hi hf src x)
    exact YC hi (by simp only[execOp,hop];exact Xq hrun) (ZY (P:=P) hi hf src x)
   obtain⟨z,hrun,e1,e2⟩:=Zd7 hi h hobl (ZY (P:=P) hi hf src x)
   rw[e1,e2]
   exact YC hi (by simp only[execOp,hop];exact Xq hrun) (.v _)
 case extract x i=>
  have hx:=ZY (P:=P) hi hf o.type x
  split at h
  ·rename_i cs hcs
   split at h
   ·rename_i c hc
    injection h with h;subst h
    rw[hcs]at hx
    obtain⟨vs,e1,hl,hr⟩:=Z0c hx
    have hlt:i<vs.length:=by rw[hl];exact(List.getElem?_eq_some_iff.1 hc).1
    have hg:vs[i]?=some vs[i]:=List.getElem?_eq_getElem hlt
    exact YC hi (v:=vs[i]) (by simp[execOp,hop,e1,Instr.extract,hlt]) (hr i _ c hg hc)
   ·cases h
  ·cases h
 case build t parts=>
  split at h
  ·rename_i av hav
   injection h with h;subst h
   have hpr:=Z26 (P:=P) hi hf (fun q=>Z4n P t q.1) parts.toList
   have hmap:(parts.map fun q=>(q.1,a.eval q.2)).toList=parts.toList.map fun q=>(q.1,a.eval q.2):=by simp
   rw[←hmap]at hpr
   obtain⟨v,hrun,hr⟩:=ZcD hav hpr
   exact YC hi (by simp only[execOp,hop];exact Xq hrun) hr
  ·cases h
 case buildSlice t n parts=>
  split at h
  ·rename_i e he
   split at h
   ·rename_i ids e' l ln π'
    split at h
    ·rename_i sz z hsz hee hpo hnp hn2 hz
     generalize hvw:vws hp ids ((parts.toList.map fun q=>(q.1,Zv P fr e q.2)).flatMap fun q=>ZH q.2)=pc at h
     obtain⟨ps,cs⟩:=pc
     split at h
     ·rename_i hs1 hs2 heq
      injection heq with heq1 heq2;subst heq1;subst heq2
      split at h
      ·rename_i hok
       injection h with h;subst h
       obtain⟨⟨hfl,hln,hln2⟩,hps⟩:=hobl
       subst hln2
       have hee:e=e':=Nat.eq_of_beq_eq_true hee
       subst hee
       have hs1:sz=U.width e:=Nat.eq_of_beq_eq_true hs1
       subst hs1
       have hpr:=Z26 (P:=P) hi hf (fun _=>e) parts.toList
       have hmap:(parts.map fun q=>(q.1,a.eval q.2)).toList=parts.toList.map fun q=>(q.1,a.eval q.2):=by simp
       rw[←hmap]at hpr
       obtain⟨v,w',E',hrun,i1,s1,r1⟩:=ZcL (P:=P) (n:=ln) (pv:=parts.map fun q=>(q.1,a.eval q.2)) hi he hsz hpo (by simp;exact(Nat.eq_of_beq_eq_true hnp).symm) (Nat.le_of_ble_eq_true hn2) (Nat.le_of_ble_eq_true hs2) ⟨z,hz⟩ hok hvw hps hfl hln hpr
       exact Wm (by simp only[execOp,hop];exact Xq hrun) i1 s1 r1
      ·cases h
     ·cases h
    ·cases h
   ·cases h
  ·cases h
 case makeFunc f first cap=>
  injection h with h;subst h
  have r1:=Z25 (P:=P) hi hf first []
  have r2:=Z25 (P:=P) hi hf cap []
  exact YC hi (v:= .func f (first.map a.eval) (cap.map a.eval)) (by simp[execOp,hop,Instr.makeFunc]) (Rep.fn f _ _ _ _ r1.1 r2.1 r1.2 r2.2)
 case makeSlice t l c=>
  split at h
  ·rename_i e n m he hl hc
   have el:=Yo (hl ▸ZY (P:=P) hi hf o.type l)
   have ec:=Yo (hc ▸ZY (P:=P) hi hf o.type c)
   split at h
   ·rename_i ids e' l' ln π'
    split at h
    ·rename_i sz z hsz hz hee
     generalize hvw:vws hp [] (ZH z)=pc at h
     obtain⟨ps,zc⟩:=pc
     split at h
     ·rename_i hs1 hzk heq
      injection heq with heq1 heq2;subst heq1;subst heq2
      injection h with h;subst h
      obtain⟨⟨h0,hnm,hb,h63,y,hy1,hy2⟩,hln2,hps⟩:=hobl
      subst hln2
      have hee:e=e':=Nat.eq_of_beq_eq_true hee
      subst hee
      have hs1:sz=U.width e:=Nat.eq_of_beq_eq_true hs1
      subst hs1
      obtain⟨v,w',E',hrun,i1,s1,r1⟩:=ZcP hi he hsz hz hzk (by rw[hvw];exact hps) h0 hnm hb h63 ⟨y,hy1,by rw[hvw];exact hy2⟩ .i64
      exact Wm (by simp only[execOp,hop,el,ec];exact Xq hrun) i1 s1 r1
     ·cases h
    ·cases h
   ·cases h
  ·cases h
 case slice t x lo hi' mx=>
  have q:∀(z:Option Operand) c,z.map (Zv P fr o.type)=some c→∃y,z.map a.eval=some y∧Rep U w E hp y c:=by
   intro z c hz
   cases z with
   |none=>simp at hz
   |some z=>simp at hz;subst hz;exact⟨_,rfl,ZY hi hf _ _⟩
  have q0:∀(z:Option Operand),z.map (Zv P fr o.type)=none→z.map a.eval=none:=by
   intro z hz;cases z <;> simp at hz⊢
  split at h
  ·rename_i sz m hsz
   obtain⟨e1,v,hrun,hr⟩:=ZcV (P:=P) (w:=w) (t:=t) (vmx:=some (a.eval m)) (by rw[hsz];rfl) h hobl hi (ZY (P:=P) hi hf o.type x) (q lo) (q0 lo) (q hi') (fun c hc=>by injection hc with hc;subst hc;exact⟨_,rfl,ZY hi hf _ _⟩)
   rw[e1]
   exact YC hi (by simp only[execOp,hop];exact Xq hrun) hr
  ·rename_i sz hsz
   obtain⟨e1,v,hrun,hr⟩:=ZcY (P:=P) (w:=w) (t:=t) hsz h hobl hi (ZY (P:=P) hi hf t x) (q lo) (q0 lo) (q hi') (q0 hi')
   rw[e1]
   exact YC hi (by simp only[execOp,hop];exact Xq hrun) hr
  ·split at h
   ·rename_i hst
    obtain⟨e1,v,hrun,hr⟩:=ZcZ (P:=P) (w:=w) (t:=t) hst h hobl (ZY (P:=P) hi hf t x) (q lo) (q0 lo) (q hi') (q0 hi')
    rw[e1]
    exact YC hi (by simp only[execOp,hop];exact Xq hrun) hr
   ·cases h
  ·cases h
 case index t x i=>
  split at h
  ·rename_i s k n hst hx hn
   injection h with h;subst h
   have e1:=Yo (hx ▸ZY (P:=P) hi hf t x)
   have e2:=Yo (hn ▸ZY (P:=P) hi hf o.type i)
   refine YC hi (v:= .int .u8 (Yr s n)) ?_ (.v _)
   simp only[execOp,hop]
   rw[e1,e2]
   exact Xq (Zd0 hst hobl.1.1 hobl.1.2)
  ·rename_i cs k n hst hx hn
   have e1:=hx ▸ZY (P:=P) hi hf t x
   have e2:=Yo (hn ▸ZY (P:=P) hi hf o.type i)
   obtain⟨e3,q,hrun,hr⟩:=Zda (kk:=k) h hobl e1
   rw[e3]
   exact YC hi (by simp only[execOp,hop,e2];exact Xq hrun) hr
  ·cases h
 case call c=>
  split at h
  ·rename_i f hcf
   have hc:=ZY (P:=P) hi hf o.type f
   have hargs:=Z25 (P:=P) hi hf c.args c.argTypes.toList
   unfold Z4h at h
   split at h
   ·split at h
    case h_2=>cases h
    rename_i g av hfv hav
    split at h
    case h_2=>cases h
    rename_i fn hfn
    injection h with h;subst h
    obtain⟨⟨n1,n2,n3,n4⟩,_⟩:=hobl
    rw[hfv]at hc
    rw[hav]at hargs
    obtain⟨vs0,ws0,hv,hl1,hl2⟩:=Uz hc
    have e1:vs0= []:=by have:=hl1.1;simpa using this
    have e2:ws0= []:=by have:=hl2.1;simpa using this
    subst e1;subst e2
    have hsz:(c.args.map a.eval).toList.length=1:=hargs.1
    obtain⟨v1,hv1⟩:∃v1,(c.args.map a.eval).toList= [v1]:=by
     cases hq:(c.args.map a.eval).toList with
     |nil=>rw[hq]at hsz;cases hsz
     |cons x r=>
      rw[hq]at hsz
      cases r with
      |nil=>exact⟨x,rfl⟩
      |cons y r=>simp at hsz
    have hr1:=hargs.2 0 v1 av (by rw[hv1];rfl) rfl
    have hv2:c.args.map a.eval= #[v1]:=by apply Array.ext';simpa using hv1
    refine YC hi (v:=v1) ?_ hr1
    have hcf2:(callFunc g #[v1]).run P w= .ok (.value v1) w:=by
     rw[run_callFunc_extern (P:=P) hfn n1 n2 n3 n4 #[v1] w,Lib.run_noEscape];rfl
    simp[execOp,hop,resolve,hcf,Deferred.ofValue,hv,invoke,hv2,hcf2]
   refine Zd3 hi h hobl hc hargs (fun k first cap hv hcal=> ?_)
   obtain⟨fn,hfn,hname,hbody⟩:=hcal
   have hname' : ¬ fn.name = "runtime.NumGoroutine" := by simpa using hname
   have hbody':¬fn.body=none:=by intro e;rw[e]at hbody;cases hbody
   have e9:(c.args.map a.eval).toList.toArray=c.args.map a.eval:=Array.toArray_toList
   rw[e9]
   simp[execOp,hop,resolve,hcf,Deferred.ofValue,hv,invoke,callFunc,hfn,hname',hbody']
  ·rename_i hcb
   split at h
   case h_2=>cases h
   rename_i x t hca hct
   have ea:c.args= #[x]:=by apply Array.ext';simpa using hca
   have et:c.argTypes= #[t]:=by apply Array.ext';simpa using hct
   have hx:=ZY (P:=P) hi hf t x
   have fin:∀(v:Value),(Builtin.len_ #[t] o.type #[a.eval x]).run P w= .ok v w→Oks P U o a w E hp (.v v) hp:=by
    intro v hv
    refine YC hi (v:=v) ?_ (.v _)
    simp only[execOp,hop,resolve,hcb,ea,et,invoke,builtin,Sem.run_bind,Sem.run_pure,Result.andThen_ok]
    simp[hv]
   split at h
   ·rename_i e k l hu hv
    injection h with h;subst h
    rw[hv]at hx
    generalize hav:a.eval x=v at hx
    refine fin _ ?_
    rw[hav]
    cases Vw hx with
    |sl=>simp[Builtin.len_,run_underlying hu,goInt]
    |sl0=>simp[Builtin.len_,run_underlying hu,goInt]
   ·rename_i e k hu hv
    injection h with h;subst h
    rw[hv]at hx
    obtain⟨a0,ha0⟩:=WT hx
    exact fin _ (by simp[ha0,Builtin.len_,run_underlying hu,goInt])
   ·rename_i e hu hv
    injection h with h;subst h
    rw[hv]at hx
    have ha0:=Yo hx
    exact fin _ (by simp[ha0,Builtin.len_,run_underlying hu,goInt])
   ·rename_i e id n hu hv
    split at h
    ·rename_i k l ln f hob
     injection h with h;subst h
     have hn:=hobl.1
     rw[hv]at hx
     obtain⟨_,o1,ho1,hle,hh⟩:=W1 hx
     rw[hob]at ho1;injection ho1 with ho1;subst ho1
     have h3:=hh hn
     cases hm:E.m id with
     |none=>
      rw[hm]at h3
      simp only[X3]at h3
      obtain⟨hn0,a0,ha0⟩:=h3
      exact fin _ (by simp[ha0,Builtin.len_,run_underlying hu,goInt,hn0])
     |some q=>
      obtain⟨b,cap⟩:=q
      rw[hm]at h3
      simp only[X3]at h3
      exact fin _ (by simp[h3,Builtin.len_,run_underlying hu,goInt])
    ·rename_i k l pm op ln hob
     injection h with h;subst h
     have hn:=hobl.1
     rw[hv]at hx
     obtain⟨_,o1,ho1,hle,hh⟩:=W1 hx
     rw[hob]at ho1;injection ho1 with ho1;subst ho1
     have h3:=hh hn
     cases hm:E.m id with
     |none=>
      rw[hm]at h3
      simp only[X3]at h3
      obtain⟨hn0,a0,ha0⟩:=h3
      exact fin _ (by simp[ha0,Builtin.len_,run_underlying hu,goInt,hn0])
     |some q=>
      obtain⟨b,cap⟩:=q
      rw[hm]at h3
      simp only[X3]at h3
      exact fin _ (by simp[h3,Builtin.len_,run_underlying hu,goInt])
    ·cases h
   ·rename_i e id n a1 b1 hu hv
    split at h
    ·rename_i k l ln f hob
     injection h with h;subst h
     have hn:=hobl.1
     rw[hv]at hx
     obtain⟨⟨x0,k0,c0,e0⟩,o1,ho1,hle,hh⟩:=Vd hx
     rw[hob]at ho1;injection ho1 with ho1;subst ho1
     obtain⟨hab,hbn,h3⟩:=hh hn
     have hk:k0=b1-a1:=by
      rw[e0]at h3
      cases hm:E.m id with
      |none=>
       rw[hm]at h3
       obtain⟨g1,xx,cc,g2⟩:=h3
       injection g2 with g2 g3 g4
       omega
      |some q=>
       obtain⟨b,cap⟩:=q
       rw[hm]at h3
       by_cases hz:b1-a1=0
       ·obtain⟨xx,cc,g2⟩:=h3.2.1 hz
        injection g2 with g2 g3 g4
        omega
       ·obtain⟨cc,_,g2⟩:=h3.1 (by omega)
        injection g2 with g2 g3 g4
     exact fin _ (by simp[e0,Builtin.len_,run_underlying hu,goInt,hk])
    ·cases h
   ·rename_i s hu hv
    injection h with h;subst h
    rw[hv]at hx
    have ha0:=Yo hx
    exact fin _ (by simp[ha0,Builtin.len_,run_underlying hu,goInt])
   ·cases h
  ·rename_i hcb
   split at h
   case h_2=>cases h
   rename_i x y t t2 hca hct
   have ea:c.args= #[x,y]:=by apply Array.ext';simpa using hca
   have et:c.argTypes= #[t,t2]:=by apply Array.ext';simpa using hct
   have hx:=ZY (P:=P) hi hf t x
   have hy:=ZY (P:=P) hi hf t y
   split at h
   ·rename_i e he he2
    have hy2:=ZY (P:=P) hi hf t2 y
    obtain⟨v,w',E',hrun,i1,s1,r1⟩:=Zdi (ty:=o.type) hi he h hobl hx hy2
    refine Wm ?_ i1 s1 r1
    simp only[execOp,hop,resolve,hcb,ea,et,invoke,builtin,Sem.run_bind,Sem.run_pure,Result.andThen_ok]
    simp[hrun]
   case h_3=>cases h
   rename_i e q2 he he2
   split at h
   ·rename_i id n hv
    split at h
    case h_2=>cases h
    rename_i e' l ln hob
    split at h
    case h_2=>cases h
    rename_i ids e4 l4 n4 π'
    split at h
    case h_2=>cases h
    rename_i sz ps e2 l2 hsz hee hnc hvw
    split at h
    case h_2=>cases h
    rename_i hs1 hs2 hs3
    injection h with h;subst h
    obtain⟨⟨hn,hn4,hb,h63,hex⟩,hps⟩:=hobl
    have hs1:sz=U.width e':=Nat.eq_of_beq_eq_true hs1
    subst hs1
    rw[hv]at hx
    have hl4:l4.length=l.length+l2.length:=by
     obtain⟨xs,hx1,hx2⟩:=hex
     injection hx1 with k1 k2 k3 k4
     subst k1
     have k2:=eq_of_heq k2
     have h1:=Yp (U:=U) e4 xs
     have h2:=Yp (U:=U) e2 l2
     rw[hx2,h2,Nat.eq_of_beq_eq_true hs2]at h1
     have:=Nat.eq_of_mul_eq_mul_right (U.pos e4) h1
     rw[k2,List.length_append]
     omega
    have hn4':n4=l.length+l2.length:=hn4.trans hl4
    subst hn4'
    obtain⟨v,w',E',hrun,i1,s1,r1⟩:=ZcI (ty:=o.type) hi he ⟨q2,he2⟩ hob (Nat.eq_of_beq_eq_true hee) hsz hnc hvw (Nat.eq_of_beq_eq_true hs2) hn hb h63 (UE hs3) hex hps hx hy
    refine Wm ?_ i1 s1 r1
    simp only[execOp,hop,resolve,hcb,ea,et,invoke,builtin,Sem.run_bind,Sem.run_pure,Result.andThen_ok]
    simp[hrun]
   ·rename_i e' hv
    split at h
    case h_2=>cases h
    rename_i ids e2 l n2 π'
    split at h
    case h_2=>cases h
    rename_i sz ps e3 l2 hsz hee hvw
    split at h
    case h_2=>cases h
    rename_i hs1 hs2 hs3
    injection h with h;subst h
    obtain⟨⟨hb,h63,hll,hfl,hn2⟩,hps⟩:=hobl
    have hn2':n2=l2.length:=hn2.trans hll
    subst hn2'
    have hs1:sz=U.width e2:=Nat.eq_of_beq_eq_true hs1
    subst hs1
    rw[hv]at hx
    obtain⟨v,w',E',hrun,i1,s1,r1⟩:=ZcK (ty:=o.type) hi he (Nat.eq_of_beq_eq_true hee) ⟨q2,he2⟩ hsz hvw (Nat.eq_of_beq_eq_true hs2) hb h63 (UE hs3) hll hfl hps hx hy
    refine Wm ?_ i1 s1 r1
    simp only[execOp,hop,resolve,hcb,ea,et,invoke,builtin,Sem.run_bind,Sem.run_pure,Result.andThen_ok]
    simp[hrun]
   ·rename_i id n a1 b1 hv
    split at h
    case h_2=>cases h
    rename_i e' l ln hob
    split at h
    case h_2=>cases h
    rename_i ids e4 l4 n4 π'
    split at h
    case h_2=>cases h
    rename_i sz ps e2 l2 hsz ha hvw
    split at h
    case h_2=>cases h
    rename_i hs1 hs2
    injection h with h;subst h
    obtain⟨⟨hn,hn4,hpos,hle,hids,hex⟩,hps⟩:=hobl
    have hs1:sz=U.width e':=Nat.eq_of_beq_eq_true hs1
    have ha:a1=0:=Nat.eq_of_beq_eq_true ha
    subst hs1;subst ha;subst hn4
    rw[hv]at hx
    obtain⟨xs,hx1,hx2⟩:=hex
    injection hx1 with k1 k2 k3 k4
    subst k1
    have k2:=eq_of_heq k2
    obtain⟨v,w',E',hrun,i1,s1,r1,r2⟩:=Zd6 (ty:=o.type) hi he ⟨q2,he2⟩ hob hsz hvw (Nat.eq_of_beq_eq_true hs2) hn hpos hle ⟨xs,k2,hx2⟩ hps hx hy
    have hrr:Rep U w' E' (ZC hp id (.arr e4 l4 n4 false)) v (Z8K ids id n (b1+l2.length)):=by
     cases ids with
     |nil=>exact r1
     |cons q r=>exact r2 (hids.resolve_left (by simp))
    refine Wm ?_ i1 s1 hrr
    simp only[execOp,hop,resolve,hcb,ea,et,invoke,builtin,Sem.run_bind,Sem.run_pure,Result.andThen_ok]
    simp[hrun]
   ·cases h
  ·rename_i hcb
   split at h
   case h_2=>cases h
   rename_i x t hca hct
   have ea:c.args= #[x]:=by apply Array.ext';simpa using hca
   have et:c.argTypes= #[t]:=by apply Array.ext';simpa using hct
   obtain⟨e1,z,hrun,hz⟩:=Zdg (P:=P) (ats:= #[t]) (ty:=o.type) hi h hobl (ZY (P:=P) hi hf t x)
   rw[e1]
   refine YC hi (v:=z) ?_ hz
   simp only[execOp,hop,resolve,hcb,ea,et,invoke,builtin,Sem.run_bind,Sem.run_pure,Result.andThen_ok]
   simp[hrun]
  ·rename_i hcb
   split at h
   case h_2=>cases h
   rename_i x y t t2 hca hct
   have ea:c.args= #[x,y]:=by apply Array.ext';simpa using hca
   have et:c.argTypes= #[t,t2]:=by apply Array.ext';simpa using hct
   obtain⟨z,w',E',hrun,i1,s1,r1⟩:=Zdh (P:=P) (it:=t2) (ty:=o.type) hi h hobl (ZY (P:=P) hi hf t x) (ZY (P:=P) hi hf t2 y)
   refine Wm ?_ i1 s1 r1
   simp only[execOp,hop,resolve,hcb,ea,et,invoke,builtin,Sem.run_bind,Sem.run_pure,Result.andThen_ok]
   simp[hrun]
  ·rename_i hcb
   split at h
   case h_2=>cases h
   rename_i x t hca hct
   have ea:c.args= #[x]:=by apply Array.ext';simpa using hca
   have et:c.argTypes= #[t]:=by apply Array.ext';simpa using hct
   split at h
   case h_2=>cases h
   rename_i e hse
   obtain⟨hv,w',E',hrun,i1,s1⟩:=Zd1 hi hse h hobl (ZY (P:=P) hi hf t x)
   rw[hv]
   have hrun2:(Builtin.clear_ #[t] o.type #[a.eval x]).run P w= .ok (.tuple #[]) w':=hrun
   refine Wm (v:= .tuple #[]) ?_ i1 s1 (.v _)
   simp only[execOp,hop,resolve,hcb,ea,et,invoke,builtin,Sem.run_bind,Sem.run_pure,Result.andThen_ok]
   simp[hrun2]
  ·rename_i hcb
   split at h
   case h_2=>cases h
   rename_i x y t t2 hca hct
   have ea:c.args= #[x,y]:=by apply Array.ext';simpa using hca
   have et:c.argTypes= #[t,t2]:=by apply Array.ext';simpa using hct
   split at h
   case h_2=>cases h
   rename_i e hse
   obtain⟨z,w',E',hrun,i1,s1,r1⟩:=Zd5 (t2:=t2) (ty:=o.type) hi hse h hobl (ZY (P:=P) hi hf t x) (ZY (P:=P) hi hf t2 y)
   refine Wm ?_ i1 s1 r1
   simp only[execOp,hop,resolve,hcb,ea,et,invoke,builtin,Sem.run_bind,Sem.run_pure,Result.andThen_ok]
   simp[hrun]
  ·rename_i hcb
   have hargs:=Z25 (P:=P) hi hf c.args c.argTypes.toList
   split at h
   case h_2=>cases h
   rename_i k m k' n hl
   split at h
   case h_2=>cases h
   rename_i hk
   have:=Z27 hk;subst this
   injection h with h;subst h
   obtain⟨x,y,hxy⟩:=Z94 hl hargs
   refine YC hi ?_ (.v _)
   simp only[execOp,hop,resolve,hcb,invoke,builtin,Sem.run_bind,Sem.run_pure,Result.andThen_ok]
   simp only[Builtin.max_,hxy]
   simp[Builtin.max2]
  ·rename_i hcb
   have hargs:=Z25 (P:=P) hi hf c.args c.argTypes.toList
   split at h
   case h_2=>cases h
   rename_i k m k' n hl
   split at h
   case h_2=>cases h
   rename_i hk
   have:=Z27 hk;subst this
   injection h with h;subst h
   obtain⟨x,y,hxy⟩:=Z94 hl hargs
   refine YC hi ?_ (.v _)
   simp only[execOp,hop,resolve,hcb,invoke,builtin,Sem.run_bind,Sem.run_pure,Result.andThen_ok]
   simp only[Builtin.min_,hxy]
   simp[Builtin.min2]
  ·cases h
 case indexAddr t x i=>
  split at h
  case h_3=>cases h
  case h_2 k n he hin=>
   have ei:=Yo (hin ▸ZY (P:=P) hi hf o.type i)
   obtain⟨e3,q,hrun,hr⟩:=Zd9 (kk:=k) h hobl (ZY (P:=P) hi hf o.type x)
   rw[e3]
   exact YC hi (by simp only[execOp,hop,ei];exact Xq hrun) hr
  rename_i e k n he hin
  have ei:=Yo (hin ▸ZY (P:=P) hi hf o.type i)
  have hx:=ZY (P:=P) hi hf o.type x
  split at h
  ·rename_i t' l hv
   rw[hv]at hx
   split at h
   case h_2=>cases h
   rename_i rw' π'
   split at h
   case h_2=>cases h
   rename_i sz hsz
   split at h
   case h_2=>cases h
   rename_i hs1
   injection h with h;subst h
   have hs1:sz=U.width t':=Nat.eq_of_beq_eq_true hs1
   subst hs1
   obtain⟨q,hrun,hr⟩:=ZcQ (P:=P) (w:=w) (kk:=k) he hsz hobl.1.1 hobl.1.2 (Vw hx)
   exact YC hi (by simp only[execOp,hop,ei];exact Xq hrun) (.pure _ _ hr)
  ·rename_i id m hv
   rw[hv]at hx
   split at h
   case h_3=>cases h
   case h_2 t' l pm op ln hob=>
    split at h
    case h_2=>cases h
    rename_i sz hsz
    split at h
    case h_2=>cases h
    rename_i hs1
    injection h with h;subst h
    have hs1:sz=U.width t':=Nat.eq_of_beq_eq_true hs1
    subst hs1
    obtain⟨q,hrun,hr⟩:=ZcS (P:=P) (kk:=k) hi he hsz hob hobl.1.1 hobl.1.2.1 hobl.1.2.2 hx
    exact YC hi (by simp only[execOp,hop,ei];exact Xq hrun) hr
   rename_i t' l ln f hob
   split at h
   case h_2=>cases h
   rename_i sz hsz
   split at h
   case h_2=>cases h
   rename_i hs1
   injection h with h;subst h
   have hs1:sz=U.width t':=Nat.eq_of_beq_eq_true hs1
   subst hs1
   obtain⟨q,hrun,hr⟩:=ZcR (P:=P) (kk:=k) hi he hsz hob hobl.1.1 hobl.1.2.1 hobl.1.2.2 hx
   exact YC hi (by simp only[execOp,hop,ei];exact Xq hrun) hr
  ·cases h
 all_goals cases h
end
end Go.Eng
