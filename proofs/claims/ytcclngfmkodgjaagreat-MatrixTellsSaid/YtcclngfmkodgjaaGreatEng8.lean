/- The engine, part 8: one operation. -/
import Derived.Test.YtcclngfmkodgjaaGreatEng7
set_option linter.unusedVariables false
set_option linter.unusedSectionVars false
set_option linter.unusedSimpArgs false
namespace Go.Eng
open Go
variable {D:Den} [Gl D]

section
variable {P:Program} {U:Zu D} {o:Oper} {a:Act} {w:World} {E:Emb} {hp:Z3 D}

theorem XQ {t e:Nat} (he:Ye P t=some e):P.underlying t=some (.slice e):=by
 unfold Ye at he;split at he
 ·injection he with he;subst he;assumption
 ·cases he
theorem UE {e wd:Nat} (h:Vf D P e wd=true):∃z,Xy (D:=D) P e=some z∧X7 z=true∧(ZH z).length=wd:=by
 unfold Vf at h
 split at h
 ·rename_i z hz
  simp only[Bool.and_eq_true]at h
  exact⟨z,hz,h.1,Nat.eq_of_beq_eq_true h.2⟩
 ·cases h

theorem ZcJ {t t2 e:Nat} {e2 ty m:Nat} {l:List (D e2)} {news:List Value} {cs:List (AV D)} {y:Value}
  (hi:Inv U w E hp) (he:Ye P t=some e) (hee:e=e2) (hsz:ZT P e=some (U.width e2)) (hsrc0:Src P (U.width e2) t2 y m news w) (hnr:YJ U w E.S news cs)
  (hbytes:m * YK P e≤140737488355328) (h63:m<9223372036854775808) (hm0:0<m)
  (hz:∃z,Xy (D:=D) P e=some z∧X7 z=true∧(ZH z).length=U.width e2)
  (hll:l.length=m) (hfl:Z5 U e2 l=cs):
  ∃v w' E',(Builtin.append_ #[t,t2] ty #[.slice none 0 0,y]).run P w= .ok v w'∧Inv U w' E' (hp++ [.arr e2 l m false])∧Zg U w E hp w' E' (hp++ [.arr e2 l m false])∧
   Rep U w' E' (hp++ [.arr e2 l m false]) v (.os hp.length m):=by
 have hut:=XQ he
 obtain⟨z,hz,hzok,hzl⟩:=hz
 obtain⟨ti,zv,hti,hzz,hzr⟩:=WI (U:=U) (w:=w) (E:=E) (hp:=hp) hz
 have hzs:zv.cells.size=U.width e2:=by have:=(Wa hzok hzr).1;rw[hzl]at this;simpa using this
 have hisz:ti.size=U.width e2:=by
  simp only[ZT,hti,Option.map_some]at hsz;injection hsz
 have hbt:ti.bytes=YK P e:=by simp[YK,Program.bytesOf,hti]
 have hnl:news.length=m * U.width e2:=hsrc0.newsLen
 have hsrc:Src P ti.size t2 y m news w:=by rw[hisz];exact hsrc0
 have hcap:0<0+m:=by omega
 have hcaple:=Go.Room.nextslicecap_le' hcap
 have hold:(Builtin.firstCells ti.size 0 (.slice none 0 0)).run P w.drew= .ok (#[]:Array Value) w.drew:=by
  simp[Builtin.firstCells]
 have hrun:=run_append_grow_src w t t2 ty e ti zv hut hti hzz none 0 0 [] hold y m news hsrc hcap (by omega) (by
  have h1:Builtin.nextslicecap (0+m) 0 * ti.bytes≤2 * (0+m) * ti.bytes:=Nat.mul_le_mul_right _ hcaple
  rw[hbt]at h1⊢
  have h2:2 * (0+m) * YK P e=2 * (m * YK P e):=by rw[Nat.zero_add,Nat.mul_assoc]
  omega)
 generalize hgc:grownCap w (0+m) 0 e=gc at hrun
 have hgc':0+m≤gc:=by rw[←hgc];simp only[grownCap,Question.cut];omega
 have hzc:(Builtin.zeroCells zv.cells (gc-(0+m))).size=(gc-(0+m)) * U.width e2:=by simp[Builtin.zeroCells,hzs]
 have hlen:((([]:List Value)++news).toArray++Builtin.zeroCells zv.cells (gc-(0+m))).toList.length=gc * U.width e2:=by
  have hm:(gc-(0+m)) * U.width e2+m * U.width e2=gc * U.width e2:=by rw[←Nat.add_mul];congr 1;omega
  rw[Array.length_toList,Array.size_append,hzc,List.size_toArray,List.nil_append]
  omega
 have i0d:Inv U w.drew E hp:=Inv.drew hi
 obtain⟨i2,s2⟩:=Z1T i0d (.arr e2 l m false) ((([]:List Value)++news).toArray++Builtin.zeroCells zv.cells (gc-(0+m))).toList e gc ⟨hlen,by omega,hll.symm⟩ rfl (fun k d hk=>by
  have hk:(Z5 U e2 l)[k]?=some d:=hk
  rw[hfl]at hk
  have hkl:k<news.length:=by
   have:=(List.getElem?_eq_some_iff.1 hk).1
   rw[←hnr.1]at this;exact this
  refine⟨news[k], ?_,ZE.mono (w:=w) (w':=w.drew) (S:=E.S) (fun _ h=>h) (fun _ _=>rfl) (hnr.2 k _ d (List.getElem?_eq_getElem hkl) hk)⟩
  rw[Array.toList_append,List.toList_toArray,List.nil_append,List.getElem?_append_left hkl];exact List.getElem?_eq_getElem hkl) (fun _ _ _ _ _ _ _=>hee)
 refine⟨_,_,_,hrun,i2,Zg.drew.trans s2, ?_⟩
 refine .os _ _ _ ⟨⟨_,_,_,rfl⟩, .arr e2 l m false,by simp,by simp[Zf.len],fun _=> ?_⟩
 simp only[Emb.upd,if_true,X3,Nat.zero_add]
 rfl

theorem ZcK {t t2 e e3:Nat} {e2 ty:Nat} {te:Nat} {l:List (D e2)} {l2:List (D e3)} {ids:List Nat} {x y:Value} {ps:List Prop} {c:AV D}
  (hi:Inv U w E hp) (he:Ye P t=some e) (hee:e=e2) (he2:∃q,Ye P t2=some q) (hsz:ZT P e=some (U.width e2))
  (hvw:Vy hp ids c=(ps, .sl e3 l2)) (hw2:U.width e3=U.width e2)
  (hbytes:l2.length * YK P e≤140737488355328) (h63:l2.length<9223372036854775808)
  (hz:∃z,Xy (D:=D) P e=some z∧X7 z=true∧(ZH z).length=U.width e2)
  (hll:l.length=l2.length) (hfl:Z5 U e2 l=Z5 U e3 l2) (hps:ZD ps) (hx:Rep U w E hp x (.em te)) (hy:Rep U w E hp y c):
  ∃v w' E',(Builtin.append_ #[t,t2] ty #[x,y]).run P w= .ok v w'∧Inv U w' E' (Y6 hp ids++ [.arr e2 l l2.length false])∧Zg U w E hp w' E' (Y6 hp ids++ [.arr e2 l l2.length false])∧
   Rep U w' E' (Y6 hp ids++ [.arr e2 l l2.length false]) v (.os hp.length l2.length):=by
 obtain⟨E1,em1,hS1,i1,s1⟩:=U1 ids E hp hi
 have hut:=XQ he
 obtain⟨q2,hq2⟩:=he2
 have hut2:=XQ hq2
 obtain⟨z,hz,hzok,hzl⟩:=hz
 obtain⟨ti,zv,hti,hzz,hzr⟩:=WI (U:=U) (w:=w) (E:=E) (hp:=hp) hz
 have hzs:zv.cells.size=U.width e2:=by have:=(Wa hzok hzr).1;rw[hzl]at this;simpa using this
 have hisz:ti.size=U.width e2:=by
  simp only[ZT,hti,Option.map_some]at hsz;injection hsz
 have hbt:ti.bytes=YK P e:=by simp[YK,Program.bytesOf,hti]
 obtain⟨news,hsrc,hnr⟩:=Z4B (P:=P) (size:=ti.size) hi hS1 s1 hvw hps hy hut2 (by rw[hw2,hisz])
 have hnl:news.length=l2.length * U.width e2:=by rw[hsrc.newsLen,hisz]
 obtain⟨a0,rfl⟩:=WT hx
 have hfln:=Z6A ids hp
 by_cases hl2:l2.length=0
 ·have hl:l= []:=List.eq_nil_of_length_eq_zero (by omega)
  subst hl
  have hnews:news= []:=List.eq_nil_of_length_eq_zero (by rw[hnl,hl2];simp)
  subst hnews
  rw[hl2]at hsrc⊢
  obtain⟨i2,s2⟩:=Z6x i1 e2 false
  refine⟨_,w,_,run_append_nothing w t t2 ty e ti hut hti a0 0 0 (Nat.le_refl _) y hsrc,i2,s1.trans s2, ?_⟩
  exact .os _ _ _ ⟨⟨_,_,_,rfl⟩, .arr e2 [] 0 false,by rw[←hfln];simp,Nat.le_refl _,fun _=>by rw[←hfln];simp[Emb.upd,X3]⟩
 ·have hcap:0<0+l2.length:=by omega
  have hcaple:=Go.Room.nextslicecap_le' hcap
  have hold:(Builtin.firstCells ti.size 0 (.slice a0 0 0)).run P w.drew= .ok (#[]:Array Value) w.drew:=by
   cases a0 with
   |none=>simp[Builtin.firstCells]
   |some ad=>simp[Builtin.firstCells,loadCells,loadCellsFrom]
  have hrun:=run_append_grow_src w t t2 ty e ti zv hut hti hzz a0 0 0 [] hold y l2.length news hsrc hcap (by omega) (by
   have h1:Builtin.nextslicecap (0+l2.length) 0 * ti.bytes≤2 * (0+l2.length) * ti.bytes:=Nat.mul_le_mul_right _ hcaple
   rw[hbt]at h1⊢
   have h2:2 * (0+l2.length) * YK P e=2 * (l2.length * YK P e):=by rw[Nat.zero_add,Nat.mul_assoc]
   omega)
  generalize hgc:grownCap w (0+l2.length) 0 e=gc at hrun
  have hgc':0+l2.length≤gc:=by rw[←hgc];simp only[grownCap,Question.cut];omega
  have hzc:(Builtin.zeroCells zv.cells (gc-(0+l2.length))).size=(gc-(0+l2.length)) * U.width e2:=by simp[Builtin.zeroCells,hzs]
  have hlen:((([]:List Value)++news).toArray++Builtin.zeroCells zv.cells (gc-(0+l2.length))).toList.length=gc * U.width e2:=by
   have hm:(gc-(0+l2.length)) * U.width e2+l2.length * U.width e2=gc * U.width e2:=by rw[←Nat.add_mul];congr 1;omega
   rw[Array.length_toList,Array.size_append,hzc,List.size_toArray,List.nil_append]
   omega
  have i1d:Inv U w.drew E1 (Y6 hp ids):=Inv.drew i1
  obtain⟨i2,s2⟩:=Z1T i1d (.arr e2 l l2.length false) ((([]:List Value)++news).toArray++Builtin.zeroCells zv.cells (gc-(0+l2.length))).toList e gc ⟨hlen,by omega,hll.symm⟩ rfl (fun k d hk=>by
   have hk:(Z5 U e2 l)[k]?=some d:=hk
   rw[hfl]at hk
   have hkl:k<news.length:=by
    have:=(List.getElem?_eq_some_iff.1 hk).1
    rw[Yp,hw2]at this;omega
   refine⟨news[k], ?_,ZE.mono (w:=w) (w':=w.drew) (S:=E1.S) (fun _ h=>h) (fun _ _=>rfl) (hnr.2 k _ d (List.getElem?_eq_getElem hkl) hk)⟩
   rw[Array.toList_append,List.toList_toArray,List.nil_append,List.getElem?_append_left hkl];exact List.getElem?_eq_getElem hkl) (fun _ _ _ _ _ _ _=>hee)
  refine⟨_,_,_,hrun,i2,(s1.trans Zg.drew).trans s2, ?_⟩
  refine .os _ _ _ ⟨⟨_,_,_,rfl⟩, .arr e2 l l2.length false,by rw[←hfln];simp,by simp[Zf.len],fun _=> ?_⟩
  rw[←hfln]
  simp only[Emb.upd,if_true,X3,Nat.zero_add]
  rfl

theorem ZcL {t e n:Nat} {pv:Array (Nat×Value)} {pa:List (Nat×AV D)} {ids:List Nat} {ps:List Prop} {cs:List (AV D)} {l:List (D e)}
  (hi:Inv U w E hp) (he:Ye P t=some e) (hsz:ZT P e=some (U.width e)) (hpo:UD (U.width e) 0 pa=true) (hn:pv.size=n) (hn2:n≤10000) (hwd:U.width e≤1000)
  (hz:∃z,Xy (D:=D) P e=some z) (hok:(pa.flatMap fun q=>ZH q.2).all XP=true)
  (hvw:vws hp ids (pa.flatMap fun q=>ZH q.2)=(ps,cs)) (hps:ZD ps) (hfl:Z5 U e l=cs) (hl:l.length=n) (hpr:U3 U w E hp pv.toList pa):
  ∃v w' E',(Instr.buildSlice t n pv).run P w= .ok v w'∧Inv U w' E' (Y6 hp ids++ [.arr e l n false])∧Zg U w E hp w' E' (Y6 hp ids++ [.arr e l n false])∧
   Rep U w' E' (Y6 hp ids++ [.arr e l n false]) v (.os hp.length n):=by
 have hut:=XQ he
 obtain⟨z,hz⟩:=hz
 obtain⟨ti,zv,hti,hzz,_⟩:=WI (U:=U) (w:=w) (E:=E) (hp:=hp) hz
 have hisz:ti.size=U.width e:=by
  simp only[ZT,hti,Option.map_some]at hsz;injection hsz
 obtain⟨E1,em1,hS1,i1,s1⟩:=U1 ids E hp hi
 have hokv:∀q∈pa,X7 q.2=true:=by
  intro q hq
  refine Z0l (List.all_eq_true.2 fun c hc=>List.all_eq_true.1 hok c ?_)
  exact List.mem_flatMap.2 ⟨q,hq,hc⟩
 have hsmall:¬(n * ti.size>16777216):=by
  rw[hisz]
  have:n * U.width e≤10000 * 1000:=Nat.mul_le_mul hn2 hwd
  omega
 have main:∀zc:Array Value,∃out,Instr.fill (fun i=>some (i * ti.size,ti.size)) ((Array.range (n * ti.size)).map fun k=>zc[k % zc.size]!) pv.toList=some out.toArray∧ZW U w E hp out (pa.flatMap fun q=>ZH q.2):=by
  intro zc
  obtain⟨out,h1,h2⟩:=Z4z pv.toList pa 0 [] ((Array.range (n * ti.size)).map fun k=>zc[k % zc.size]!).toList hpr hokv hpo (by simp) (by simp[hn,hisz])
  refine⟨out, ?_,h2⟩
  rw[hisz]at h1⊢
  rw[List.nil_append]at h1
  simpa only[Array.toArray_toList,List.nil_append]using h1
 have fin:∀out:List Value,ZW U w E hp out (pa.flatMap fun q=>ZH q.2)→
   Inv U { w with heap:=w.heap.push (.cells out.toArray e (0,0)) } (E1.upd (Y6 hp ids).length (some (w.heap.size,n))) (Y6 hp ids++ [.arr e l n false])∧
   Zg U w E hp { w with heap:=w.heap.push (.cells out.toArray e (0,0)) } (E1.upd (Y6 hp ids).length (some (w.heap.size,n))) (Y6 hp ids++ [.arr e l n false]):=by
  intro out hout
  have hp1:=U2 (S':=E1.S) hi hS1 s1.smono (by rw[hvw];exact hps) hout
  rw[hvw]at hp1
  obtain⟨i2,s2⟩:=Z1T i1 (.arr e l n false) out e n (by
   refine⟨?_,by omega,hl.symm⟩
   rw[hp1.1, ←hfl,Yp,hl]) rfl (fun k d hk=>by
   have hk:(Z5 U e l)[k]?=some d:=hk
   rw[hfl]at hk
   have hkl:k<out.length:=by rw[hp1.1];exact(List.getElem?_eq_some_iff.1 hk).1
   exact⟨out[k],List.getElem?_eq_getElem hkl,hp1.2 k _ d (List.getElem?_eq_getElem hkl) hk⟩)
  exact⟨i2,s1.trans s2⟩
 have rr:∀(w':World),Rep U w' (E1.upd (Y6 hp ids).length (some (w.heap.size,n))) (Y6 hp ids++ [.arr e l n false]) (.slice (some ⟨w.heap.size,0,none⟩) n n) (.os hp.length n):=by
  intro w'
  have hfln:=Z6A ids hp
  refine .os _ _ _ ⟨⟨_,_,_,rfl⟩, .arr e l n false,by rw[←hfln];simp,by simp[Zf.len],fun _=> ?_⟩
  rw[←hfln]
  simp[Emb.upd,X3]
 by_cases h0:n * ti.size=0
 ·obtain⟨out,h1,h2⟩:=main #[]
  obtain⟨i2,s2⟩:=fin out h2
  refine⟨_,_,_, ?_,i2,s2,rr _⟩
  simp only[Instr.buildSlice,Sem.run_bind,run_underlying hut,Result.andThen_ok,sizeOf,typeInfo,program,Sem.run,hti]
  simp[Sem.run,hti,h0,newRow,newObj]at h1⊢
  rw[h1]
  simp[Sem.run]
 ·obtain⟨out,h1,h2⟩:=main zv.cells
  obtain⟨i2,s2⟩:=fin out h2
  refine⟨_,_,_, ?_,i2,s2,rr _⟩
  simp only[Instr.buildSlice,Sem.run_bind,run_underlying hut,Result.andThen_ok,sizeOf,typeInfo,program,Sem.run,hti]
  simp only[Sem.run,hti,Sem.run_pure,Result.andThen_ok,Sem.run_ite,Sem.run_bind]
  have h5:¬(n * ti.size>2 ^ 24):=by simpa using hsmall
  simp[h5,h0,zeroValue,typeInfo,program,Sem.run,hti,hzz,h1,newRow,newObj,unsupported]
end
end Go.Eng
