/- The engine, part 10: every operation. -/
import Derived.Test.YtcclngfmkodgjaaGreatEng9
set_option linter.unusedVariables false
set_option linter.unusedSectionVars false
set_option linter.unusedSimpArgs false
namespace Go.Eng
open Go
variable {D:Den} [Gl D]

section
variable {P:Program} {U:Zu D} {o:Oper} {a:Act} {w:World} {E:Emb} {hp:Z3 D}

theorem Z6D {z:Array Value} {n wd k:Nat} {x:Value} (hz:z.size=wd) (hw:0<wd) (hk:k<n * wd) (hx:z[k % wd]?=some x):(madeCells z (n * wd)).toList[k]?=some x:=by
 have hlt:k % wd<z.size:=by rw[hz];exact Nat.mod_lt _ hw
 have e:x=z[k % wd]:=by rw[Array.getElem?_eq_getElem hlt]at hx;injection hx with hx;exact hx.symm
 simp only[madeCells,Array.toList_map,List.getElem?_map]
 rw[Array.toList_range,List.getElem?_range hk]
 simp only[Option.map_some,Option.some.injEq,hz]
 rw[getElem!_pos z (k % wd) hlt,e]

theorem Z6E {t n k:Nat} {y:D t} {c:AV D} (h:(Z5 U t (List.replicate n y))[k]?=some c):(U.cells t y)[k % U.width t]?=some c:=by
 induction n generalizing k with
 |zero=>simp[Z5]at h
 |succ n ih=>
  simp only[List.replicate_succ,Z5,List.flatMap_cons]at h
  by_cases g:k<U.width t
  ·rw[List.getElem?_append_left (by rw[U.len];exact g)]at h
   rw[Nat.mod_eq_of_lt g];exact h
  ·rw[List.getElem?_append_right (by rw[U.len];omega),U.len]at h
   have:=ih h
   rwa [←Nat.mod_eq_sub_mod (by omega)]at this

theorem ZcP {t e:Nat} {n m:Int} {l:List (D e)} {z:AV D} (hi:Inv U w E hp) (he:Ye P t=some e) (hsz:ZT P e=some (U.width e))
  (hz:Xy P e=some z) (hzk:Vf D P e (U.width e)=true) (hps:ZD (vws hp [] (ZH z)).1) (h0:0≤n) (hnm:n≤m) (hb:m * YK P e≤140737488355328) (h63:m<9223372036854775808)
  (hl:∃y,l=List.replicate n.toNat y∧U.cells e y=(vws hp [] (ZH z)).2) (kc:IntKind):
  ∃v w' E',(Instr.makeSlice t (.int .i64 n) (.int kc m)).run P w= .ok v w'∧Inv U w' E' (hp++ [.arr e l n.toNat false])∧Zg U w E hp w' E' (hp++ [.arr e l n.toNat false])∧
   Rep U w' E' (hp++ [.arr e l n.toNat false]) v (.os hp.length n.toNat):=by
 obtain⟨y,rfl,hy⟩:=hl
 obtain⟨z2,hz2,hzok,hzl⟩:=UE hzk
 rw[hz]at hz2;injection hz2 with hz2;subst hz2
 obtain⟨ti,zv,hti,hzz,hzr⟩:=WI (U:=U) (w:=w) (E:=E) (hp:=hp) hz
 have hisz:ti.size=U.width e:=by
  simp only[ZT,hti,Option.map_some]at hsz;injection hsz
 have hbt:ti.bytes=YK P e:=by simp[YK,Program.bytesOf,hti]
 have hcr:=Wa hzok hzr
 have hzs:zv.cells.size=U.width e:=by have:=hcr.1;rw[hzl]at this;simpa using this
 have hpr:=U2 (S':=E.S) (ids:= []) hi (fun id h=>by cases h) (fun _ h=>h) hps hcr
 have hrun:=run_make (P:=P) w t e ti zv (XQ he) hti hzz .i64 kc n m h0 hnm (by rw[hbt,Int.mul_comm];omega) (by omega)
 obtain⟨i2,s2⟩:=Z1T hi (.arr e (List.replicate n.toNat y) n.toNat false) (madeCells zv.cells (m.toNat * ti.size)).toList e m.toNat (by
  refine⟨by rw[Array.length_toList,size_madeCells,hisz],by simp;omega,by simp⟩) rfl (fun k d hk=>by
  have hk:(Z5 U e (List.replicate n.toNat y))[k]?=some d:=hk
  have hkl:k<n.toNat * U.width e:=by have:=(List.getElem?_eq_some_iff.1 hk).1;rwa [Yp,List.length_replicate]at this
  have hkm:k<m.toNat * U.width e:=Nat.lt_of_lt_of_le hkl (Nat.mul_le_mul_right _ (by omega))
  have hd:=Z6E hk
  rw[hy]at hd
  have hlt:k % U.width e<zv.cells.toList.length:=by rw[Array.length_toList,hzs];exact Nat.mod_lt _ (U.pos e)
  have hx:zv.cells[k % U.width e]?=some zv.cells.toList[k % U.width e]:=by
   rw[←Array.getElem?_toList];exact List.getElem?_eq_getElem hlt
  refine⟨_,by rw[hisz];exact Z6D hzs (U.pos e) hkm hx,hpr.2 _ _ d (List.getElem?_eq_getElem hlt) hd⟩)
 refine⟨_,_,_,hrun,i2,s2, .os _ _ _ ⟨⟨_,_,_,rfl⟩, .arr e (List.replicate n.toNat y) n.toNat false,by simp,by simp[Zf.len],fun _=> ?_⟩⟩
 simp[Emb.upd,X3]

theorem ZcQ {t e k:Nat} {l:List (D k)} {n:Int} {kk:IntKind} {v:Value} {r:List (AV D)} (he:Ye P t=some e) (hsz:ZT P e=some (U.width k)) (h0:0≤n)
  (hx:∃x,l[n.toNat]?=some x∧U.cells k x=r) (hv:ZE U w E.S v (.sl k l)):
  ∃q,(Instr.indexAt t v (.int kk n)).run P w= .ok q w∧ZE U w E.S q (.rp r 0):=by
 obtain⟨x,hx,rfl⟩:=hx
 have hlt:n.toNat<l.length:=(List.getElem?_eq_some_iff.1 hx).1
 obtain⟨ti,hti,htz⟩:∃i,P.info? e=some i∧i.size=U.width k:=by
  simp only[ZT,Option.map_eq_some_iff]at hsz;exact hsz
 cases hv with
 |sl0=>simp at hlt
 |sl _ _ b off cap vs hS hcap hc hr=>
  have hin:0≤n∧n<(l.length:Int):=⟨h0,by omega⟩
  refine⟨.pointer (some ⟨b,off+n.toNat * U.width k,none⟩), ?_, ?_⟩
  ·simp[Instr.indexAt,asIntOf,run_underlying (XQ he),hin,sizeOf,typeInfo,hti,htz,W7]
  ·have:=ZE.rp (U:=U) (w:=w) (S:=E.S) (U.cells k x) 0 b (off+n.toNat * U.width k) (fun j=>vs (n.toNat * U.width k+j)) hS
    (fun j c hj=>by rw[Nat.add_assoc];exact hc _ c (Z1W hx hj)) (fun j c hj=>hr _ c (Z1W hx hj))
   simpa using this

theorem ZcR {t e id m k ln:Nat} {l:List (D k)} {f:Bool} {n:Int} {kk:IntKind} {v:Value} (hi:Inv U w E hp) (he:Ye P t=some e) (hsz:ZT P e=some (U.width k))
  (hob:hp[id]?=some (.arr k l ln f)) (hmm:m=ln) (h0:0≤n) (hn:n<l.length) (hv:Rep U w E hp v (.os id m)):
  ∃q,(Instr.indexAt t v (.int kk n)).run P w= .ok q w∧Rep U w E hp q (.op id m n.toNat 0):=by
 obtain⟨ti,hti,htz⟩:∃i,P.info? e=some i∧i.size=U.width k:=by
  simp only[ZT,Option.map_eq_some_iff]at hsz;exact hsz
 have hm:m=l.length:=hmm.trans (Wj hi hob)
 obtain⟨_,o,ho,hle,hh⟩:=W1 hv
 rw[hob]at ho;injection ho with ho;subst ho
 have h3:=hh hmm
 have hobj:=hi.obj id _ hob
 cases hE:E.m id with
 |none=>
  rw[hE]at hobj
  obtain⟨rfl,_⟩:=hobj
  simp at hn
  omega
 |some qq=>
  obtain⟨b,cap⟩:=qq
  rw[hE]at h3
  simp only[X3]at h3
  subst h3
  have hin:0≤n∧n<(m:Int):=⟨h0,by omega⟩
  refine⟨.pointer (some ⟨b,0+n.toNat * U.width k,none⟩), ?_, .op _ _ _ _ _ ⟨⟨_,rfl⟩,_,hob,hle,fun _=> ?_⟩⟩
  ·simp[Instr.indexAt,asIntOf,run_underlying (XQ he),hin,sizeOf,typeInfo,hti,htz,W7]
  ·rw[hE];simp[XW,Zf.wid]

theorem ZcS {t e id m k ln:Nat} {l:List (D k)} {pm:List Bool} {op:Option (Nat×List (AV D))} {n:Int} {kk:IntKind} {v:Value} (hi:Inv U w E hp) (he:Ye P t=some e) (hsz:ZT P e=some (U.width k))
  (hob:hp[id]?=some (.dp k l pm op ln)) (hmm:m=ln) (h0:0≤n) (hn:n<l.length) (hv:Rep U w E hp v (.os id m)):
  ∃q,(Instr.indexAt t v (.int kk n)).run P w= .ok q w∧Rep U w E hp q (.op id m n.toNat 0):=by
 obtain⟨ti,hti,htz⟩:∃i,P.info? e=some i∧i.size=U.width k:=by
  simp only[ZT,Option.map_eq_some_iff]at hsz;exact hsz
 obtain⟨_,o,ho,hle,hh⟩:=W1 hv
 rw[hob]at ho;injection ho with ho;subst ho
 have h3:=hh hmm
 have hobj:=hi.obj id _ hob
 cases hE:E.m id with
 |none=>
  rw[hE]at hobj
  obtain⟨rfl,_⟩:=hobj
  simp at hn
  omega
 |some qq=>
  obtain⟨b,cap⟩:=qq
  rw[hE]at h3 hobj
  simp only[X3]at h3
  subst h3
  obtain⟨_,_,_,hcap,_⟩:=hobj
  have hln:ln=l.length:=hcap.2.2.1
  have hin:0≤n∧n<(m:Int):=⟨h0,by omega⟩
  refine⟨.pointer (some ⟨b,0+n.toNat * U.width k,none⟩), ?_, .op _ _ _ _ _ ⟨⟨_,rfl⟩,_,hob,hle,fun _=> ?_⟩⟩
  ·simp[Instr.indexAt,asIntOf,run_underlying (XQ he),hin,sizeOf,typeInfo,hti,htz,W7]
  ·rw[hE];simp[XW,Zf.wid]

theorem ZcT {t:Nat} {x:AV D} {lo hi' mx:Option (AV D)} {v:Value} {vlo vhi vmx:Option Value} {π:List (Ans D)} {r:Res D}
  (he:((Ye P t).bind (ZT P)).isSome=true)
  (h:Z4i P U hp x lo hi' mx π=some r) (hobl:ZD r.obl) (hi:Inv U w E hp) (hx:Rep U w E hp v x)
  (hlo:∀c,lo=some c→∃y,vlo=some y∧Rep U w E hp y c) (hlo0:lo=none→vlo=none) (hhi:∀c,hi'=some c→∃y,vhi=some y∧Rep U w E hp y c) (hmx:∀c,mx=some c→∃y,vmx=some y∧Rep U w E hp y c):
  r.hp=hp∧∃q,(Instr.sliceAt t v vlo vhi vmx).run P w= .ok q w∧Rep U w E hp q r.val:=by
 obtain⟨e,he,ti,hti⟩:∃e,Ye P t=some e∧∃ti,P.info? e=some ti:=by
  cases hse:Ye P t with
  |none=>simp[hse]at he
  |some e=>
   simp only[hse,Option.bind_some,ZT,Option.isSome_map]at he
   exact⟨e,rfl,Option.isSome_iff_exists.1 he⟩
 have main:∀(a:Option Addr) (len cap:Nat) (km kh:IntKind) (vl:Option Value),(vl=none∨∃kl,vl=some (.int kl 0))→
   (Instr.sliceAt t (.slice a len cap) vl (some (.int kh 0)) (some (.int km 0))).run P w= .ok (.slice a 0 0) w:=by
  intro a len cap km kh vl hvl
  rcases hvl with rfl|⟨kl,rfl⟩ <;>
  simp[Instr.sliceAt,run_underlying (XQ he),Instr.slice,Instr.sliceBounds,Instr.sliceBound,asIntOf,sizeOf,typeInfo,hti]
 have isS:∀c,(∃t l,x= .sl t l)∨(∃t,x= .em t)∨(∃id n,x= .os id n)→c=x→∃a n cp,v= .slice a n cp:=by
  rintro c (⟨t,l,rfl⟩|⟨t,rfl⟩|⟨id,n,rfl⟩) _
  ·cases Vw hx with
   |sl=>exact⟨_,_,_,rfl⟩
   |sl0=>exact⟨_,_,_,rfl⟩
  ·obtain⟨a,rfl⟩:=WT hx;exact⟨_,_,_,rfl⟩
  ·obtain⟨⟨a,k,c,rfl⟩,_⟩:=W1 hx;exact⟨_,_,_,rfl⟩
 unfold Z4i at h
 split at h
 case h_2=>cases h
 rename_i km m kh hh
 obtain⟨ymx,rfl,hymx⟩:=hmx _ rfl
 obtain⟨yhi,rfl,hyhi⟩:=hhi _ rfl
 have:=Yo hymx;subst this
 have:=Yo hyhi;subst this
 have fin:m=0→hh=0→(vlo=none∨∃kl,vlo=some (.int kl 0))→∀te,((∃t l,x= .sl t l)∨(∃t,x= .em t)∨(∃id n,x= .os id n))→r=⟨r.obl, .em te,hp,r.pi⟩→
   r.hp=hp∧∃q,(Instr.sliceAt t v vlo (some (.int kh hh)) (some (.int km m))).run P w= .ok q w∧Rep U w E hp q r.val:=by
  intro h1 h2 h3 te h4 h5
  subst h1;subst h2
  obtain⟨a,n,cp,rfl⟩:=isS x h4 rfl
  rw[h5]
  exact⟨rfl,_,main a n cp km kh vlo h3, .em _ _⟩
 have lo1:∀kl l0,lo=some (.v (.int kl l0))→l0=0→∃kl,vlo=some (.int kl 0):=by
  intro kl l0 h1 h2
  obtain⟨y,h3,hy⟩:=hlo _ h1
  have:=Yo hy
  subst this;subst h2
  exact⟨kl,h3⟩
 split at h
 ·split at h
  ·injection h with h;subst h;exact fin hobl.1 hobl.2.1 (.inl (hlo0 rfl)) _ (.inl ⟨_,_,rfl⟩) rfl
  ·injection h with h;subst h;exact fin hobl.1 hobl.2.1 (.inr (lo1 _ _ rfl hobl.2.2.1)) _ (.inl ⟨_,_,rfl⟩) rfl
  ·cases h
 ·split at h
  ·injection h with h;subst h;exact fin hobl.1 hobl.2.1 (.inl (hlo0 rfl)) _ (.inr (.inl ⟨_,rfl⟩)) rfl
  ·injection h with h;subst h;exact fin hobl.1 hobl.2.1 (.inr (lo1 _ _ rfl hobl.2.2.1)) _ (.inr (.inl ⟨_,rfl⟩)) rfl
  ·cases h
 ·split at h
  ·split at h
   ·injection h with h;subst h;exact fin hobl.1 hobl.2.1 (.inl (hlo0 rfl)) _ (.inr (.inr ⟨_,_,rfl⟩)) rfl
   ·injection h with h;subst h;exact fin hobl.1 hobl.2.1 (.inr (lo1 _ _ rfl hobl.2.2.1)) _ (.inr (.inr ⟨_,_,rfl⟩)) rfl
   ·cases h
  ·cases h
 ·cases h

theorem ZcU {t:Nat} {x:AV D} {lo hi' mx:Option (AV D)} {v:Value} {vlo vhi vmx:Option Value} {π:List (Ans D)} {r:Res D}
  (he:((Ye P t).bind (ZT P)).isSome=true)
  (h:Z4j hp x lo hi' mx π=some r) (hobl:ZD r.obl) (hi:Inv U w E hp) (hx:Rep U w E hp v x)
  (hlo:∀c,lo=some c→∃y,vlo=some y∧Rep U w E hp y c) (hhi:∀c,hi'=some c→∃y,vhi=some y∧Rep U w E hp y c) (hmx:∀c,mx=some c→∃y,vmx=some y∧Rep U w E hp y c):
  r.hp=hp∧∃q,(Instr.sliceAt t v vlo vhi vmx).run P w= .ok q w∧Rep U w E hp q r.val:=by
 obtain⟨e,he,ti,hti⟩:∃e,Ye P t=some e∧∃ti,P.info? e=some ti:=by
  cases hse:Ye P t with
  |none=>simp[hse]at he
  |some e=>
   simp only[hse,Option.bind_some,ZT,Option.isSome_map]at he
   exact⟨e,rfl,Option.isSome_iff_exists.1 he⟩
 unfold Z4j at h
 split at h
 case h_2=>cases h
 rename_i id n ka a kb b kc c
 split at h
 case h_2=>cases h
 rename_i t' l ln f hob
 injection h with h;subst h
 obtain⟨hn,⟨h0,h1,h2,h3⟩,_⟩:=hobl
 obtain⟨ymx,rfl,hymx⟩:=hmx _ rfl
 obtain⟨yhi,rfl,hyhi⟩:=hhi _ rfl
 obtain⟨ylo,rfl,hylo⟩:=hlo _ rfl
 have:=Yo hymx;subst this
 have:=Yo hyhi;subst this
 have:=Yo hylo;subst this
 obtain⟨⟨ad,kk,cc,rfl⟩,o,ho,hle,hh⟩:=W1 hx
 rw[hob]at ho;injection ho with ho;subst ho
 have hos:=hh hn
 have hobj:=hi.obj id _ hob
 have hcc:c≤cc:=by
  cases hm:E.m id with
  |none=>
   rw[hm]at hos hobj
   obtain⟨g1,a0,g2⟩:=hos
   injection g2 with g2 g3 g4
   have:=Wj hi hob
   omega
  |some q=>
   obtain⟨blk,cap⟩:=q
   rw[hm]at hos hobj
   injection hos with g2 g3 g4
   obtain⟨cells,e,hb,hcap,_⟩:=hobj
   have:=hcap.2.1
   omega
 have h4:0≤c:=by omega
 have h5:0≤b:=by omega
 have e1:(c.toNat:Int)=c:=by omega
 have e2:(b.toNat:Int)=b:=by omega
 refine⟨rfl, .slice (if c.toNat=a.toNat then ad else ad.map (·.add (a.toNat * ti.size))) (b.toNat-a.toNat) (c.toNat-a.toNat), ?_,Rep.un _⟩
 simp[Instr.sliceAt,run_underlying (XQ he),Instr.slice,Instr.sliceBounds,Instr.sliceBound,asIntOf,sizeOf,typeInfo,hti,h0,h1,h2,hcc,h4,h5,e1,e2]
theorem ZcV {t:Nat} {x:AV D} {lo hi' mx:Option (AV D)} {v:Value} {vlo vhi vmx:Option Value} {π:List (Ans D)} {r:Res D}
  (he:((Ye P t).bind (ZT P)).isSome=true)
  (h:Z1S P U hp x lo hi' mx π=some r) (hobl:ZD r.obl) (hi:Inv U w E hp) (hx:Rep U w E hp v x)
  (hlo:∀c,lo=some c→∃y,vlo=some y∧Rep U w E hp y c) (hlo0:lo=none→vlo=none) (hhi:∀c,hi'=some c→∃y,vhi=some y∧Rep U w E hp y c) (hmx:∀c,mx=some c→∃y,vmx=some y∧Rep U w E hp y c):
  r.hp=hp∧∃q,(Instr.sliceAt t v vlo vhi vmx).run P w= .ok q w∧Rep U w E hp q r.val:=by
 unfold Z1S at h
 split at h
 ·exact ZcU he h hobl hi hx hlo hhi hmx
 ·exact ZcT he h hobl hi hx hlo hlo0 hhi hmx

def loB (code:BoundsCode) (y:Nat):Option Value→Sem Nat
 |some v=>Instr.sliceBound v y code
 |none=>pure 0
def hiB (code:BoundsCode) (n y:Nat):Option Value→Sem Nat
 |some v=>Instr.sliceBound v y code
 |none=>pure n
theorem ZcW {lo:Option (AV D)} {vlo:Option Value} {a:Int} {y:Nat} {code:BoundsCode} (h:loV lo=some a) (hlo:∀c,lo=some c→∃y,vlo=some y∧Rep U w E hp y c) (hlo0:lo=none→vlo=none) (h0:0≤a) (h1:a≤y):
  (loB code y vlo).run P w= .ok a.toNat w:=by
 unfold loV at h
 split at h
 ·injection h with h;subst h
  rw[hlo0 rfl];rfl
 ·injection h with h;subst h
  obtain⟨y',h2,h3⟩:=hlo _ rfl
  have:=Yo h3
  subst this;subst h2
  simp[loB,Instr.sliceBound,asIntOf,h0,h1]
 ·cases h
theorem ZcX {hi':Option (AV D)} {vhi:Option Value} {b:Int} {n y:Nat} {code:BoundsCode} (h:hiV n hi'=some b) (hhi:∀c,hi'=some c→∃y,vhi=some y∧Rep U w E hp y c) (hhi0:hi'=none→vhi=none) (h0:0≤b) (h1:b≤y):
  (hiB code n y vhi).run P w= .ok b.toNat w:=by
 unfold hiV at h
 split at h
 ·injection h with h;subst h
  rw[hhi0 rfl];simp[hiB]
 ·injection h with h;subst h
  obtain⟨y',h2,h3⟩:=hhi _ rfl
  have:=Yo h3
  subst this;subst h2
  simp[hiB,Instr.sliceBound,asIntOf,h0,h1]
 ·cases h

theorem Z0o {isS:Bool} {lo hi':Option (AV D)} {vlo vhi:Option Value} {a b:Int} {n cap:Nat} (ha:loV lo=some a) (hb:hiV n hi'=some b)
  (hlo:∀c,lo=some c→∃y,vlo=some y∧Rep U w E hp y c) (hlo0:lo=none→vlo=none) (hhi:∀c,hi'=some c→∃y,vhi=some y∧Rep U w E hp y c) (hhi0:hi'=none→vhi=none)
  (h0:0≤a) (h1:a≤b) (h2:b≤n) (h3:n≤cap):(Instr.sliceBounds isS n cap vlo vhi none).run P w= .ok (a.toNat,b.toNat,cap) w:=by
 have e1:=ZcX (P:=P) (w:=w) (U:=U) (E:=E) (hp:=hp) (y:=cap) (code:=if isS then .sliceAcap else .sliceAlen) hb hhi hhi0 (by omega) (by omega)
 have e2:=ZcW (P:=P) (w:=w) (U:=U) (E:=E) (hp:=hp) (y:=b.toNat) (code:= .sliceB) ha hlo hlo0 h0 (by omega)
 unfold Instr.sliceBounds
 cases vhi with
 |none=>
  simp only[hiB]at e1
  have e3:n=b.toNat:=by simpa using e1
  cases vlo with
  |none=>simp[loB]at e2⊢;omega
  |some v=>simp[loB]at e2⊢;rw[←e3]at e2;rw[e2];simp;exact e3
 |some vh=>
  cases vlo with
  |none=>simp[loB,hiB]at e1 e2⊢;rw[e1];simp;omega
  |some v=>simp[loB,hiB]at e1 e2⊢;rw[e1];simp;rw[e2];simp

theorem ZcY {t sz:Nat} {x:AV D} {lo hi':Option (AV D)} {v:Value} {vlo vhi:Option Value} {π:List (Ans D)} {r:Res D}
  (he:(Ye P t).bind (ZT P)=some sz)
  (h:sliceB U sz hp x lo hi' π=some r) (hobl:ZD r.obl) (hi:Inv U w E hp) (hx:Rep U w E hp v x)
  (hlo:∀c,lo=some c→∃y,vlo=some y∧Rep U w E hp y c) (hlo0:lo=none→vlo=none) (hhi:∀c,hi'=some c→∃y,vhi=some y∧Rep U w E hp y c) (hhi0:hi'=none→vhi=none):
  r.hp=hp∧∃q,(Instr.sliceAt t v vlo vhi none).run P w= .ok q w∧Rep U w E hp q r.val:=by
 obtain⟨e,hse,ti,hti,rfl⟩:∃e,Ye P t=some e∧∃ti,P.info? e=some ti∧ti.size=sz:=by
  cases hse:Ye P t with
  |none=>simp[hse]at he
  |some e=>
   simp only[hse,Option.bind_some,ZT,Option.map_eq_some_iff]at he
   exact⟨e,rfl,he⟩
 have run:∀(a:Option Addr) (len cap:Nat) (l0 h0:Nat),(Instr.sliceBounds true len cap vlo vhi none).run P w= .ok (l0,h0,cap) w→
   (Instr.sliceAt t (.slice a len cap) vlo vhi none).run P w= .ok (.slice (if cap=l0 then a else a.map (·.add (l0 * ti.size))) (h0-l0) (cap-l0)) w:=by
  intro a len cap l0 h0 hr
  simp[Instr.sliceAt,run_underlying (XQ hse),Instr.slice,hr,sizeOf,typeInfo,hti]
 unfold sliceB at h
 split at h
 ·rename_i t' l
  split at h
  case h_2=>cases h
  rename_i a b hw ha hb
  have hw:ti.size=U.width t':=Nat.eq_of_beq_eq_true hw
  injection h with h;subst h
  obtain⟨⟨h0,h1,h2⟩,_⟩:=hobl
  refine⟨rfl, ?_⟩
  have hlen:((l.take b.toNat).drop a.toNat).length=b.toNat-a.toNat:=by rw[List.length_drop,List.length_take,Nat.min_eq_left (by omega)]
  cases Vw hx with
  |sl0 _ a0 cap=>
   have hb0:b=0:=by simp at h2;omega
   have ha0:a=0:=by omega
   subst hb0;subst ha0
   exact⟨_,run a0 0 cap _ _ (Z0o ha hb hlo hlo0 hhi hhi0 h0 h1 h2 (by simp)),by simp;exact .pure _ _ (.sl0 _ _ _)⟩
  |sl _ _ blk off cap vs hS hcap hc hr=>
   refine⟨_,run (some ⟨blk,off,none⟩) l.length cap _ _ (Z0o ha hb hlo hlo0 hhi hhi0 h0 h1 h2 hcap), ?_⟩
   by_cases hcl:cap=a.toNat
   ·have:b.toNat-a.toNat=0:=by omega
    rw[if_pos hcl,this]
    simp only
    rw[List.eq_nil_of_length_eq_zero (by omega:((l.take b.toNat).drop a.toNat).length=0)]
    exact .pure _ _ (.sl0 _ _ _)
   ·rw[if_neg hcl, ←hlen]
    simp only[Option.map_some,W7,hw]
    refine .pure _ _ (.sl t' _ blk (off+a.toNat * U.width t') _ (fun k=>vs (a.toNat * U.width t'+k)) hS (by omega) (fun k c hk=> ?_) (fun k c hk=> ?_))
    ·rw[Nat.add_assoc];exact hc _ c (TM hk)
    ·exact hr _ c (TM hk)
 ·rename_i id n
  split at h
  case h_2=>cases h
  rename_i t' l ln f hob
  split at h
  case h_2=>cases h
  rename_i a b hw ha hb
  have hw:ti.size=U.width t':=Nat.eq_of_beq_eq_true hw
  injection h with h;subst h
  obtain⟨hnl,⟨h0,h1,h2⟩,_⟩:=hobl
  refine⟨rfl, ?_⟩
  obtain⟨_,o,ho,hle,hh⟩:=W1 hx
  rw[hob]at ho;injection ho with ho;subst ho
  have h3:=hh hnl
  have hln:=Wj hi hob
  have hobj:=hi.obj id _ hob
  cases hE:E.m id with
  |none=>
   rw[hE]at h3
   obtain⟨hn0,a0,hv0⟩:=h3
   subst hv0
   have hb0:b=0:=by omega
   have ha0:a=0:=by omega
   subst hb0;subst ha0
   have hl0:l.length=0:=by omega
   refine⟨_,run a0 0 0 _ _ (Z0o ha (by rw[hl0]at hb;exact hb) hlo hlo0 hhi hhi0 h0 h1 (by simp) (by simp)), ?_⟩
   refine .oss _ _ _ _ _ ⟨⟨_,_,_,rfl⟩,_,hob,hle,fun _=>⟨by simp,by simp, ?_⟩⟩
   rw[hE]
   exact⟨rfl,_,_,rfl⟩
  |some q=>
   obtain⟨blk,cap⟩:=q
   rw[hE]at h3 hobj
   simp only[X3]at h3
   subst h3
   obtain⟨c,e',hbk,hcap,_⟩:=hobj
   have hcap2:=hcap.2.1
   refine⟨_,run (some ⟨blk,0,none⟩) n cap.n _ _ (Z0o ha (by rw[←hln, ←hnl]at hb;exact hb) hlo hlo0 hhi hhi0 h0 h1 (by omega) (by omega)), ?_⟩
   refine .oss _ _ _ _ _ ⟨⟨_,_,_,rfl⟩,_,hob,hle,fun _=>⟨by omega,by omega, ?_⟩⟩
   rw[hE]
   refine⟨fun hk=>⟨cap.n-a.toNat,by omega, ?_⟩,fun hk=>⟨_,_,by rw[hk]⟩,fun h=> ?_⟩
   ·rw[if_neg (by omega)]
    simp[W7,hw,Zf.wid]
   ·have ha0:a.toNat=0:=(Nat.mul_eq_zero.1 h).resolve_right (by have:=U.pos t';simp only[Zf.wid];omega)
    rw[ha0]
    by_cases hc0:cap.n=0
    ·rw[if_pos hc0];simp
    ·rw[if_neg hc0];simp[W7]
 ·rename_i id n a0 b0
  split at h
  case h_2=>cases h
  rename_i t' l ln f hob
  split at h
  case h_2=>cases h
  rename_i a kb b hw ha0 ha
  have hw:ti.size=U.width t':=Nat.eq_of_beq_eq_true hw
  have ha0:a0=0:=Nat.eq_of_beq_eq_true ha0
  subst ha0
  injection h with h;subst h
  obtain⟨hnl,⟨hpos,h0,h1,h2⟩,_⟩:=hobl
  refine⟨rfl, ?_⟩
  obtain⟨⟨ad,kk,cc,rfl⟩,o,ho,hle,hh⟩:=Vd hx
  rw[hob]at ho;injection ho with ho;subst ho
  obtain⟨hab,hbn,h3⟩:=hh hnl
  have hln:=Wj hi hob
  have hobj:=hi.obj id _ hob
  cases hE:E.m id with
  |none=>
   rw[hE]at hobj
   obtain⟨rfl,_⟩:=hobj
   simp at hpos
  |some q=>
   obtain⟨blk,cap⟩:=q
   rw[hE]at h3 hobj
   have hv:=h3.2.2 (by simp)
   injection hv with v1 v2 v3
   subst v1;subst v3
   obtain⟨c,e',hbk,hcap,_⟩:=hobj
   have hcap2:=hcap.2.1
   have hb':(Instr.sliceBounds true kk cap.n vlo vhi none).run P w= .ok (a.toNat,b.toNat,cap.n) w:=by
    have q:=Z0o (P:=P) (w:=w) (U:=U) (E:=E) (hp:=hp) (isS:=true) (n:=cap.n) (cap:=cap.n) (b:=b) ha rfl hlo hlo0 hhi hhi0 h0 h1 (by omega) (Nat.le_refl _)
    obtain⟨y,hy,_⟩:=hhi _ rfl
    subst hy
    exact q
   refine⟨_,run (some ⟨blk,0,none⟩) kk cap.n _ _ hb', ?_⟩
   refine .oss _ _ _ _ _ ⟨⟨_,_,_,rfl⟩,_,hob,hle,fun _=>⟨by omega,by omega, ?_⟩⟩
   rw[hE]
   refine⟨fun hk=>⟨cap.n-a.toNat,by omega, ?_⟩,fun hk=>⟨_,_,by rw[hk]⟩,fun h=> ?_⟩
   ·rw[if_neg (by omega)]
    simp[W7,hw,Zf.wid]
   ·have ha0:a.toNat=0:=(Nat.mul_eq_zero.1 h).resolve_right (by have:=U.pos t';simp only[Zf.wid];omega)
    rw[ha0]
    by_cases hc0:cap.n=0
    ·rw[if_pos hc0];simp
    ·rw[if_neg hc0];simp[W7]
 ·cases h

theorem ZcZ {t:Nat} {x:AV D} {lo hi':Option (AV D)} {v:Value} {vlo vhi:Option Value} {π:List (Ans D)} {r:Res D} (ht:Ve P t=true)
  (h:Z4k hp x lo hi' π=some r) (hobl:ZD r.obl) (hx:Rep U w E hp v x)
  (hlo:∀c,lo=some c→∃y,vlo=some y∧Rep U w E hp y c) (hlo0:lo=none→vlo=none) (hhi:∀c,hi'=some c→∃y,vhi=some y∧Rep U w E hp y c) (hhi0:hi'=none→vhi=none):
  r.hp=hp∧∃q,(Instr.sliceAt t v vlo vhi none).run P w= .ok q w∧Rep U w E hp q r.val:=by
 have hu:P.underlying t=some .string:=by
  unfold Ve at ht
  split at ht
  ·assumption
  ·cases ht
 unfold Z4k at h
 split at h
 case h_2=>cases h
 rename_i s
 split at h
 case h_2=>cases h
 rename_i a b ha hb
 injection h with h;subst h
 obtain⟨⟨h0,h1,h2⟩,_⟩:=hobl
 have:=Yo hx;subst this
 have hr:=Z0o (P:=P) (w:=w) (U:=U) (E:=E) (hp:=hp) (isS:=false) (cap:=s.size) ha hb hlo hlo0 hhi hhi0 h0 h1 h2 (Nat.le_refl _)
 exact⟨rfl,_,by simp[Instr.sliceAt,run_underlying hu,Instr.slice,hr], .v _⟩

theorem Zd0 {t:Nat} {s:ByteArray} {k:IntKind} {n:Int} (ht:Ve P t=true) (h0:0≤n) (h1:n<s.size):(Instr.index t (.string s) (.int k n)).run P w= .ok (.int .u8 (Yr s n)) w:=by
 have hu:P.underlying t=some .string:=by
  unfold Ve at ht
  split at ht
  ·assumption
  ·cases ht
 have hlt:n.toNat<s.size:=by omega
 have hg:s[n.toNat]?=some s[n.toNat]:=by simp[hlt]
 simp[Instr.index,asIntOf,run_underlying hu,h0,hg,Yr]

theorem Z6F {w':World} {S S':Nat→Prop} :∀(k:Nat) (v:Value) (c:AV D),W2 k c=true→ZE U w S v c→ZE U w' S' v c
 |k,v,c,hs,h=>by
  cases h with
  |v=>exact .v _
  |db b=>exact .db b
  |agg vs cs hl h=>
   cases k with
   |zero=>simp[W2]at hs
   |succ k=>
    simp only[W2]at hs
    exact .agg vs cs hl (fun j x c hx hc=>Z6F k x c (List.all_eq_true.1 hs c (List.mem_of_getElem? hc)) (h j x c hx hc))
  |tup vs cs hl h=>
   cases k with
   |zero=>simp[W2]at hs
   |succ k=>
    simp only[W2]at hs
    exact .tup vs cs hl (fun j x c hx hc=>Z6F k x c (List.all_eq_true.1 hs c (List.mem_of_getElem? hc)) (h j x c hx hc))
  |un=>simp[W2]at hs
  |_=>cases k <;> simp[W2]at hs

theorem Z6G {w':World} {E':Emb} {hp':Z3 D} :∀(k:Nat) (v:Value) (c:AV D),W2 k c=true→Rep U w E hp v c→Rep U w' E' hp' v c
 |k,v,c,hs,h=>by
  cases h with
  |pure _ _ h=>exact .pure _ _ (Z6F k v c hs h)
  |agg vs cs hl h=>
   cases k with
   |zero=>simp[W2]at hs
   |succ k=>
    simp only[W2]at hs
    exact .agg vs cs hl (fun j x c hx hc=>Z6G k x c (List.all_eq_true.1 hs c (List.mem_of_getElem? hc)) (h j x c hx hc))
  |tup vs cs hl h=>
   cases k with
   |zero=>simp[W2]at hs
   |succ k=>
    simp only[W2]at hs
    exact .tup vs cs hl (fun j x c hx hc=>Z6G k x c (List.all_eq_true.1 hs c (List.mem_of_getElem? hc)) (h j x c hx hc))
  |os=>cases k <;> simp[W2]at hs
  |op=>cases k <;> simp[W2]at hs
  |oss=>cases k <;> simp[W2]at hs
  |fn=>cases k <;> simp[W2]at hs

theorem Z8V {k:FuncId} {ids:List Nat} {args as:List (AV D)} {ps:List Prop} {vs:List Value} {r:AV D} (hi:Inv U w E hp)
  (hvw:vws hp ids args=(ps,as)) (hps:ZD ps) (hc:Z7 P U k as [] r []) (hargs:ZW U w E hp vs args):
  Calls P k ⟨vs⟩ w fun e w'=>∃v E',e= .returned v∧Inv U w' E' (Y6 hp ids)∧Zg U w E hp w' E' (Y6 hp ids)∧Rep U w' E' (Y6 hp ids) v r∧
   ∃E0,Rep U w' E0 [] v r∧Inv U w' E hp∧Zg U w E hp w' E hp:=by
 obtain⟨E1,em1,hS1,i1,s1⟩:=U1 ids E hp hi
 have hpr:=U2 (S':=E1.S) hi hS1 s1.smono (by rw[hvw];exact hps) hargs
 rw[hvw]at hpr
 have i0:Inv U w E1 []:=⟨fun id o h=>by simp at h,fun i j oi oj b h=>by simp at h,i1.sb,i1.gl⟩
 have noown:∀(E0:Emb) b,¬Own E0 ([]:Z3 D) b:=by rintro E0 b ⟨id,o,h,_⟩;simp at h
 refine(hc.2 w E1 vs i0 hpr.rep).mono fun e w' ⟨v,E',he,i3,s3,r3⟩=> ?_
 -- behind the call: own things stand as they stood, and what the callee froze stays frozen
 let E3:Emb:= { m:=E1.m,S:=E'.S }
 have hkeep:∀b,b<w.heap.size→w'.heap[b]?=w.heap[b]?:=fun b hb=>s3.keep b hb (noown _ b)
 have hlt:∀ {E0:Emb} {h0:Z3 D},Inv U w E0 h0→∀id o b b0 cap,h0[id]?=some o→E0.m id=some (b0,cap)→(b=b0∨cap.ns b∧o.fz=false)→b<w.heap.size:=by
  intro E0 h0 hi0 id o b b0 cap ho hm hb
  rcases hb with rfl|⟨hn,hf⟩
  ·exact hi0.mlt ho hm
  ·exact(hi0.blk ho hf ⟨b0,cap,hm, .inr hn⟩).1
 have hsold:∀b,b<w.heap.size→E'.S b→E1.S b:=by
  intro b hb hs
  rcases s3.snew b hs with h|h|h
  ·exact h
  ·exact absurd h (noown _ b)
  ·omega
 have s4:Zg U w E1 (Y6 hp ids) w' E3 (Y6 hp ids):=
  ⟨s3.os,s3.tape,s3.output,(fun a ha _=>s3.fz a ha (fun⟨id,o,ho,_⟩=>by simp at ho)),s3.size,fun b hb _=>hkeep b hb,fun b hb h=>h,s3.smono,fun b hb=>by
   rcases s3.snew b hb with h|h|h
   ·exact .inl h
   ·exact absurd h (noown _ b)
   ·exact .inr (.inr h),fun id o ho=>⟨o,ho,rfl,Nat.le_refl _,fun _=>rfl⟩⟩
 have i4:Inv U w' E3 (Y6 hp ids):=by
  refine⟨fun id o ho=> ?_,i1.inj,i3.sb,i1.gl' s4⟩
  refine(i1.obj id o ho).keep (fun b b0 cap hm hb=>hkeep b (hlt i1 id o b b0 cap ho hm hb)) s3.smono (fun b b0 cap hm hb hf hs=>hsold b (hlt i1 id o b b0 cap ho hm (hb.imp (fun h=>h) (fun h=>⟨h,hf⟩))) hs) s3.size (fun x a h=>s4.rep i1 h) (fun x a h=>s4.prep i1 h)
 have s5:Zg U w E hp w' E hp:=
  ⟨s3.os,s3.tape,s3.output,(fun a ha _=>s3.fz a ha (fun⟨id,o,ho,_⟩=>by simp at ho)),s3.size,fun b hb _=>hkeep b hb,fun b hb h=>h,fun _ h=>h,fun _ h=> .inl h,Evo.refl U E hp⟩
 have i5:Inv U w' E hp:=by
  refine⟨fun id o ho=> ?_,hi.inj,fun b hb=>by have:=hi.sb b hb;have:=s3.size;omega,hi.gl' s5⟩
  exact(hi.obj id o ho).keep (fun b b0 cap hm hb=>hkeep b (hlt hi id o b b0 cap ho hm hb)) (fun _ h=>h) (fun _ _ _ _ _ _ h=>h) s3.size (fun x a h=>s5.rep hi h) (fun x a h=>s5.prep hi h)
 have r4:Rep U w' E3 (Y6 hp ids) v r:=by
  have gen:∀x c,Rep U w' E' [] x c→Rep U w' E3 (Y6 hp ids) x c:=by
   intro x c h
   induction h with
   |pure x a h=>exact .pure _ _ h
   |agg vs cs hl h ih=>exact .agg vs cs hl ih
   |tup vs cs hl h ih=>exact .tup vs cs hl ih
   |os id n x h=>obtain⟨_,o,ho,_⟩:=h;simp at ho
   |op id n i off x h=>obtain⟨_,o,ho,_⟩:=h;simp at ho
   |oss id n a b x h=>obtain⟨_,o,ho,_⟩:=h;simp at ho
   |fn f vs ws first cap hv hw h1 h2 g1 g2=>exact .fn f vs ws first cap hv hw g1 g2
  exact gen v r r3
 exact⟨v,E3,he,i4,s1.trans s4,r4,E',r3,i5,s5⟩

theorem Z4C {t a:Nat} {l:List (D t)} :Z5 U t (l.take a)=(Z5 U t l).take (a * U.width t):=by
 have h:Z5 U t l=Z5 U t (l.take a)++Z5 U t (l.drop a):=by rw[←VB,List.take_append_drop]
 by_cases ha:a≤l.length
 ·rw[h,List.take_left' (by rw[Yp,List.length_take,Nat.min_eq_left ha])]
 ·rw[List.take_of_length_le (by omega),List.take_of_length_le (by rw[Yp];exact Nat.mul_le_mul_right _ (by omega))]
theorem Z6H {t a:Nat} {l:List (D t)} :Z5 U t (l.drop a)=(Z5 U t l).drop (a * U.width t):=by
 have h:Z5 U t l=Z5 U t (l.take a)++Z5 U t (l.drop a):=by rw[←VB,List.take_append_drop]
 by_cases ha:a≤l.length
 ·rw[h,List.drop_left' (by rw[Yp,List.length_take,Nat.min_eq_left ha])]
 ·rw[List.drop_of_length_le (by omega),List.drop_of_length_le (by rw[Yp];exact Nat.mul_le_mul_right _ (by omega))];rfl

theorem Z8W {z:Array Value} {n wd k:Nat} {x:Value} (hz:z.size=wd) (hw:0<wd) (hk:k<n * wd) (hx:z[k % wd]?=some x):(Builtin.zeroCells z n).toList[k]?=some x:=by
 have:=Z6D hz hw hk hx
 unfold Builtin.zeroCells
 unfold madeCells at this
 rw[hz]at *;exact this

theorem Zd1 {t e:Nat} {x:AV D} {v:Value} {π:List (Ans D)} {r:Res D} (hi:Inv U w E hp) (hse:Ye P t=some e) (h:Z6p P U e hp x π=some r) (hobl:ZD r.obl) (hx:Rep U w E hp v x):
  r.val= .v (.tuple #[])∧∃w' E',(Builtin.clear_ #[t] 0 #[v]).run P w= .ok (.tuple #[]) w'∧Inv U w' E' r.hp∧Zg U w E hp w' E' r.hp:=by
 unfold Z6p at h
 split at h
 case h_2=>cases h
 rename_i id n a b
 split at h
 case h_2=>cases h
 rename_i tt l ln hob
 split at h
 case h_2=>cases h
 rename_i o' π'
 split at h
 case h_2=>cases h
 rename_i sz z hsz hz hzk
 split at h
 case h_2=>cases h
 rename_i ps zc hw hvz hzc
 have hw:sz=U.width tt:=Nat.eq_of_beq_eq_true hw
 subst hw
 injection h with h;subst h
 obtain⟨⟨hnl,y,ho',hy⟩,hps⟩:=hobl
 refine⟨rfl, ?_⟩
 obtain⟨z2,hz2,hzok,hzl⟩:=UE hzk
 rw[hz]at hz2;injection hz2 with hz2;subst hz2
 obtain⟨⟨ad,kk,cc,rfl⟩,o,ho,hle,hh⟩:=Vd hx
 rw[hob]at ho;injection ho with ho;subst ho
 obtain⟨hab,hbn,h3⟩:=hh hnl
 have hln:=Wj hi hob
 have hobj:=hi.obj id _ hob
 obtain⟨ti,zv,hti,hzz,hzr⟩:=WI (U:=U) (w:=w) (E:=E) (hp:=hp) hz
 have hcr:=Wa hzok hzr
 have hzs:zv.cells.size=U.width tt:=by have:=hcr.1;rw[hzl]at this;simpa using this
 have hpr:=U2 (S':=E.S) (ids:= []) hi (fun id h=>by cases h) (fun _ h=>h) (by rw[hvz];exact hps) hcr
 rw[hvz]at hpr
 have hu:=XQ hse
 -- nothing to clear
 have none_:b-a=0→kk=0→∃w' E',(Builtin.clear_ #[t] 0 #[.slice ad kk cc]).run P w= .ok (.tuple #[]) w'∧Inv U w' E' (ZC hp id o')∧Zg U w E hp w' E' (ZC hp id o'):=by
  intro h0 hk
  subst hk
  have he:l.take a++(List.replicate (b-a) y++l.drop b)=l:=by
   have hab:a=b:=by omega
   rw[h0,hab];simp
  rw[he]at ho'
  subst ho'
  rw[Z20 hp id _ hob]
  refine⟨w,E, ?_,hi,Zg.refl U w E hp⟩
  cases ad <;> simp[Builtin.clear_,run_underlying hu]
 cases hm:E.m id with
 |none=>
  rw[hm]at h3
  obtain⟨g1,x0,c0,g2⟩:=h3
  injection g2 with g2 g3 g4
  exact none_ g1 (by omega)
 |some q=>
  obtain⟨blk,cap⟩:=q
  rw[hm]at h3 hobj
  by_cases h0:b-a=0
  ·obtain⟨x0,c0,g2⟩:=h3.2.1 h0
   injection g2 with g2 g3 g4
   exact none_ h0 (by omega)
  ·obtain⟨c0,_,g2⟩:=h3.1 (by omega)
   injection g2 with g2 g3 g4
   subst g2;subst g3
   obtain⟨c,e',hb,hcap,hr,f1,f2⟩:=hobj
   have hcap1:=hcap.1;have hcap2:=hcap.2.1
   let zs:=(Builtin.zeroCells zv.cells (b-a)).toList
   have hzsl:zs.length=(b-a) * U.width tt:=by simp[zs,Builtin.zeroCells,hzs]
   have hsum:a * U.width tt+zs.length=b * U.width tt:=by rw[hzsl, ←Nat.add_mul];congr 1;omega
   have hbc:b * U.width tt≤c.length:=by rw[hcap1];exact Nat.mul_le_mul_right _ (by omega)
   have hone:∀x∈zs,x.oneCell'=true:=by
    intro x hx
    obtain⟨k,hk,rfl⟩:=List.mem_iff_getElem.1 hx
    have hlt:k % U.width tt<zv.cells.toList.length:=by rw[Array.length_toList,hzs];exact Nat.mod_lt _ (U.pos tt)
    have hg:=Z8W (z:=zv.cells) (n:=b-a) hzs (U.pos tt) (by omega) (show zv.cells[k % U.width tt]?=some zv.cells.toList[k % U.width tt]from by rw[←Array.getElem?_toList];exact List.getElem?_eq_getElem hlt)
    have:zs[k]=zv.cells.toList[k % U.width tt]:=by
     have h2:zs[k]?=some zs[k]:=List.getElem?_eq_getElem hk
     rw[show zs[k]?=some zv.cells.toList[k % U.width tt]from hg]at h2
     injection h2 with h2;exact h2.symm
    rw[this]
    exact Z0m hzc hcr _ (List.getElem_mem hlt)
   have hst:=run_storeCells_at P blk (a * U.width tt) e' zs 0 ⟨c⟩ w hb (by simp;omega) hone
   simp only[Nat.add_zero]at hst
   have hflat:Z5 U tt (l.take a++(List.replicate (b-a) y++l.drop b))=(Z5 U tt l).take (a * U.width tt)++Z5 U tt (List.replicate (b-a) y)++(Z5 U tt l).drop (a * U.width tt+(Z5 U tt (List.replicate (b-a) y)).length):=by
    rw[VB,VB,Z4C,Z6H,List.append_assoc]
    congr 3
    rw[Yp,List.length_replicate, ←Nat.add_mul];congr 1;omega
   have hrl:(Z5 U tt (List.replicate (b-a) y)).length=zs.length:=by rw[Yp,List.length_replicate,hzsl]
   have hll:(l.take a++(List.replicate (b-a) y++l.drop b)).length=l.length:=by simp;omega
   obtain⟨i2,s2⟩:=TN hi hob rfl hm (o'':= .arr tt (l.take a++(List.replicate (b-a) y++l.drop b)) ln false) rfl rfl (Nat.le_refl _)
    (c.take (a * U.width tt)++zs++c.drop (a * U.width tt+zs.length)) (by
     refine⟨?_, ?_, ?_⟩
     ·simp;rw[hcap1]at *;omega
     ·rw[hll];exact hcap2
     ·rw[hll];exact hln) (fun k d hk=>by
     have hk:(Z5 U tt (l.take a++(List.replicate (b-a) y++l.drop b)))[k]?=some d:=hk
     rw[hflat,We (by rw[hrl,Yp,hsum];exact Nat.mul_le_mul_right _ (by omega))]at hk
     rw[We (by omega)]
     by_cases g1:k<a * U.width tt
     ·rw[if_pos g1]at hk⊢;exact hr k d hk
     ·rw[if_neg g1]at hk⊢
      rw[hrl]at hk
      by_cases g2:k<a * U.width tt+zs.length
      ·rw[if_pos g2]at hk⊢
       have hd:=Z6E hk
       rw[hy]at hd
       have hlt:(k-a * U.width tt) % U.width tt<zv.cells.toList.length:=by rw[Array.length_toList,hzs];exact Nat.mod_lt _ (U.pos tt)
       exact⟨_,Z8W hzs (U.pos tt) (by omega) (by rw[←Array.getElem?_toList];exact List.getElem?_eq_getElem hlt),hpr.2 _ _ d (List.getElem?_eq_getElem hlt) hd⟩
      ·rw[if_neg g2]at hk⊢;exact hr k d hk)
   subst ho'
   refine⟨_,_, ?_,i2,s2⟩
   have hba:¬b-a=0:=h0
   obtain⟨m,hm2⟩:∃m,b-a=m+1:=⟨b-a-1,by omega⟩
   have hzrun:(zeroValue e).run P w= .ok zv w:=by simp[zeroValue,typeInfo,hti,hzz]
   have hst2:(storeCells ⟨blk,a * U.width tt,none⟩ (Builtin.zeroCells zv.cells (m+1)).toList).run P w= .ok () (w.setRow blk ⟨c.take (a * U.width tt)++zs++c.drop (a * U.width tt+zs.length)⟩):=by
    rw[←hm2];exact hst
   simp only[Zf.wid]at *
   rw[hm2]
   simp[Builtin.clear_,run_underlying hu,hzrun,hst2]

theorem Z8X:∀(h:Z3 D) (ps:List Prop),TK U h=some ps→ZD ps→∀(j:Nat) o,h[j]?=some o→∃t l n,o= .arr t l n false∧((Z5 U t l).all Xe=true)
 | [],ps,_,_,j,o,hj=>by simp at hj
 | .box e r f::rest,ps,h,_,j,o,hj=>by simp[TK]at h
 | .arr t l n true::rest,ps,h,_,j,o,hj=>by simp[TK]at h
 | .arr t l n false::rest,ps,h,hps,j,o,hj=>by
  simp only[TK]at h
  split at h
  case h_2=>cases h
  rename_i qs hq
  injection h with h;subst h
  cases j with
  |zero=>simp at hj;subst hj;exact⟨t,l,n,rfl,hps.1⟩
  |succ j=>exact Z8X rest qs hq hps.2 j o (by simpa using hj)

theorem Zd2 {k:FuncId} {args as:List (AV D)} {ps qs:List Prop} {vs:List Value} {r:AV D} {h':Z3 D} (hi:Inv U w E hp) (himm:TK U h'=some qs) (hqs:ZD qs) (hok:Vz 4 r=true)
  (hvw:vws hp (List.range hp.length) args=(ps,as)) (hps:ZD ps) (hc:Z7 P U k as [] r h') (hargs:ZW U w E hp vs args):
  Calls P k ⟨vs⟩ w fun e w'=>∃v E',e= .returned v∧Inv U w' E' (hp++h'.map (YL (Xl [] hp.length)))∧Zg U w E hp w' E' (hp++h'.map (YL (Xl [] hp.length)))∧Rep U w' E' (hp++h'.map (YL (Xl [] hp.length))) v (ren (Xl [] hp.length) 8 r):=by
 obtain⟨E1,em1,hS1,i1,s1⟩:=U1 (List.range hp.length) E hp hi
 have hpr:=U2 (S':=E1.S) hi hS1 s1.smono (by rw[hvw];exact hps) hargs
 rw[hvw]at hpr
 have i0:Inv U w E1 []:=⟨fun id o h=>by simp at h,fun i j oi oj b h=>by simp at h,i1.sb,i1.gl⟩
 have noown:∀(E0:Emb) b,¬Own E0 ([]:Z3 D) b:=by rintro E0 b ⟨id,o,h,_⟩;simp at h
 refine(hc.2 w E1 vs i0 hpr.rep).mono fun e w' ⟨v,E',he,i3,s3,r3⟩=> ?_
 have hkeep:∀b,b<w.heap.size→w'.heap[b]?=w.heap[b]?:=fun b hb=>s3.keep b hb (noown _ b)
 have harr:=Z8X h' qs himm hqs
 have hren:∀(j:Nat) o,h'[j]?=some o→YL (Xl [] hp.length) o=o:=by
  intro j o hj
  obtain⟨t,l,n,rfl,_⟩:=harr j o hj
  rfl
 have hmap:h'.map (YL (Xl [] hp.length))=h':=by
  apply List.ext_getElem?
  intro j
  rw[List.getElem?_map]
  cases hj:h'[j]? with
  |none=>rfl
  |some o=>simp[hren j o hj]
 rw[hmap]
 let E3:Emb:= { m:=fun id=>if id<hp.length then E.m id else E'.m (id-hp.length),S:=E.S }
 have mold:∀id,id<hp.length→E3.m id=E.m id:=fun id h=>by simp only[E3,if_pos h]
 have mnew:∀j,E3.m (hp.length+j)=E'.m j:=fun j=>by
  simp only[E3];rw[if_neg (by omega)];congr 1;omega
 have hlt:∀(id:Nat) o b b0 cap,hp[id]?=some o→E.m id=some (b0,cap)→(b=b0∨cap.ns b∧o.fz=false)→b<w.heap.size:=by
  intro id o b b0 cap ho hm hb
  rcases hb with rfl|⟨hn,hf⟩
  ·exact hi.mlt ho hm
  ·exact(hi.blk ho hf ⟨b0,cap,hm, .inr hn⟩).1
 have hge:∀(j:Nat) o b,h'[j]?=some o→Blk E' j b→w.heap.size≤b:=by
  intro j o b hj hm
  apply Classical.byContradiction
  intro hn
  obtain⟨t,l,n,rfl,_⟩:=harr j o hj
  exact noown E1 b (s3.own b (by omega) ⟨j,_,hj,rfl,hm⟩)
 have get:∀(id:Nat) o,(hp++h')[id]?=some o→(id<hp.length∧hp[id]?=some o)∨∃j,id=hp.length+j∧h'[j]?=some o:=by
  intro id o h
  by_cases hl:id<hp.length
  ·rw[List.getElem?_append_left hl]at h;exact .inl ⟨hl,h⟩
  ·rw[List.getElem?_append_right (by omega)]at h;exact .inr ⟨id-hp.length,by omega,h⟩
 have s4:Zg U w E hp w' E3 (hp++h'):=by
  refine⟨s3.os,s3.tape,s3.output,(fun a ha _=>s3.fz a ha (fun⟨id,o,ho,_⟩=>by simp at ho)),s3.size,fun b hb _=>hkeep b hb, ?_,fun _ h=>h,fun _ h=> .inl h,fun id o ho=> ?_⟩
  ·rintro b hb ⟨id,o,ho,hf,hm⟩
   rcases get id o ho with⟨hl,ho'⟩|⟨j,rfl,ho'⟩
   ·exact⟨id,o,ho',hf,hm.congr (mold id hl).symm⟩
   ·have:=hge j o b ho' (hm.congr (mnew j).symm);omega
  ·have hl:=(List.getElem?_eq_some_iff.1 ho).1
   exact⟨o,by rw[List.getElem?_append_left hl];exact ho,rfl,Nat.le_refl _,fun _=>by rw[mold id hl]⟩
 have i4:Inv U w' E3 (hp++h'):=by
  refine⟨fun id o ho=> ?_,fun a b oa ob blk h1 h2 f1 f2 m1 m2=> ?_,fun b hb=>by have:=hi.sb b hb;have:=s3.size;omega,hi.gl' s4⟩
  ·rcases get id o ho with⟨hl,ho'⟩|⟨j,rfl,ho'⟩
   ·rw[mold id hl]
    exact(hi.obj id o ho').keep (fun b b0 cap hm hb=>hkeep b (hlt id o b b0 cap ho' hm hb)) (fun _ h=>h) (fun _ _ _ _ _ _ h=>h) s3.size (fun x a h=>s4.rep hi h) (fun x a h=>s4.prep hi h)
   ·rw[mnew j]
    have hob:=i3.obj j o ho'
    obtain⟨t,l,n,rfl,hall⟩:=harr j o ho'
    cases hm:E'.m j with
    |none=>rw[hm]at hob;exact hob
    |some q=>
     obtain⟨b,cap⟩:=q
     rw[hm]at hob
     obtain⟨c,e0,hb,hcap,hrep,g1,g2,g3,g0⟩:=hob
     refine⟨c,e0,hb,hcap,fun k a hk=> ?_,(fun h=>absurd h Bool.false_ne_true),(fun _ hS=> ?_),(fun hf b' hn=>⟨(g3 hf b' hn).1,fun hS=> ?_⟩),g0⟩
     ·obtain⟨x,hx,hxr⟩:=hrep k a hk
      refine⟨x,hx, ?_⟩
      have hk':(Z5 U t l)[k]?=some a:=hk
      have ha:=List.all_eq_true.1 hall a (List.mem_of_getElem? hk')
      have hxr':ZE U w' E'.S x a:=hxr
      cases a with
      |v y=>cases hxr' with
       |v=>exact ZE.v _
      |_=>simp[Xe]at ha
     ·have:=hi.sb b hS
      have:=hge j _ b ho' (.of hm);omega
     ·have:=hi.sb b' hS
      have:=hge j _ b' ho' ⟨b,cap,hm, .inr hn⟩;omega
  ·rcases get a oa h1 with⟨la,h1'⟩|⟨ja,rfl,h1'⟩ <;> rcases get b ob h2 with⟨lb,h2'⟩|⟨jb,rfl,h2'⟩
   ·exact hi.inj a b oa ob blk h1' h2' f1 f2 (m1.congr (mold a la).symm) (m2.congr (mold b lb).symm)
   ·have:=(hi.blk h1' f1 (m1.congr (mold a la).symm)).1;have:=hge jb ob blk h2' (m2.congr (mnew jb).symm);omega
   ·have:=(hi.blk h2' f2 (m2.congr (mold b lb).symm)).1;have:=hge ja oa blk h1' (m1.congr (mnew ja).symm);omega
   ·rw[i3.inj ja jb oa ob blk h1' h2' f1 f2 (m1.congr (mnew ja).symm) (m2.congr (mnew jb).symm)]
 refine⟨v,E3,he,i4,s4, ?_⟩
 have rr:∀(q k:Nat) (x:Value) (c:AV D),q≤k→Vz q c=true→Rep U w' E' h' x c→Rep U w' E3 (hp++h') x (ren (Xl [] hp.length) (k+1) c):=by
  intro q
  induction q with
  |zero=>
   intro k x c _ hc hr
   cases c with
   |v y=>have:=Yo hr;subst this;exact .v _
   |db b=>have:=Wy hr;subst this;exact .v _
   |os id n=>
    obtain⟨hv,o,ho,hn,hh⟩:=W1 hr
    simp only[ren,Xl,List.getElem?_nil,List.length_nil,Nat.sub_zero]
    exact .os _ _ _ ⟨hv,o,by rw[List.getElem?_append_right (by omega)];simpa using ho,hn,fun e=>by rw[mnew];exact hh e⟩
   |_=>simp[Vz]at hc
  |succ q ih=>
   intro k x c hqk hc hr
   obtain⟨k,rfl⟩:∃k',k=k'+1:=⟨k-1,by omega⟩
   have lst:∀(vs:List Value) (cs:List (AV D)),cs.all (Vz q)=true→ZW U w' E' h' vs cs→ZW U w' E3 (hp++h') vs (cs.map (ren (Xl [] hp.length) (k+1))):=by
    intro vs cs hall hl
    refine⟨by simp[hl.1],fun j x c hx hc=> ?_⟩
    simp only[List.getElem?_map,Option.map_eq_some_iff]at hc
    obtain⟨d,hd,rfl⟩:=hc
    exact ih k x d (by omega) (List.all_eq_true.1 hall d (List.mem_of_getElem? hd)) (hl.2 j x d hx hd)
   cases c with
   |v y=>have:=Yo hr;subst this;exact .v _
   |db b=>have:=Wy hr;subst this;exact .v _
   |os id n=>
    obtain⟨hv,o,ho,hn,hh⟩:=W1 hr
    simp only[ren,Xl,List.getElem?_nil,List.length_nil,Nat.sub_zero]
    exact .os _ _ _ ⟨hv,o,by rw[List.getElem?_append_right (by omega)];simpa using ho,hn,fun e=>by rw[mnew];exact hh e⟩
   |agg cs=>obtain⟨vs,rfl,h2⟩:=Vv hr;have:=lst vs cs (by simpa[Vz]using hc) h2;exact .agg vs _ this.1 this.2
   |tup cs=>obtain⟨vs,rfl,h2⟩:=Z0c hr;have:=lst vs cs (by simpa[Vz]using hc) h2;exact .tup vs _ this.1 this.2
   |_=>simp[Vz]at hc
 exact rr 4 7 v r (by omega) hok r3

theorem Z8Y {args:List (AV D)} {vs:List Value} {c:AV D} {v:Value} {π:List (Ans D)} {r:Res D} (hi:Inv U w E hp) (h:Z0h P U hp args π c=some r) (hobl:ZD r.obl)
  (hc:Rep U w E hp v c) (hargs:ZW U w E hp vs args) (hrun:∀f first cap,v= .func (.func f) first cap→Z4g P f→(execOp a.eval o).run P w= .ok (.enter f (first++vs.toArray++cap)) w):
  Oks P U o a w E hp r.val r.hp:=by
 unfold Z0h at h
 split at h
 case h_2=>cases h
 rename_i k first cap
 obtain⟨v1,v2,rfl,h1,h2⟩:=Uz hc
 have hall:ZW U w E hp (v1++vs++v2) (first++args++cap):=(h1.append hargs).append h2
 have harr:(⟨v1⟩:Array Value)++vs.toArray++⟨v2⟩=⟨v1++vs++v2⟩:=by
  apply Array.ext';simp
 intro next Q hnext
 unfold Oper.wp
 split at h
 ·rename_i r0 π'
  split at h
  case h_2=>cases h
  rename_i hsc
  generalize hvw:vws hp (List.range hp.length) (first++args++cap)=q at h
  obtain⟨ps,as⟩:=q
  injection h with h;subst h
  obtain⟨hcall,hps⟩:=hobl
  rw[hrun k _ _ rfl hcall.1,harr]
  refine(Z8V hi hvw hps hcall hall).mono fun e w' ⟨v,E',he,_,_,_,E0,r3,i5,s5⟩=> ?_
  subst he
  exact hnext v w' E i5 s5 (Z6G 4 v _ hsc r3)
 ·rename_i ids r0 π'
  generalize hvw:vws hp ids (first++args++cap)=q at h
  obtain⟨ps,as⟩:=q
  injection h with h;subst h
  obtain⟨hcall,hps⟩:=hobl
  rw[hrun k _ _ rfl hcall.1,harr]
  refine(Z8V hi hvw hps hcall hall).mono fun e w' ⟨v,E',he,i3,s3,r3,_⟩=> ?_
  subst he
  exact hnext v w' E' i3 s3 r3
 ·rename_i ids r0 h' π'
  split at h
  case h_2=>cases h
  rename_i hsub hs hnd hle
  split at h
  case h_2=>cases h
  rename_i hp' hwb
  injection h with h;subst h
  obtain⟨hcall,_⟩:=hobl
  rw[hrun k _ _ rfl hcall.1,harr]
  refine(ZcO hi hs hnd hwb hcall hall).mono fun e w' ⟨v,E',he,i3,s3,r3⟩=> ?_
  subst he
  exact hnext v w' E' i3 s3 r3
 ·rename_i r0 h' π'
  split at h
  case h_2=>cases h
  rename_i qs himm hok
  generalize hvw:vws hp (List.range hp.length) (first++args++cap)=q at h
  obtain⟨ps,as⟩:=q
  injection h with h;subst h
  obtain⟨hcall,hps⟩:=hobl
  rw[YG]at hps
  rw[hrun k _ _ rfl hcall.1,harr]
  refine(Zd2 hi himm hps.1 hok hvw hps.2 hcall hall).mono fun e w' ⟨v,E',he,i3,s3,r3⟩=> ?_
  subst he
  exact hnext v w' E' i3 s3 r3
 ·cases h

theorem Z6I {E1:Emb} {fz:List Nat} (hi:Inv U w E hp) (hS:∀id∈fz,id<hp.length→∀b cap,E.m id=some (b,cap)→E1.S b) (s1:Zg U w E hp w E1 (Y6 hp fz)):
  ∀(k:Nat) (v:Value) (c:AV D),ZD (vwk hp fz k c).1→Rep U w E hp v c→Rep U w E1 (Y6 hp fz) v (vwk hp fz k c).2
 |0,v,c,_,h=>h.mono s1.smono (fun _ _=>rfl) s1.evo
 |k+1,v,c,ho,h=>by
  have ih:=Z6I hi hS s1 k
  have up:∀ {x:Value} {a:AV D},Rep U w E hp x a→Rep U w E1 (Y6 hp fz) x a:=fun h=>h.mono s1.smono (fun _ _=>rfl) s1.evo
  have lst:∀(vs:List Value) (cs:List (AV D)),ZD ((cs.map (vwk hp fz k)).flatMap (·.1))→(∀(j:Nat) x c,vs[j]?=some x→cs[j]?=some c→Rep U w E hp x c)→
    ∀(j:Nat) x c,vs[j]?=some x→((cs.map (vwk hp fz k)).map (·.2))[j]?=some c→Rep U w E1 (Y6 hp fz) x c:=by
   intro vs cs hall hr j x c hx hc
   simp only[List.map_map,List.getElem?_map,Option.map_eq_some_iff]at hc
   obtain⟨d,hd,rfl⟩:=hc
   refine ih x d ?_ (hr j x d hx hd)
   rw[Z0k]at hall
   exact hall _ (List.mem_map.2 ⟨d,List.mem_of_getElem? hd,rfl⟩)
  have pr:ZD (vw hp fz (k+1) c).1→Rep U w E1 (Y6 hp fz) v (vw hp fz (k+1) c).2:=fun ho=> .pure _ _ (Z1Z hi hS s1.smono (k+1) v c ho h)
  cases c with
  |un=>exact .un _
  |v x=>exact up h
  |db b=>have:=Wy h;subst this;exact .v _
  |agg cs=>
   obtain⟨vs,rfl,hl,h2⟩:=Vv h
   exact .agg vs _ (by simp[hl]) (lst vs cs ho h2)
  |tup cs=>
   obtain⟨vs,rfl,hl,h2⟩:=Z0c h
   exact .tup vs _ (by simp[hl]) (lst vs cs ho h2)
  |sl t l=>exact up h
  |sn b t l=>exact up h
  |em t=>obtain⟨a,rfl⟩:=WT h;exact .pure _ _ (.sl0 t a 0)
  |rp row o=>exact up h
  |fn f first cap=>
   obtain⟨vs,ws,rfl,⟨hv,h1⟩,hw,h2⟩:=Uz h
   simp only[vwk]at ho⊢
   rw[YG]at ho
   exact .fn f vs ws _ _ (by simp[hv]) (by simp[hw]) (lst vs first ho.1 h1) (lst ws cap ho.2 h2)
  |os id n=>
   simp only[vwk]at ho⊢
   split
   ·rename_i hc;rw[hc]at ho;exact pr ho
   ·exact up h
  |oss id n a b=>
   simp only[vwk]at ho⊢
   split
   ·rename_i hc;rw[hc]at ho;exact pr ho
   ·exact up h
  |op id n i off=>
   simp only[vwk]at ho⊢
   split
   ·rename_i hc;rw[hc]at ho;exact pr ho
   ·exact up h

theorem Z8Z {args:List (AV D)} {vs:List Value} {c:AV D} {v:Value} {π:List (Ans D)} {r:Res D} (hi:Inv U w E hp) (h:Z0i P U hp args π c=some r) (hobl:ZD r.obl)
  (hc:Rep U w E hp v c) (hargs:ZW U w E hp vs args) (hrun:∀f first cap,v= .func (.func f) first cap→Z4g P f→(execOp a.eval o).run P w= .ok (.enter f (first++vs.toArray++cap)) w):
  Oks P U o a w E hp r.val r.hp:=by
 unfold Z0i at h
 split at h
 ·rename_i fz π'
  split at h
  rename_i ps as qs f' hvs hvf
  split at h
  case h_2=>cases h
  rename_i r0 hr0
  injection h with h;subst h
  rw[YG,YG]at hobl
  obtain⟨E1,_,hS1,i1,s1⟩:=U1 fz E hp hi
  have hf:Rep U w E1 (Y6 hp fz) v f':=by
   have:=Z6I hi hS1 s1 8 v c (by rw[hvf];exact hobl.2.1) hc
   rwa [hvf]at this
  have ha:ZW U w E1 (Y6 hp fz) vs as:=by
   have e:as=(args.map (vwk hp fz 8)).map (·.2):=by unfold Z6o at hvs;injection hvs with h1 h2;exact h2.symm
   have e1:ps=(args.map (vwk hp fz 8)).flatMap (·.1):=by unfold Z6o at hvs;injection hvs with h1 h2;exact h1.symm
   subst e
   refine⟨by simp[hargs.1],fun k x c hx hc=> ?_⟩
   simp only[List.map_map,List.getElem?_map,Option.map_eq_some_iff]at hc
   obtain⟨d,hd,rfl⟩:=hc
   refine Z6I hi hS1 s1 8 x d ?_ (hargs.2 k x d hx hd)
   have h2:=hobl.1
   rw[e1,Z0k]at h2
   exact h2 _ (List.mem_map.2 ⟨d,List.mem_of_getElem? hd,rfl⟩)
  have:=Z8Y i1 hr0 hobl.2.2 hf ha hrun
  intro next Q hnext
  exact this next Q fun v w' E' i2 s2 r2=>hnext v w' E' i2 (s1.trans s2) r2
 ·exact Z8Y hi h hobl hc hargs hrun
theorem Zd3 {args:List (AV D)} {vs:List Value} {c:AV D} {v:Value} {π:List (Ans D)} {r:Res D} (hi:Inv U w E hp) (h:Z1R P U hp args π c=some r) (hobl:ZD r.obl)
  (hc:Rep U w E hp v c) (hargs:ZW U w E hp vs args) (hrun:∀f first cap,v= .func (.func f) first cap→Z4g P f→(execOp a.eval o).run P w= .ok (.enter f (first++vs.toArray++cap)) w):
  Oks P U o a w E hp r.val r.hp:=by
 unfold Z1R at h
 split at h
 ·obtain⟨E1,i1,s1,ha⟩:=TL args E hp vs hi hargs
  have:=Z8Z i1 h hobl (s1.rep hi hc) ha hrun
  intro next Q hnext
  exact this next Q fun v w' E' i2 s2 r2=>hnext v w' E' i2 (s1.trans s2) r2
 ·exact Z8Z hi h hobl hc hargs hrun
end
end Go.Eng
