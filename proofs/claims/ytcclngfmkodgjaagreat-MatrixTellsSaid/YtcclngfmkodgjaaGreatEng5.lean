/- The engine, part 5: stores, addresses, literals, appends. -/
import Derived.Test.YtcclngfmkodgjaaGreatEng4
set_option linter.unusedVariables false
set_option linter.unusedSectionVars false
set_option linter.unusedSimpArgs false
namespace Go.Eng
open Go
variable {D:Den} [Gl D]

theorem Z8O {hp news:Z3 D} {id:Nat} {x:Zf D} (h:id<hp.length):ZC (hp++news) id x=ZC hp id x++news:=by
 induction hp generalizing id with
 |nil=>simp at h
 |cons o r ih=>
  cases id with
  |zero=>simp[ZC]
  |succ id=>simp[ZC,ih (by simpa using h)]

theorem We {α:Type} {row cs:List α} {off k:Nat} (h:off+cs.length≤row.length):
  (row.take off++cs++row.drop (off+cs.length))[k]?=if k<off then row[k]? else if k<off+cs.length then cs[k-off]? else row[k]?:=by
 have ht:(row.take off).length=off:=by simp;omega
 by_cases h1:k<off
 ·rw[if_pos h1,List.append_assoc,List.getElem?_append_left (by omega),List.getElem?_take_of_lt h1]
 ·rw[if_neg h1]
  by_cases h2:k<off+cs.length
  ·rw[if_pos h2,List.getElem?_append_left (by simp;omega),List.getElem?_append_right (by omega),ht]
  ·rw[if_neg h2,List.getElem?_append_right (by simp;omega),List.getElem?_drop]
   congr 1
   simp;omega

theorem Zcz {U:Zu D} {t:Nat} {l:List (D t)} {i k:Nat} {y:D t} (hi:i<l.length):
  (Z5 U t (l.set i y))[k]?=if k<i * U.width t then(Z5 U t l)[k]? else if k<i * U.width t+U.width t then(U.cells t y)[k-i * U.width t]? else(Z5 U t l)[k]?:=by
 have hw:=U.pos t
 induction l generalizing i k with
 |nil=>simp at hi
 |cons x r ih=>
  cases i with
  |zero=>
   simp only[List.set_cons_zero,Z5,List.flatMap_cons,Nat.zero_mul,Nat.zero_add,Nat.not_lt_zero,if_false,Nat.sub_zero]
   by_cases h:k<U.width t
   ·rw[if_pos h,List.getElem?_append_left (by rw[U.len];exact h)]
   ·rw[if_neg h,List.getElem?_append_right (by rw[U.len];omega),List.getElem?_append_right (by rw[U.len];omega),U.len,U.len]
  |succ i=>
   simp only[List.set_cons_succ,Z5,List.flatMap_cons]
   have hi':i<r.length:=by simpa using hi
   by_cases h:k<U.width t
   ·rw[if_pos (by rw[Nat.succ_mul];omega),List.getElem?_append_left (by rw[U.len];exact h),List.getElem?_append_left (by rw[U.len];exact h)]
   ·rw[List.getElem?_append_right (by rw[U.len];omega),List.getElem?_append_right (by rw[U.len];omega),U.len]
    have:=ih (k:=k-U.width t) hi'
    simp only[Z5]at this
    rw[this]
    rw[Nat.succ_mul]
    by_cases h1:k-U.width t<i * U.width t
    ·rw[if_pos h1,if_pos (show k<i * U.width t+U.width t by omega)]
    ·rw[if_neg h1,if_neg (show ¬k<i * U.width t+U.width t by omega)]
     by_cases h2:k-U.width t<i * U.width t+U.width t
     ·rw[if_pos h2,if_pos (show k<i * U.width t+U.width t+U.width t by omega)];congr 1;omega
     ·rw[if_neg h2,if_neg (show ¬k<i * U.width t+U.width t+U.width t by omega)]

section
variable {P:Program} {U:Zu D} {o:Oper} {a:Act} {w:World} {E:Emb} {hp:Z3 D}

theorem Z0l {x:AV D} (h:(ZH x).all XP=true):X7 x=true:=by
 cases x with
 |v y=>cases y <;> first|rfl|simp[ZH,XP]at h
 |un=>simp[ZH,XP]at h
 |_=>rfl

theorem Z4w {v:Value} {c:AV D} (hc:XP c=true) (h:Rep U w E hp v c):v.oneCell'=true:=by
 cases c with
 |un=>simp[XP]at hc
 |v x=>have:=Yo h;subst this;cases v <;> first|rfl|simp[XP]at hc
 |db b=>have:=Wy h;subst this;rfl
 |os id n=>obtain⟨⟨a,k,c,rfl⟩,_⟩:=W1 h;rfl
 |op id n i off=>obtain⟨⟨a,rfl⟩,_⟩:=Wz h;rfl
 |agg cs=>simp[XP]at hc
 |tup cs=>simp[XP]at hc
 |sl t l=>cases Vw h <;> rfl
 |em t=>obtain⟨a,rfl⟩:=WT h;rfl
 |rp row o=>cases UA h;rfl
 |sn b t l=>obtain⟨a,len,cap,rfl,_,_⟩:=Z0d h;rfl
 |oss id n a b=>obtain⟨⟨x,k,c,rfl⟩,_⟩:=Vd h;rfl
 |fn f first cap=>obtain⟨vs,ws,rfl,_,_⟩:=Uz h;rfl

theorem Z0m {vs:List Value} {cs:List (AV D)} (hc:cs.all XP=true) (h:ZW U w E hp vs cs):∀v∈vs,v.oneCell'=true:=by
 intro v hv
 obtain⟨k,hk,rfl⟩:=List.mem_iff_getElem.1 hv
 have hk':k<cs.length:=by rw[←h.1];exact hk
 exact Z4w (List.all_eq_true.1 hc _ (List.getElem_mem hk')) (h.2 k _ _ (List.getElem?_eq_getElem hk) (List.getElem?_eq_getElem hk'))

theorem Z4x {t b base k e:Nat} {c:List Value} {v:Value} (hb:w.heap[b]?=some (.cells ⟨c⟩ e (0,0))) (hk:ZT P t=some k) (hl:v.cells.toList.length=k)
  (hle:base+k≤c.length) (h1:∀x∈v.cells.toList,x.oneCell'=true):
  (storeVar t ⟨b,base,none⟩ v).run P w= .ok () (w.setRow b ⟨c.take base++v.cells.toList++c.drop (base+v.cells.toList.length)⟩):=by
 obtain⟨i,hi,hin⟩:∃i,P.info? t=some i∧i.size=k:=by
  simp only[ZT,Option.map_eq_some_iff]at hk;exact hk
 have hsz:v.cells.size=k:=by simpa using hl
 have:=run_storeCells_at P b base e v.cells.toList 0 ⟨c⟩ w hb (by simp;omega) h1
 simp only[Nat.add_zero]at this
 simp only[storeVar,sizeOf,typeInfo,program,Sem.run_bind,Sem.run,hi,Result.andThen_ok,hin,hsz]
 simp[Sem.run,this,hi,hin]

theorem ZcA {t:Nat} {x p:AV D} {v q:Value} {π:List (Ans D)} {r:Res D} (hi:Inv U w E hp) (h:Z6k P U hp t x π p=some r) (hobl:ZD r.obl)
  (hx:Rep U w E hp v x) (hq:Rep U w E hp q p):r.val= .v (.tuple #[])∧∃w' E',(Instr.storeAt t q v).run P w= .ok () w'∧Inv U w' E' r.hp∧Zg U w E hp w' E' r.hp:=by
 unfold Z6k at h
 split at h
 case h_2=>cases h
 rename_i id n i off
 split at h
 ·cases h
 rename_i k hk
 split at h
 ·cases h
 rename_i hkl
 have hkl:k=(ZH x).length:=Nat.eq_of_beq_eq_true hkl
 split at h
 ·-- a variable
  rename_i e row hob
  split at h
  case h_2=>cases h
  rename_i hn hi0 hle hok
  have hn:n=1:=Nat.eq_of_beq_eq_true hn
  have hi0:i=0:=Nat.eq_of_beq_eq_true hi0
  have hle:off+k≤row.length:=Nat.le_of_ble_eq_true hle
  subst hn;subst hi0
  have hcr:=Wa (Z0l hok) hx
  obtain⟨E1,i1,s1,r1⟩:=TL (ZH x) E hp v.cells.toList hi hcr
  generalize hmat:YB hp.length (ZH x)=mt at *
  injection h with h;subst h
  have hlt:id<hp.length:=(List.getElem?_eq_some_iff.1 hob).1
  have hob1:(hp++mt.1)[id]?=some (.box e row false):=by rw[List.getElem?_append_left hlt];exact hob
  have hop:=Wz hq
  ·have hop1:=hop.mono s1.evo
   obtain⟨_,o',ho',hle',hh⟩:=hop1
   rw[hob1]at ho';injection ho' with ho';subst ho'
   have h3:=hh rfl
   have hobj:=i1.obj id _ hob1
   cases hm:E1.m id with
   |none=>rw[hm]at h3;exact h3.elim
   |some qq=>
    obtain⟨b,cap⟩:=qq
    rw[hm]at h3 hobj
    simp only[XW,Nat.zero_mul,Nat.zero_add]at h3
    subst h3
    have hobj':=hobj
    obtain⟨c,e',hb,hcap,hr,f1,f2⟩:=hobj
    have hcl:c.length=row.length:=hcap
    have hlen:v.cells.toList.length=mt.2.length:=r1.1
    have hvl:v.cells.toList.length=k:=by rw[hkl];exact hcr.1
    have hg1:v.cells.size=k:=by simpa using hvl
    have hg2:mt.2.length=k:=by omega
    have hsl:(splice row off mt.2).length=row.length:=by simp[splice];omega
    have hcl2:(c.take off++v.cells.toList++c.drop (off+v.cells.toList.length)).length=row.length:=by simp;omega
    have hrun:=Z4x (P:=P) (w:=w) (t:=t) (base:=off) hb hk hvl (by omega) (Z0m hok hcr)
    obtain⟨i2,s2⟩:=TN i1 hob1 rfl hm (o'':= .box e (splice row off mt.2) false) rfl hsl (Nat.le_refl _)
     (c.take off++v.cells.toList++c.drop (off+v.cells.toList.length)) (by rw[hcl2];exact hsl.symm) (fun j d hj=>by
      have hj:(splice row off mt.2)[j]?=some d:=hj
      unfold splice at hj
      rw[We (by omega)]at hj
      rw[We (by omega)]
      by_cases g1:j<off
      ·rw[if_pos g1]at hj⊢;exact hr j d hj
      ·rw[if_neg g1]at hj⊢
       by_cases g2:j<off+mt.2.length
       ·rw[if_pos g2]at hj;rw[if_pos (by omega)]
        have hlt2:j-off<v.cells.toList.length:=by omega
        exact⟨_,List.getElem?_eq_getElem hlt2,r1.2 _ _ d (List.getElem?_eq_getElem hlt2) hj⟩
       ·rw[if_neg g2]at hj;rw[if_neg (by omega)];exact hr j d hj)
    rw[Z8O hlt]at i2 s2
    exact⟨rfl,_,_,by simp[Instr.storeAt,Instr.sureAddr,hrun],i2,s1.trans s2⟩
 ·-- an own array
  rename_i e l ln hob
  split at h
  case h_2=>cases h
  rename_i rw' ids o' π'
  split at h
  case h_2=>cases h
  rename_i hle hok hnc
  have hle:off+k≤rw'.length:=Nat.le_of_ble_eq_true hle
  generalize hvs:vws hp ids (ZH x)=pc at *
  injection h with h;subst h
  obtain⟨⟨hnl,⟨x0,hx0,hcells⟩,y,ho',hy⟩,hps⟩:=hobl
  subst ho'
  obtain⟨E1,em1,hS1,i1,s1⟩:=U1 ids E hp hi
  have hcr:=Wa (Z0l hok) hx
  have hps':ZD (vws hp ids (ZH x)).1:=by rw[hvs];exact hps
  have r1:=U2 (S':=E1.S) hi hS1 s1.smono hps' hcr
  rw[hvs]at r1
  have hlt:id<hp.length:=(List.getElem?_eq_some_iff.1 hob).1
  have hob1:(Y6 hp ids)[id]?=some (.arr e l ln false):=by rw[Z4v ids hp id hnc];exact hob
  have hil:i<l.length:=(List.getElem?_eq_some_iff.1 hx0).1
  have hop:=Wz hq
  ·have hop1:=hop.mono s1.evo
   obtain⟨_,o',ho',hle',hh⟩:=hop1
   rw[hob1]at ho';injection ho' with ho';subst ho'
   have h3:=hh hnl
   have hobj:=i1.obj id _ hob1
   cases hm:E1.m id with
   |none=>rw[hm]at h3;exact h3.elim
   |some qq=>
    obtain⟨b,cap⟩:=qq
    rw[hm]at h3 hobj
    simp only[XW,Zf.wid]at h3
    subst h3
    obtain⟨c,e',hb,hcap,hr,f1,f2⟩:=hobj
    have hcl:c.length=cap.n * U.width e:=hcap.1
    have hcap2:l.length≤cap.n:=hcap.2.1
    have hln:ln=l.length:=hcap.2.2
    have hlen:v.cells.toList.length=pc.2.length:=r1.1
    have hvl:v.cells.toList.length=k:=by rw[hkl];exact hcr.1
    have hrl:rw'.length=U.width e:=by rw[←hcells,U.len]
    have hmul:i * U.width e+U.width e≤c.length:=by
     rw[hcl, ←Nat.succ_mul];exact Nat.mul_le_mul_right _ (by omega)
    have hmul2:i * U.width e+U.width e≤(Z5 U e l).length:=by
     rw[Yp, ←Nat.succ_mul];exact Nat.mul_le_mul_right _ (by omega)
    have hrun:=Z4x (P:=P) (w:=w) (t:=t) (base:=i * U.width e+off) hb hk hvl (by omega) (Z0m hok hcr)
    obtain⟨i2,s2⟩:=TN i1 hob1 rfl hm (o'':= .arr e (l.set i y) ln false) rfl rfl (by simp[Zf.len])
     (c.take (i * U.width e+off)++v.cells.toList++c.drop (i * U.width e+off+v.cells.toList.length)) (by
      simp only[WU,List.length_append,List.length_take,List.length_drop,List.length_set]
      refine⟨by omega,hcap2,hln⟩) (fun j d hj=>by
      have hj:(Z5 U e (l.set i y))[j]?=some d:=hj
      rw[Zcz hil]at hj
      rw[We (by omega)]
      by_cases g1:j<i * U.width e
      ·rw[if_pos g1]at hj;rw[if_pos (by omega)];exact hr j d hj
      ·rw[if_neg g1]at hj
       by_cases g2:j<i * U.width e+U.width e
       ·rw[if_pos g2,hy]at hj
        unfold splice at hj
        rw[We (by omega)]at hj
        have old:∀ {m:Nat} {dd},m<U.width e→rw'[m]?=some dd→(Z5 U e l)[i * U.width e+m]?=some dd:=fun hm' hmm=>Z1W hx0 (by rw[hcells];exact hmm)
        by_cases g3:j-i * U.width e<off
        ·rw[if_pos g3]at hj;rw[if_pos (by omega)]
         have:=hr (i * U.width e+(j-i * U.width e)) d (old (by omega) hj)
         rwa [show i * U.width e+(j-i * U.width e)=j from by omega]at this
        ·rw[if_neg g3]at hj
         by_cases g4:j-i * U.width e<off+pc.2.length
         ·rw[if_pos g4]at hj;rw[if_neg (by omega),if_pos (by omega)]
          have hlt2:j-(i * U.width e+off) <v.cells.toList.length:=by omega
          refine⟨_,List.getElem?_eq_getElem hlt2,r1.2 _ _ d (List.getElem?_eq_getElem hlt2) ?_⟩
          rw[←hj];congr 1;omega
         ·rw[if_neg g4]at hj;rw[if_neg (by omega),if_neg (by omega)]
          have:=hr (i * U.width e+(j-i * U.width e)) d (old (by omega) hj)
          rwa [show i * U.width e+(j-i * U.width e)=j from by omega]at this
       ·rw[if_neg g2]at hj;rw[if_neg (by omega),if_neg (by omega)];exact hr j d hj)
    exact⟨rfl,_,_,by simp[Instr.storeAt,Instr.sureAddr,hrun],i2,s1.trans s2⟩
 ·-- an open row
  rename_i e l pm i0 row ln hob
  split at h
  case h_2=>cases h
  rename_i hle hok
  have hle:off+k≤row.length:=Nat.le_of_ble_eq_true hle
  have hcr:=Wa (Z0l hok) hx
  obtain⟨E1,i1,s1,r1⟩:=TL (ZH x) E hp v.cells.toList hi hcr
  generalize hmat:YB hp.length (ZH x)=mt at *
  injection h with h;subst h
  obtain⟨⟨hnl,rfl⟩,_⟩:=hobl
  have hlt:id<hp.length:=(List.getElem?_eq_some_iff.1 hob).1
  have hob1:(hp++mt.1)[id]?=some (.dp e l pm (some (i,row)) ln):=by rw[List.getElem?_append_left hlt];exact hob
  have hop:=Wz hq
  ·have hop1:=hop.mono s1.evo
   obtain⟨_,o',ho',hle',hh⟩:=hop1
   rw[hob1]at ho';injection ho' with ho';subst ho'
   have h3:=hh hnl
   have hobj:=i1.obj id _ hob1
   cases hm:E1.m id with
   |none=>rw[hm]at h3;exact h3.elim
   |some qq=>
    obtain⟨b,cap⟩:=qq
    rw[hm]at h3 hobj
    simp only[XW,Zf.wid]at h3
    subst h3
    obtain⟨c,e',hb,hcap,_,f1,f2,f3,_,hrow,q,q1,q2,q3⟩:=hobj
    obtain⟨hil,hrl,hr⟩:=hrow i row rfl
    have hcl:c.length=cap.n * U.width e:=hcap.1
    have hcap2:l.length≤cap.n:=hcap.2.1
    have hlen:v.cells.toList.length=mt.2.length:=r1.1
    have hvl:v.cells.toList.length=k:=by rw[hkl];exact hcr.1
    have hmul:i * U.width e+U.width e≤c.length:=by
     rw[hcl, ←Nat.succ_mul];exact Nat.mul_le_mul_right _ (by omega)
    have hg1:v.cells.size=k:=by simpa using hvl
    have hg2:mt.2.length=k:=by omega
    have hsl:(splice row off mt.2).length=row.length:=by simp[splice];omega
    have hcl2:(c.take (i * U.width e+off)++v.cells.toList++c.drop (i * U.width e+off+v.cells.toList.length)).length=c.length:=by
     simp only[List.length_append,List.length_take,List.length_drop];omega
    have hrun:=Z4x (P:=P) (w:=w) (t:=t) (base:=i * U.width e+off) hb hk hvl (by omega) (Z0m hok hcr)
    obtain⟨i2,s2⟩:=TN i1 hob1 rfl hm (o'':= .dp e l pm (some (i,splice row off mt.2)) ln) rfl rfl (Nat.le_refl _)
     (c.take (i * U.width e+off)++v.cells.toList++c.drop (i * U.width e+off+v.cells.toList.length)) (by simp only[WU];rw[hcl2];exact hcap) (fun j d hj=>by simp[Zf.flat]at hj) (fun _ ht hs=>by
      refine⟨ht.2.2 _ _ _ _ _ rfl,fun i1' row1 he=> ?_,q,q1,q2,fun i2 x2 hx2 hne k2 a2 hk2=> ?_⟩
      ·injection he with he;injection he with he1 he2
       subst he1;subst he2
       refine⟨hil,by omega,fun j d hj=> ?_⟩
       unfold splice at hj
       rw[We (by omega)]at hj
       rw[We (by omega)]
       by_cases g1:j<off
       ·rw[if_pos g1]at hj;rw[if_pos (by omega)]
        obtain⟨x9,hx9,hr9⟩:=hr j d hj
        exact⟨x9,hx9,hs.rep i1 hr9⟩
       ·rw[if_neg g1]at hj;rw[if_neg (by omega)]
        by_cases g2:j<off+mt.2.length
        ·rw[if_pos g2]at hj;rw[if_pos (by omega)]
         have hlt2:j-off<v.cells.toList.length:=by omega
         have e9:i * U.width e+j-(i * U.width e+off)=j-off:=by omega
         rw[e9]
         exact⟨_,List.getElem?_eq_getElem hlt2,hs.rep i1 (r1.2 _ _ d (List.getElem?_eq_getElem hlt2) hj)⟩
        ·rw[if_neg g2]at hj;rw[if_neg (by omega)]
         obtain⟨x9,hx9,hr9⟩:=hr j d hj
         exact⟨x9,hx9,hs.rep i1 hr9⟩
      ·have hne':i2≠i:=fun e9=>hne _ (by rw[e9])
       have hk9:k2<U.width e:=by rw[←U.len e x2];exact(List.getElem?_eq_some_iff.1 hk2).1
       obtain⟨v9,hv9,g1,g2⟩:=q3 i2 x2 hx2 (fun row9 e9=>hne' (by injection e9 with e9;injection e9 with e9 _;exact e9.symm)) k2 a2 hk2
       have hout:i2 * U.width e+k2<i * U.width e+off∨i * U.width e+off+v.cells.toList.length≤i2 * U.width e+k2:=by
        rcases Nat.lt_or_gt_of_ne hne' with g|g
        ·left
         have:(i2+1) * U.width e≤i * U.width e:=Nat.mul_le_mul_right _ g
         rw[Nat.succ_mul]at this;omega
        ·right
         have:(i+1) * U.width e≤i2 * U.width e:=Nat.mul_le_mul_right _ g
         rw[Nat.succ_mul]at this;omega
       refine⟨v9, ?_,fun hp9=> ?_,fun hp9=>hs.prep i1 (g2 hp9)⟩
       ·rw[We (by omega)]
        rcases hout with g|g
        ·rw[if_pos g];exact hv9
        ·rw[if_neg (by omega),if_neg (by omega)];exact hv9
       ·exact(g1 hp9).keep (fun b9 k9 hq9=>setRow_other w b b9 _ (fun e9=>(q1 _ _ _ hq9).2 e9)) (fun x9 a9 h9=>hs.prep i1 h9))
    rw[Z8O hlt]at i2 s2
    exact⟨rfl,_,_,by simp[Instr.storeAt,Instr.sureAddr,hrun],i2,s1.trans s2⟩
 ·cases h
end
end Go.Eng
