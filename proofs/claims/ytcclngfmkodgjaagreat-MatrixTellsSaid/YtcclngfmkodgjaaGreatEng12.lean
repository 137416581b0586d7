/- The engine, part 12: regions in the order of the text. -/
import Derived.Test.YtcclngfmkodgjaaGreatEng11
set_option linter.unusedVariables false
set_option linter.unusedSectionVars false
set_option linter.unusedSimpArgs false
namespace Go.Eng
open Go
variable {D:Den} [Gl D]

structure X8 (U:Zu D) (w:World) (E:Emb) (hp:Z3 D) (N:Nat) (a:Act) (fr:Fr D):Prop where
 size:a.tmps.size=N
 defers:a.defers= []
 slots:XX U w E hp a fr

structure W3 (k:Nat) (U:Zu D) (w:World) (E:Emb) (hp:Z3 D) (w':World) (E':Emb) (hp':Z3 D):Prop where
 os:w'.os=w.os
 tape:w'.tape=w.tape
 output:w'.output=w.output
 fz:∀a:Addr,a.block<w.heap.size→¬Own E hp a.block→w'.frozen? a=w.frozen? a
 size:w.heap.size≤w'.heap.size
 keep:∀b,b<w.heap.size→¬Own E hp b→w'.heap[b]?=w.heap[b]?
 own:∀b,b<w.heap.size→Own E' hp' b→Own E hp b
 smono:∀b,E.S b→E'.S b
 snew:∀b,E'.S b→E.S b∨Own E hp b∨w.heap.size≤b
 evo:∀id o,id<k→hp[id]?=some o→∃o',hp'[id]?=some o'∧o'.wid U=o.wid U∧o.len≤o'.len∧(o'.len=o.len→VZ (E'.m id) (E.m id))

section
variable {P:Program} {U:Zu D} {o:Oper} {a:Act} {w:World} {E:Emb} {hp:Z3 D} {k:Nat}

theorem Zg.toK {w':World} {E':Emb} {hp':Z3 D} (s:Zg U w E hp w' E' hp') (k:Nat):W3 k U w E hp w' E' hp':=
 ⟨s.os,s.tape,s.output,s.fz,s.size,s.keep,s.own,s.smono,s.snew,fun id o _ h=>s.evo id o h⟩
theorem W3.refl (k:Nat) (U:Zu D) (w:World) (E:Emb) (hp:Z3 D):W3 k U w E hp w E hp:=(Zg.refl U w E hp).toK k
theorem W3.trans {w1 w2 w3:World} {E1 E2 E3:Emb} {h1 h2 h3:Z3 D} (a:W3 k U w1 E1 h1 w2 E2 h2) (b:W3 k U w2 E2 h2 w3 E3 h3):W3 k U w1 E1 h1 w3 E3 h3 where
 os:=b.os.trans a.os
 tape:=b.tape.trans a.tape
 output:=b.output.trans a.output
 fz:=fun q hq ho=>(b.fz q (by have:=a.size;omega) (fun h=>ho (a.own q.block hq h))).trans (a.fz q hq ho)
 size:=Nat.le_trans a.size b.size
 keep:=fun q hk ho=>by
  rw[b.keep q (by have:=a.size;omega) (fun h=>ho (a.own q hk h)),a.keep q hk ho]
 own:=fun q hk h=>a.own q hk (b.own q (by have:=a.size;omega) h)
 smono:=fun q h=>b.smono q (a.smono q h)
 snew:=fun q h=>by
  rcases b.snew q h with h|h|h
  ·exact a.snew q h
  ·by_cases hk:q<w1.heap.size
   ·exact .inr (.inl (a.own q hk h))
   ·exact .inr (.inr (by omega))
  ·exact .inr (.inr (by have:=a.size;omega))
 evo:=fun id o hid ho=>by
  obtain⟨o2,h2',w2,l2,e2⟩:=a.evo id o hid ho
  obtain⟨o3,h3',w3,l3,e3⟩:=b.evo id o2 hid h2'
  refine⟨o3,h3',w3.trans w2,Nat.le_trans l2 l3,fun h=> ?_⟩
  have:o2.len=o.len:=by omega
  exact(e3 (by omega)).trans (e2 this)

theorem Z95 {d:Nat} {b:Bool} (h:a.tmps.getD d undef= .bool b):a.tmps[d]?=some (.bool b):=by
 rw[Array.getD_eq_getD_getElem?]at h
 cases hq:a.tmps[d]? with
 |none=>rw[hq]at h;simp[undef]at h
 |some x=>rw[hq]at h;simp at h;rw[h]

theorem Z4G {fr fr1:Fr D} {ops:Array Oper} {π π1:List (Ans D)} {ps:List Prop} {want:Bool} (hf:XX U w E hp a fr)
  (h:WH fr ops.toList π o.guard=some (ps,want,fr1,π1)) (hps:ZD ps):Region.wanted o (yielded ops a.tmps)=want∧XX U w E hp a fr1:=by
 unfold WH at h
 unfold Region.wanted
 split at h
 ·rename_i hg
  simp only[Option.some.injEq,Prod.mk.injEq]at h
  obtain⟨_,rfl,rfl,_⟩:=h
  rw[hg]
  exact⟨rfl,hf⟩
 ·rename_i j want' hg
  rw[hg]
  simp only
  split at h
  case h_2=>cases h
  rename_i d hd
  have hd':(ops[j]?).bind (·.dst)=some d:=by simpa using hd
  split at h
  ·rename_i b hb
   simp only[Option.some.injEq,Prod.mk.injEq]at h
   obtain⟨_,rfl,rfl,_⟩:=h
   have:=Wy (hb ▸hf d)
   refine⟨?_,hf⟩
   simp only[yielded,hd',Option.bind_some,Z95 this]
   cases b <;> cases want' <;> rfl
  ·rename_i b hb
   split at h
   case h_2=>cases h
   rename_i c π'
   simp only[Option.some.injEq,Prod.mk.injEq]at h
   obtain⟨rfl,rfl,rfl,_⟩:=h
   have hbc:b=c:=hps.1
   have:=Z0b (hb ▸hf d)
   refine⟨?_,fun s=> ?_⟩
   ·simp only[yielded,hd',Option.bind_some,Z95 this]
    rw[hbc]
    cases c <;> cases want' <;> rfl
   ·simp only[ZL]
    split
    ·rename_i hds
     have:d=s:=Nat.eq_of_beq_eq_true hds
     subst this
     rw[‹a.tmps.getD d undef= .bool b›,hbc];exact .db c
    ·exact hf s
  ·rename_i q hb
   simp only[Option.some.injEq,Prod.mk.injEq]at h
   obtain⟨_,rfl,rfl,_⟩:=h
   have:=Yo (hb ▸hf d)
   refine⟨?_,hf⟩
   simp only[yielded,hd',Option.bind_some]
   rw[Array.getD_eq_getD_getElem?]at this
   cases hq:a.tmps[d]? with
   |none=>cases want' <;> rfl
   |some x=>rw[hq]at this;simp at this;subst this;cases want' <;> rfl
  ·cases h

theorem Z96 {N:Nat} {fr:Fr D} {dst:Option Nat} {v:Value} {c:AV D} (hf:X8 U w E hp N a fr) (hd:Z6v N dst=true) (hv:Rep U w E hp v c):
  X8 U w E hp N (a.put dst v) (Z0j fr dst c):=by
 cases dst with
 |none=>exact hf
 |some d=>
  have hlt:d<N:=Nat.le_of_ble_eq_true hd
  refine⟨by simp[Act.put,hf.size],hf.defers,fun s=> ?_⟩
  simp only[Z0j,ZL]
  split
  ·rename_i hds
   have:d=s:=Nat.eq_of_beq_eq_true hds
   subst this
   have:(a.put (some d) v).tmps.getD d undef=v:=by
    simp[Act.put,Array.getD_eq_getD_getElem?,hf.size,hlt]
   rw[this];exact hv
  ·rename_i hds
   have hne:d≠s:=fun e=>by subst e;simp at hds
   have:(a.put (some d) v).tmps.getD s undef=a.tmps.getD s undef:=by
    simp[Act.put,Array.getD_eq_getD_getElem?,Array.getElem?_setIfInBounds,hne]
   rw[this];exact hf.slots s

theorem XX.step {w':World} {E':Emb} {hp':Z3 D} {fr:Fr D} (hi:Inv U w E hp) (s:Zg U w E hp w' E' hp') (h:XX U w E hp a fr):XX U w' E' hp' a fr:=
 fun q=>s.rep hi (h q)

theorem Z4H {N:Nat} {ops:Array Oper} {Q:Exit→Act→World→Prop} {i:Nat} {K:Act→World→Prop} {fr:Fr D} {π:List (Ans D)} (ho:ops[i]?=some o) (hi:Inv U w E hp) (hf:X8 U w E hp N a fr) (hd:Z6v N o.dst=true)
  {ps:List Prop} {want:Bool} {fr1:Fr D} {π1:List (Ans D)} (hg:WH fr ops.toList π o.guard=some (ps,want,fr1,π1)) (hps:ZD ps)
  (hyes:want=true→∃r,opA P U fr1 hp o.type π1 o.op=some r∧ZD r.obl∧∀a' w' E',Inv U w' E' r.hp→Zg U w E hp w' E' r.hp→X8 U w' E' r.hp N a' (Z0j fr1 o.dst r.val)→K a' w')
  (hno:want=false→∀a',X8 U w E hp N a' (Z0j fr1 o.dst (.v (.tuple #[])))→K a' w):wpOp P ops Q i K a w:=by
 obtain⟨hw,hf1⟩:=Z4G hf.slots hg hps
 have hf1':X8 U w E hp N a fr1:=⟨hf.size,hf.defers,hf1⟩
 unfold wpOp
 simp only[ho]
 cases want with
 |true=>
  rw[if_pos hw]
  obtain⟨r,hr,hobl,hK⟩:=hyes rfl
  refine .inl (Z4F hi hf1 hr hobl K Q fun v w' E' i1 s1 r1=> ?_)
  exact hK _ w' E' i1 s1 (Z96 ⟨hf.size,hf.defers,hf1.step hi s1⟩ hd r1)
 |false=>
  rw[if_neg (by rw[hw];simp)]
  exact hno rfl _ (Z96 hf1' hd (.v _))

theorem Z6N {N:Nat} {ops:Array Oper} {Q:Exit→Act→World→Prop} :∀(l:List Oper) (j:Nat) (a:Act) (w:World) (E:Emb) (hp hp':Z3 D) (fr fr':Fr D) (π π':List (Ans D)) (ps:List Prop),
  (∀i,l[i]?=ops[j+i]?)→VA P U N ops.toList l fr hp π=some (ps,fr',hp',π')→ZD ps→Inv U w E hp→X8 U w E hp N a fr→
  (∀a' w' E',Inv U w' E' hp'→Zg U w E hp w' E' hp'→X8 U w' E' hp' N a' fr'→Q .normal a' w')→wpOps P ops Q (List.range' j l.length) a w
 | [],j,a,w,E,hp,hp',fr,fr',π,π',ps,_,h,_,hi,hf,hQ=>by
  simp only[VA,Option.some.injEq,Prod.mk.injEq]at h
  obtain⟨_,rfl,rfl,_⟩:=h
  exact hQ a w E hi (Zg.refl U w E hp) hf
 |o::l,j,a,w,E,hp,hp',fr,fr',π,π',ps,hl,h,hps,hi,hf,hQ=>by
  have ho:ops[j]?=some o:=by simpa using (hl 0).symm
  have hl':∀i,l[i]?=ops[j+1+i]?:=fun i=>by
   have:=hl (i+1)
   simpa[Nat.add_assoc,Nat.add_comm 1 i]using this
  rw[List.length_cons,List.range'_succ,wpOps_cons]
  simp only[VA]at h
  split at h
  ·cases h
  rename_i hd
  split at h
  ·cases h
  ·rename_i qs fr1 π1 hg
   split at h
   ·cases h
   rename_i r hr
   split at h
   ·cases h
   rename_i rs fr2 hp2 π2 hrest
   simp only[Option.some.injEq,Prod.mk.injEq]at h
   obtain⟨rfl,rfl,rfl,_⟩:=h
   rw[YG,YG]at hps
   refine Z4H ho hi hf hd hg hps.1 (fun _=>⟨r,hr,hps.2.1,fun a' w' E' i1 s1 f1=> ?_⟩) (fun h=>by cases h)
   exact Z6N l (j+1) a' w' E' r.hp hp2 _ fr2 _ π2 rs hl' hrest hps.2.2 i1 f1 (fun a2 w2 E2 i2 s2 f2=>hQ a2 w2 E2 i2 (s1.trans s2) f2)
  ·rename_i qs fr1 π1 hg
   split at h
   ·cases h
   rename_i rs fr2 hp2 π2 hrest
   simp only[Option.some.injEq,Prod.mk.injEq]at h
   obtain⟨rfl,rfl,rfl,_⟩:=h
   rw[YG]at hps
   refine Z4H ho hi hf hd hg hps.1 (fun h=>by cases h) (fun _ a' f1=> ?_)
   exact Z6N l (j+1) a' w E hp hp2 _ fr2 _ π2 rs hl' hrest hps.2 hi f1 hQ
end
end Go.Eng
