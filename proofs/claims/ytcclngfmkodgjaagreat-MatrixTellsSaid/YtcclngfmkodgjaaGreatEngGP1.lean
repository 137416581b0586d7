/- Part of the proof of MatrixTells: plain laws of the printed mirrors. No conditions. -/
import Derived.Test.YtcclngfmkodgjaaGreatEng14
import Derived.Test.YtcclngfmkodgjaaGreatMAM
set_option linter.unusedVariables false
set_option linter.unusedSectionVars false
namespace Go.Eng
open Go Classical

theorem Zgn {α:Type} {l:List α} {i:Nat} :nth l (i:Int)=l[i]?:=by simp[nth]
theorem Zc {n:Int} (h1: -9223372036854775808≤n) (h2:n<9223372036854775808):Z4 n=n:=by
 unfold Z4 IntKind.wrap
 simp[IntKind.signed,IntKind.bits]
 omega

theorem Xu {σ ρ:Type} {f:σ→Option (σ⊕ρ)} (st:Nat→σ) (n:Nat) {r:ρ} (hb:n<18446744073709551616) (h:∀i,i<n→f (st i)=some (.inl (st (i+1)))) (hn:f (st n)=some (.inr r)):
  Z8 f (st 0)=some r:=by
 have key:∀(k m i:Nat),i+k=n→k<m→V0 f m (st i)=some r:=by
  intro k
  induction k with
  |zero=>
   intro m i hi hm
   obtain⟨m,rfl⟩:∃q,m=q+1:=⟨m-1,by omega⟩
   have:i=n:=by omega
   subst this
   rw[UH,hn]
  |succ k ih=>
   intro m i hi hm
   obtain⟨m,rfl⟩:∃q,m=q+1:=⟨m-1,by omega⟩
   rw[UH,h i (by omega)]
   exact ih m (i+1) (by omega) (by omega)
 exact key n _ 0 (by omega) hb

theorem XE {σ ρ:Type} {f:σ→Option (σ⊕ρ)} (I:σ→Prop) (Q:ρ→Prop) (μ:σ→Nat)
  (h:∀s,I s→∃q,f s=some q∧match q with| .inl s'=>I s'∧μ s'<μ s| .inr r=>Q r) {s:σ} (hs:I s) (hb:μ s<18446744073709551615):∃r,Z8 f s=some r∧Q r:=by
 have key:∀(m:Nat) s,I s→μ s<m→∃r,V0 f m s=some r∧Q r:=by
  intro m
  induction m with
  |zero=>intro s _ h;omega
  |succ m ih=>
   intro s hs hm
   obtain⟨q,hq,hr⟩:=h s hs
   cases q with
   |inl s'=>
    obtain⟨r,h1,h2⟩:=ih s' hr.1 (by have:=hr.2;omega)
    exact⟨r,by rw[UH,hq];exact h1,h2⟩
   |inr r=>exact⟨r,by rw[UH,hq],hr⟩
 exact key _ s hs (by omega)

theorem Z7Z {α ρ:Type} {f:Int→Option (Int⊕ρ)} (l:List α) (step:Nat→α→Option ρ) (last:ρ) (hb:l.length<9223372036854775807)
  (h1:∀(i:Nat) x,l[i]?=some x→i<l.length→f i=some (match step i x with|none=> .inl ((i:Int)+1)|some r=> .inr r)) (h2:f l.length=some (.inr last)):
  Z8 f 0=some ((l.zipIdx.findSome? fun q=>step q.2 q.1).getD last):=by
 have key:∀(r:List α) (k:Nat),l.drop k=r→k≤l.length→∃n,n≤l.length-k∧(∀i,i<n→f ((k+i:Nat):Int)=some (.inl ((k+(i+1):Nat):Int)))∧f ((k+n:Nat):Int)=some (.inr (((r.zipIdx k).findSome? fun q=>step q.2 q.1).getD last)):=by
  intro r
  induction r with
  |nil=>
   intro k hk hle
   have:k=l.length:=by
    have:=congrArg List.length hk
    simp at this;omega
   subst this
   exact⟨0,by omega,fun i hi=>by omega,by simpa using h2⟩
  |cons x r ih=>
   intro k hk hle
   have hx:l[k]?=some x:=by
    have:=congrArg (fun q=>q[0]?) hk
    simpa using this
   have hlt:k<l.length:=(List.getElem?_eq_some_iff.1 hx).1
   have hs:=h1 k x hx hlt
   cases hst:step k x with
   |some q=>
    rw[hst]at hs
    exact⟨0,by omega,fun i hi=>by omega,by simpa[List.zipIdx_cons,hst]using hs⟩
   |none=>
    rw[hst]at hs
    obtain⟨n,hn,ha,hb⟩:=ih (k+1) (by rw[←List.drop_drop,hk];rfl) (by omega)
    refine⟨n+1,by omega,fun i hi=> ?_, ?_⟩
    ·cases i with
     |zero=>simpa using hs
     |succ i=>
      have:=ha i (by omega)
      rw[show k+(i+1)=k+1+i from by omega,show k+(i+1+1)=k+1+(i+1)from by omega];exact this
    ·rw[show k+(n+1)=k+1+n from by omega,hb]
     simp[List.zipIdx_cons,hst]
 obtain⟨n,hn,ha,hb'⟩:=key l 0 rfl (by omega)
 simp only[Nat.zero_add]at ha hb'
 exact Xu (fun i=>(i:Int)) n (by omega) ha hb'

theorem Zgo {α ρ:Type} {f:Int→Option (Int⊕ρ)} (l:List α) (P:Nat→α→Prop) {a b:ρ} (hb:l.length<9223372036854775807)
  (h1:∀(i:Nat) x,l[i]?=some x→i<l.length→f i=some (if P i x then .inl ((i:Int)+1)else .inr a)) (h2:f l.length=some (.inr b)):
  Z8 f 0=some (if ∀(i:Nat) x,l[i]?=some x→P i x then b else a):=by
 rw[Z7Z l (fun i x=>if P i x then none else some a) b hb (fun i x hx hi=>by rw[h1 i x hx hi];split <;> rfl) h2]
 congr 1
 cases hf:l.zipIdx.findSome? (fun q=>if P q.2 q.1 then none else some a)with
 |none=>
  rw[List.findSome?_eq_none_iff]at hf
  rw[if_pos]; · rfl
  intro i x hx
  have:=hf (x,i) (by rw[List.mem_zipIdx_iff_getElem?];simpa using hx)
  apply Classical.byContradiction
  intro hn
  simp[hn]at this
 |some r=>
  obtain⟨q,hq,hr⟩:=List.exists_of_findSome?_eq_some hf
  rw[List.mem_zipIdx_iff_getElem?]at hq
  rw[if_neg]
  ·split at hr
   ·cases hr
   ·simp only[Option.some.injEq]at hr;subst hr;rfl
  ·intro hall
   have:=hall q.2 q.1 (by simpa using hq)
   simp[this]at hr

abbrev Few {α:Type} (l:List α):Prop:=l.length≤1000000
theorem WN {α:Type} {l:List α} {k:Nat} (h:l.length≤k) (hk:k≤1000000:=by decide):Few l:=by unfold Few;omega
theorem Zgp {α:Type} :Few ([]:List α):=by simp[Few]

def inL {α:Type} (l:List α) (i:Int):Prop:=0≤i∧i<l.length
theorem Zbg {α:Type} {l:List α} {i:Int} :inL l i↔0≤i∧i<l.length:=Iff.rfl
noncomputable def Z0 {α:Type} [Inhabited α] (l:List α) (i:Int):α:=(l[i.toNat]?).getD default
section
variable {α:Type} [Inhabited α] {l:List α} {i:Int}
theorem Zb (h:inL l i):nth l i=some (Z0 l i):=by
 have h1:=h.1;have h2:=h.2
 have:i.toNat<l.length:=by omega
 simp[nth,Z0,h1,this]
theorem Xn {n:Nat} {x:α} (h:l[n]?=some x):Z0 l n=x:=by simp[Z0,h]
theorem Vr {n:Nat} {x:α} (h:l[n]?=some x):inL l n:=⟨by omega,by have:=(List.getElem?_eq_some_iff.1 h).1;omega⟩
theorem Y8 (h:inL l i):l[i.toNat]?=some (Z0 l i):=(ZV (Zb h)).2
theorem ZR (h:inL l i):Z0 l i∈l:=List.mem_of_getElem? (Y8 h)
theorem W0 {x:α} (h:x∈l):∃i,inL l i∧Z0 l i=x:=by
 obtain⟨i,hi⟩:=List.getElem?_of_mem h
 exact⟨i,Vr hi,Xn hi⟩
end
def Y9 {α:Type} [Inhabited α] (l:List α) (P:Int→α→Prop):Prop:=∀i,inL l i→P i (Z0 l i)
theorem Zbh {α:Type} [Inhabited α] {l:List α} {P:Int→α→Prop} :Y9 l P↔∀(i:Nat) x,l[i]?=some x→P i x:=by
 constructor
 ·intro h i x hx
  have:=h i (Vr hx)
  rwa [Xn hx]at this
 ·intro h i hi
  have h1:=hi.1
  have:=h i.toNat _ (Y8 hi)
  rwa [show((i.toNat:Nat):Int)=i from by omega]at this
theorem YD {α ρ:Type} [Inhabited α] {f:Int→Option (Int⊕ρ)} (l:List α) (P:Int→α→Prop) (a b:ρ) (hb:Few l)
  (h1:∀i:Int,0≤i→i<l.length→inL l i→f i=some (if P i (Z0 l i)then .inl (i+1)else .inr a)) (h2:f l.length=some (.inr b)):
  Z8 f 0=if Y9 l P then some b else some a:=by
 rw[Zgo l (fun i x=>P i x) (by unfold Few at hb;omega) (fun i x hx hi=>by rw[h1 i (by omega) (by omega) (Vr hx),Xn hx]) h2]
 simp only[Zbh]
 split <;> rfl
theorem Zbi {α ρ:Type} [Inhabited α] {f:Int→Option (Int⊕ρ)} (l:List α) (b:ρ) (hb:Few l)
  (h1:∀i:Int,0≤i→i<l.length→inL l i→f i=some (.inl (i+1))) (h2:f l.length=some (.inr b)):Z8 f 0=some b:=by
 rw[YD l (fun _ _=>True) b b hb (fun i a c d=>by rw[h1 i a c d];simp) h2];simp
theorem Z1F {α:Type} [Inhabited α] {l:List α} {P:α→Prop} :Y9 l (fun _ x=>P x)↔∀x∈l,P x:=by
 rw[Zbh]
 constructor
 ·intro h v hv
  obtain⟨i,hi⟩:=List.getElem?_of_mem hv
  exact h i v hi
 ·intro h i x hx
  exact h x (List.mem_of_getElem? hx)

/-! ### What is decided -/
section
variable {β γ:Type} {c p q:Prop}
theorem Zh [Decidable c] {x y:Option β} {k:β→Option γ} :(if c then x else y).bind k=if c then x.bind k else y.bind k:=by split <;> rfl
theorem Zi [Decidable c] [Decidable p]:(if c then some (decide p)else some false)=some (decide (c∧p)):=by by_cases c <;> simp[*]
theorem Zj [Decidable c] [Decidable p]:(if c then some true else some (decide p))=some (decide (c∨p)):=by by_cases c <;> simp[*]
theorem Zk [Decidable c] [Decidable p]:(if c then some false else some (decide p))=some (decide (¬c∧p)):=by by_cases c <;> simp[*]
theorem Zl [Decidable c] [Decidable p]:(if c then some (decide p)else some true)=some (decide (c→p)):=by by_cases c <;> simp[*]
theorem Zm [Decidable c] [Decidable p] [Decidable q]:(if c then some (decide p)else some (decide q))=some (decide ((c→p)∧(¬c→q))):=by by_cases c <;> simp[*]
theorem Zn [Decidable c]:(if c then some true else some false)=some (decide c):=by by_cases c <;> simp[*]
theorem Zo [Decidable c]:(if c then some false else some true)=some (decide ¬c):=by by_cases c <;> simp[*]
theorem Zp [Decidable p]:(!decide p)=decide (¬p):=by simp
theorem Ze {x y:Int} :(x==y)=decide (x=y):=by rw[Bool.eq_iff_iff];simp
theorem Zd {x y:Int} :(x !=y)=decide (x≠y):=by rw[Bool.eq_iff_iff];simp
theorem Yw {_:Decidable p} {_:Decidable q} (h:p↔q):some (decide p)=some (decide q):=by simp[h]
theorem Zq [Decidable p] [Decidable (¬p)] {x y:β} :(if ¬p then x else y)=if p then y else x:=by by_cases p <;> simp[*]
theorem XF [Decidable c] [Decidable p] {x y:β} :(if c then(if p then x else y)else y)=if c∧p then x else y:=by by_cases c <;> simp[*]
theorem XG [Decidable c] [Decidable p] {x y:β} :(if c then y else(if p then x else y))=if ¬c∧p then x else y:=by by_cases c <;> simp[*]
theorem XH [Decidable c] [Decidable p] {x y:β} :(if c then x else(if p then x else y))=if c∨p then x else y:=by by_cases c <;> simp[*]
theorem XI [Decidable c] [Decidable p] {x y:β} :(if c then(if p then x else y)else x)=if c→p then x else y:=by by_cases c <;> simp[*]
theorem XJ [Decidable c] {x:β} :(if c then x else x)=x:=by simp
theorem XK [Decidable c] [Decidable p] [Decidable q] {x y:β} :(if c then(if p then x else y)else(if q then x else y))=if(c→p)∧(¬c→q)then x else y:=by by_cases c <;> simp[*]
theorem XL [Decidable c] [Decidable p] [Decidable q] {x y:β} :(if c then(if p then x else y)else(if q then y else x))=if(c→p)∧(¬c→¬q)then x else y:=by by_cases c <;> by_cases q <;> simp[*]
theorem WO {_:Decidable p} {_:Decidable q} {x y:β} (h:q↔p):(if q then some x else some y)=some (if p then x else y):=by by_cases p <;> simp[*]
theorem V6 {_:Decidable p} {_:Decidable q} {x y:β} (h:q↔¬p):(if q then some y else some x)=some (if p then x else y):=by by_cases p <;> simp[*]
theorem Yl {α:Type} {l:List α} {i:Int} [Decidable (inL l i)] {x y u v:β} (h2:inL l i→x=u) (h3:¬inL l i→y=v):(if inL l i then x else y)=(if inL l i then u else v):=ite_congr rfl h2 h3
end
def ixI:Option Nat→Int|some i=>i|none=> -1
theorem Zgq {α:Type} [Inhabited α] {f:Int→Option (Int⊕(Int⊕Unit))} (l:List α) (p:α→Bool) (hb:Few l)
  (h1:∀i:Int,0≤i→i<l.length→inL l i→f i=some (if p (Z0 l i)=true then .inr (.inl i)else .inl (i+1))) (h2:f l.length=some (.inr (.inr ()))):
  Z8 f 0=match l.findIdx? p with|some i=>some (.inl (i:Int))|none=>some (.inr ()):=by
 have h:=Z7Z l (fun i x=>if p x=true then some (.inl (i:Int))else none) (.inr ()) (f:=f) (by unfold Few at hb;omega) (fun i x hx hi=>by rw[h1 i (by omega) (by omega) (Vr hx),Xn hx];split <;> rfl) h2
 rw[h]
 have key:∀(l:List α) (k:Nat),((l.zipIdx k).findSome? (fun q=>if p q.1=true then some (Sum.inl (q.2:Int))else none)).getD (Sum.inr ())=(match l.findIdx? p with|some i=>Sum.inl ((k+i:Nat):Int)|none=>Sum.inr ():Int⊕Unit):=by
  intro l
  induction l with
  |nil=>intro k;rfl
  |cons x l ih=>
   intro k
   rw[List.zipIdx_cons,List.findSome?_cons,List.findIdx?_cons]
   by_cases hp:p x=true
   ·simp[hp]
   ·simp only[hp]
    have:=ih (k+1)
    simp only[Bool.false_eq_true,if_false]at this⊢
    rw[this]
    cases List.findIdx? p l with
    |none=>rfl
    |some i=>simp;omega
 rw[key l 0]
 cases l.findIdx? p <;> simp
theorem Z00 {α σ τ ρ:Type} {f:τ→Option (τ⊕ρ)} (l:List α) (st:σ→Int→τ) (g:Nat→α→σ→σ) (s0:σ) {out:σ→ρ} (hb:l.length<9223372036854775807) (I:Nat→σ→Prop) (h0:I 0 s0)
  (h1:∀(i:Nat) x s,l[i]?=some x→i<l.length→I i s→f (st s i)=some (.inl (st (g i x s) ((i:Int)+1)))∧I (i+1) (g i x s)) (h2:∀s,I l.length s→f (st s l.length)=some (.inr (out s))):
  Z8 f (st s0 0)=some (out (l.zipIdx.foldl (fun s q=>g q.2 q.1 s) s0)):=by
 let S:Nat→σ:=fun i=>(l.zipIdx.take i).foldl (fun s q=>g q.2 q.1 s) s0
 have hS:∀i x,l[i]?=some x→S (i+1)=g i x (S i):=by
  intro i x hx
  have hz:l.zipIdx[i]?=some (x,i):=by simp[hx]
  simp only[S]
  rw[List.take_add_one,hz]
  simp
 have hI:∀i,i≤l.length→I i (S i):=by
  intro i
  induction i with
  |zero=>intro _;exact h0
  |succ i ih=>
   intro hi
   have hx:l[i]?=some l[i]:=List.getElem?_eq_getElem (by omega)
   rw[hS i _ hx]
   exact(h1 i _ _ hx (by omega) (ih (by omega))).2
 have hend:S l.length=l.zipIdx.foldl (fun s q=>g q.2 q.1 s) s0:=by
  simp only[S]
  rw[List.take_of_length_le (by simp)]
 have:=Xu (f:=f) (fun i=>st (S i) i) l.length (r:=out (S l.length)) (by omega) (fun i hi=>by
  have hx:l[i]?=some l[i]:=List.getElem?_eq_getElem hi
  have:=(h1 i _ (S i) hx hi (hI i (by omega))).1
  rw[←hS i _ hx]at this
  rw[this];simp) (h2 _ (hI _ (Nat.le_refl _)))
 rw[hend]at this
 exact this

noncomputable def Y4 {α:Type} (l:List α) (P:α→Prop):Int:=ixI (l.findIdx? fun x=>decide (P x))
section
variable {α:Type} [Inhabited α] {l:List α} {P:α→Prop}
theorem Tp:(Y4 l P= -1∧∀i,inL l i→¬P (Z0 l i))∨(inL l (Y4 l P)∧P (Z0 l (Y4 l P))∧∀j,inL l j→j<Y4 l P→¬P (Z0 l j)):=by
 unfold Y4
 cases h:l.findIdx? fun x=>decide (P x)with
 |none=>
  rw[List.findIdx?_eq_none_iff]at h
  refine .inl ⟨rfl,fun i hi=> ?_⟩
  have:=h _ (ZR hi)
  simpa using this
 |some n=>
  rw[List.findIdx?_eq_some_iff_getElem]at h
  obtain⟨hn,h1,h2⟩:=h
  refine .inr ⟨⟨by simp[ixI],by simpa[ixI]using hn⟩, ?_,fun j hj hlt=> ?_⟩
  ·simp only[ixI];rw[Xn (List.getElem?_eq_getElem hn)];simpa using h1
  ·simp only[ixI]at hlt
   have hj0:=hj.1
   have:=h2 j.toNat (by omega)
   rw[show Z0 l j=l[j.toNat]'(by omega)from by
    have:=Y8 hj
    exact((List.getElem?_eq_some_iff.1 this).2).symm]
   simpa using this
theorem Z80: -1≤Y4 l P:=by unfold Y4 ixI;split <;> omega
theorem Z81:0≤Y4 l P↔inL l (Y4 l P):=by
 rcases Tp (l:=l) (P:=P)with h|h
 ·rw[h.1];simp[inL]
 ·exact⟨fun _=>h.1,fun h=>h.1⟩
theorem Z5N (h:0≤Y4 l P):P (Z0 l (Y4 l P)):=by
 rcases Tp (l:=l) (P:=P)with h1|h1
 ·omega
 ·exact h1.2.1
theorem Z82 {j:Int} (hj:inL l j) (hp:P (Z0 l j)):0≤Y4 l P∧Y4 l P≤j:=by
 rcases Tp (l:=l) (P:=P)with h1|h1
 ·exact absurd hp (h1.2 j hj)
 ·refine⟨h1.1.1, ?_⟩
  apply Classical.byContradiction
  intro hn
  exact h1.2.2 j hj (by omega) hp
theorem Zbj:Y4 l P<0↔∀i,inL l i→¬P (Z0 l i):=by
 constructor
 ·intro h i hi hp
  have:=Z82 hi hp;omega
 ·intro h
  rcases Tp (l:=l) (P:=P)with h1|h1
  ·omega
  ·exact absurd h1.2.1 (h _ h1.1)
theorem Tq:Y4 l P<0↔∀x∈l,¬P x:=by
 rw[Zbj]
 constructor
 ·intro h x hx
  obtain⟨i,hi,rfl⟩:=W0 hx
  exact h i hi
 ·exact fun h i hi=>h _ (ZR hi)
theorem Zgr {i:Int} (hi:inL l i):Y4 l P=i↔P (Z0 l i)∧∀j,inL l j→j<i→¬P (Z0 l j):=by
 constructor
 ·intro h
  subst h
  exact⟨Z5N hi.1,fun j hj hlt hp=>by have:=Z82 hj hp;omega⟩
 ·rintro ⟨h1,h2⟩
  have h3:=Z82 hi h1
  have h4:=Z81.1 h3.1
  have h5:=Z5N h3.1
  by_cases h:Y4 l P<i
  ·exact absurd h5 (h2 _ h4 h)
  ·omega
theorem Uo {f:Int→Option (Int⊕(Int⊕Unit))} (l:List α) (P:α→Prop) (hb:Few l)
  (h1:∀i:Int,0≤i→i<l.length→inL l i→f i=some (if P (Z0 l i)then .inr (.inl i)else .inl (i+1))) (h2:f l.length=some (.inr (.inr ()))):
  Z8 f 0=if 0≤Y4 l P then some (.inl (Y4 l P))else some (.inr ()):=by
 rw[Zgq l (fun x=>decide (P x)) hb (fun i a b c=>by rw[h1 i a b c];by_cases h:P (Z0 l i) <;> simp[h]) h2]
 unfold Y4
 cases l.findIdx? fun x=>decide (P x) <;> simp[ixI]
theorem Zbk {ρ:Type} {f:Int→Option (Int⊕(ρ⊕Unit))} (l:List α) (P:α→Prop) (g:Int→α→ρ) (hb:Few l)
  (h1:∀i:Int,0≤i→i<l.length→inL l i→f i=some (if P (Z0 l i)then .inr (.inl (g i (Z0 l i)))else .inl (i+1))) (h2:f l.length=some (.inr (.inr ()))):
  Z8 f 0=if 0≤Y4 l P then some (.inl (g (Y4 l P) (Z0 l (Y4 l P))))else some (.inr ()):=by
 have h:=Z7Z l (fun i x=>if P x then some (.inl (g i x))else none) (.inr ()) (f:=f) (by unfold Few at hb;omega) (fun i x hx hi=>by rw[h1 i (by omega) (by omega) (Vr hx),Xn hx];split <;> rfl) h2
 rw[h]
 have key:∀(r:List α) (k:Nat),((r.zipIdx k).findSome? (fun q=>if P q.1 then some (Sum.inl (g (q.2:Int) q.1))else none)).getD (Sum.inr ())=(match r.findIdx? fun x=>decide (P x)with|some i=>Sum.inl (g ((k+i:Nat):Int) ((r[i]?).getD default))|none=>Sum.inr ():ρ⊕Unit):=by
  intro r
  induction r with
  |nil=>intro k;rfl
  |cons x r ih=>
   intro k
   rw[List.zipIdx_cons,List.findSome?_cons,List.findIdx?_cons]
   by_cases hp:P x
   ·simp[hp]
   ·have:=ih (k+1)
    simp only[hp,if_false,decide_false,Bool.false_eq_true]at this⊢
    rw[this]
    cases hq:List.findIdx? (fun x=>decide (P x)) r with
    |none=>rfl
    |some i=>simp;congr 1;omega
 have h3:=key l 0
 unfold Y4
 cases hq:l.findIdx? fun x=>decide (P x)with
 |none=>rw[hq]at h3;simp[ixI];exact h3
 |some i=>
  rw[hq]at h3
  simp[ixI]
  simpa[Z0]using h3
theorem Zr:(if 0≤Y4 l P then some (Y4 l P)else some (-1))=some (Y4 l P):=by
 split
 ·rfl
 ·have:=Z80 (l:=l) (P:=P)
  congr 1;omega
end

theorem X5 {α:Type} {l:List α} {b:Nat} (h:l.length≤1000100) (hb:b≤100000000:=by decide):ZZ b l=true:=by
 unfold ZZ
 have:=Nat.mul_le_mul h hb
 exact decide_eq_true ⟨by omega,by omega⟩

noncomputable def XT {α β:Type} (l:List α) (P:Int→α→Prop) (e:Int→α→β):List β:=l.zipIdx.filterMap fun q=>if P q.2 q.1 then some (e q.2 q.1)else none
section
variable {α β:Type} [Inhabited α] {l:List α} {P:Int→α→Prop} {e:Int→α→β}
theorem Z1G:(XT l P e).length≤l.length:=by
 unfold XT
 refine Nat.le_trans (List.length_filterMap_le _ _) (by simp)
theorem Z3V {y:β} :y∈XT l P e↔∃i,inL l i∧P i (Z0 l i)∧y=e i (Z0 l i):=by
 unfold XT
 rw[List.mem_filterMap]
 constructor
 ·rintro ⟨⟨x,i⟩,hq,hy⟩
  rw[List.mem_zipIdx_iff_getElem?]at hq
  simp only at hq hy
  split at hy
  ·rename_i hp
   refine⟨i,Vr hq, ?_, ?_⟩
   ·rw[Xn hq];exact hp
   ·rw[Xn hq];simpa using hy.symm
  ·cases hy
 ·rintro ⟨i,hi,hp,rfl⟩
  have hi0:=hi.1
  refine⟨(Z0 l i,i.toNat), ?_, ?_⟩
  ·rw[List.mem_zipIdx_iff_getElem?];exact Y8 hi
  ·simp only
   rw[show((i.toNat:Nat):Int)=i from by omega,if_pos hp]
end
theorem Tr {α β ρ:Type} [Inhabited α] {f:List β×Int→Option ((List β×Int)⊕ρ)} (l:List α) (P:Int→α→Prop) (e:Int→α→β) {out:List β→ρ} (hb:Few l)
  (h1:∀(i:Int) (s:List β),0≤i→i<l.length→inL l i→s.length≤i→f (s,i)=some (.inl (if P i (Z0 l i)then s++ [e i (Z0 l i)]else s,i+1))) (h2:∀s,f (s,l.length)=some (.inr (out s))):
  Z8 f ([],0)=some (out (XT l P e)):=by
 have:=Z00 (f:=f) l (fun s i=>(s,i)) (fun i x s=>if P i x then s++ [e i x]else s) [] (out:=out) (by unfold Few at hb;omega) (fun i s=>s.length≤i) (by simp) (fun i x s hx hi hs=>by
  have h:=h1 i s (by omega) (by omega) (Vr hx) (by omega)
  rw[Xn hx]at h
  refine⟨h, ?_⟩
  split
  ·simp;omega
  ·omega) (fun s _=>h2 s)
 have key:∀(q:List (α×Nat)) (s:List β),q.foldl (fun s q=>if P q.2 q.1 then s++ [e q.2 q.1]else s) s=s++q.filterMap fun q=>if P q.2 q.1 then some (e q.2 q.1)else none:=by
  intro q
  induction q with
  |nil=>intro s;simp
  |cons a q ih=>
   intro s
   rw[List.foldl_cons,ih,List.filterMap_cons]
   by_cases h:P a.2 a.1 <;> simp[h]
 rw[this,key l.zipIdx []]
 rfl

theorem Zgs {α ρ:Type} [Inhabited α] {f:Bool×Int→Option ((Bool×Int)⊕ρ)} (l:List α) (P:Int→α→Prop) {out:Bool→ρ} (hb:Few l)
  (h1:∀(i:Int) (b:Bool),0≤i→i<l.length→inL l i→f (b,i)=some (.inl (b||decide (P i (Z0 l i)),i+1))) (h2:∀b,f (b,l.length)=some (.inr (out b))):
  Z8 f (false,0)=some (out (decide (∃i,inL l i∧P i (Z0 l i)))):=by
 have:=Z00 (f:=f) l (fun s i=>(s,i)) (fun i x s=>s||decide (P i x)) false (out:=out) (by unfold Few at hb;omega) (fun i s=>s=decide (∃j:Int,j<i∧inL l j∧P j (Z0 l j))) (by
   symm;rw[decide_eq_false_iff_not];rintro ⟨j,h1,h2,_⟩;have:=h2.1;omega) (fun i x s hx hi hs=>by
  have h:=h1 i s (by omega) (by omega) (Vr hx)
  rw[Xn hx]at h
  refine⟨h, ?_⟩
  rw[hs,Bool.eq_iff_iff]
  simp only[Bool.or_eq_true,decide_eq_true_eq]
  constructor
  ·rintro (⟨j,a,b,c⟩|h)
   ·exact⟨j,by omega,b,c⟩
   ·exact⟨i,by omega,Vr hx,by rw[Xn hx];exact h⟩
  ·rintro ⟨j,a,b,c⟩
   by_cases hj:j=i
   ·subst hj;rw[Xn hx]at c;exact .inr c
   ·exact .inl ⟨j,by omega,b,c⟩) (fun s _=>h2 s)
 rw[this]
 congr 2
 have hk:∀(k:Nat),k≤l.length→((l.zipIdx.take k).foldl (fun s q=>s||decide (P q.2 q.1)) false)=decide (∃j:Int,j<k∧inL l j∧P j (Z0 l j)):=by
  intro k
  induction k with
  |zero=>intro _;symm;simp only[List.take_zero,List.foldl_nil];rw[decide_eq_false_iff_not];rintro ⟨j,h1,h2,_⟩;have:=h2.1;omega
  |succ k ih=>
   intro hk
   have hx:l[k]?=some l[k]:=List.getElem?_eq_getElem (by omega)
   have hz:l.zipIdx[k]?=some (l[k],k):=by simp[hx]
   rw[List.take_add_one,hz,Option.toList_some,List.foldl_append,ih (by omega)]
   rw[Bool.eq_iff_iff]
   simp only[List.foldl_cons,List.foldl_nil,Bool.or_eq_true,decide_eq_true_eq]
   constructor
   ·rintro (⟨j,a,b,c⟩|h)
    ·exact⟨j,by omega,b,c⟩
    ·exact⟨k,by omega,Vr hx,by rw[Xn hx];exact h⟩
   ·rintro ⟨j,a,b,c⟩
    by_cases hj:j=k
    ·subst hj;rw[Xn hx]at c;exact .inr c
    ·exact .inl ⟨j,by omega,b,c⟩
 have h3:=hk l.length (Nat.le_refl _)
 rw[List.take_of_length_le (by simp)]at h3
 rw[h3]
 exact decide_eq_decide.2 ⟨fun⟨j,_,b,c⟩=>⟨j,b,c⟩,fun⟨j,b,c⟩=>⟨j,b.2,b,c⟩⟩
theorem Ts {α:Type} {l:List α} {i:Int} :lin l i=decide (inL l i):=by unfold lin inL;exact decide_eq_decide.2 Iff.rfl
section
variable {α:Type} [Inhabited α] {l:List α}
theorem Zgt {j:Int} {x:α} :x∈l.take j.toNat↔∃k,inL l k∧k<j∧Z0 l k=x:=by
 rw[List.mem_take_iff_getElem]
 constructor
 ·rintro ⟨i,hi,rfl⟩
  have h1:i<l.length:=by omega
  exact⟨i,⟨by omega,by omega⟩,by omega,Xn (List.getElem?_eq_getElem h1)⟩
 ·rintro ⟨k,hk,hlt,rfl⟩
  have h0:=hk.1;have h1:=hk.2
  refine⟨k.toNat,by omega, ?_⟩
  have:=Y8 hk
  exact(List.getElem?_eq_some_iff.1 this).2
theorem Zgu [DecidableEq α] {j:Int} (hj:inL l j):Y4 l (fun y=>Z0 l j=y)=j↔Z0 l j ∉ l.take j.toNat:=by
 rw[Zgr hj,Zgt]
 constructor
 ·rintro ⟨_,h⟩ ⟨k,hk,hlt,e⟩
  exact h k hk hlt e.symm
 ·intro h
  exact⟨rfl,fun k hk hlt e=>h ⟨k,hk,hlt,e.symm⟩⟩
end
theorem Zgv {n:Nat} {a b:Int} :Z0y n a b=decide (0≤a∧a≤b∧b≤n):=rfl
end Go.Eng

set_option linter.unusedVariables false
set_option linter.unusedSectionVars false
set_option linter.unusedSimpArgs false
namespace Go.Eng
open Go Classical
attribute [local congr] Yl

theorem Z3W {l i} :U6 l i=some (decide (inL l i)):=by simp only[U6,Zh,Option.bind_some,Zi,Zj,Zk,Zl,Zm,Zn,Zo,Zp,Ze,Zd,decide_eq_true_eq,Zq,ge_iff_le,gt_iff_lt,Zr,Bool.false_eq_true,decide_false];exact Yw Iff.rfl
theorem Zbl {l i} :Q1 l i=some (decide (inL l i)):=by simp only[Q1,Zh,Option.bind_some,Zi,Zj,Zk,Zl,Zm,Zn,Zo,Zp,Ze,Zd,decide_eq_true_eq,Zq,ge_iff_le,gt_iff_lt,Zr,Bool.false_eq_true,decide_false];exact Yw Iff.rfl
theorem Zgw {l i} :Z2s l i=some (decide (inL l i)):=by simp only[Z2s,Zh,Option.bind_some,Zi,Zj,Zk,Zl,Zm,Zn,Zo,Zp,Ze,Zd,decide_eq_true_eq,Zq,ge_iff_le,gt_iff_lt,Zr,Bool.false_eq_true,decide_false];exact Yw Iff.rfl
theorem Z3X {l i} :UK l i=some (decide (inL l i)):=by simp only[UK,Zh,Option.bind_some,Zi,Zj,Zk,Zl,Zm,Zn,Zo,Zp,Ze,Zd,decide_eq_true_eq,Zq,ge_iff_le,gt_iff_lt,Zr,Bool.false_eq_true,decide_false];exact Yw Iff.rfl
theorem Zgx {l i} :Z2l l i=some (decide (inL l i)):=by simp only[Z2l,Zh,Option.bind_some,Zi,Zj,Zk,Zl,Zm,Zn,Zo,Zp,Ze,Zd,decide_eq_true_eq,Zq,ge_iff_le,gt_iff_lt,Zr,Bool.false_eq_true,decide_false];exact Yw Iff.rfl
theorem Zgy {l i} :Z2D l i=some (decide (inL l i)):=by simp only[Z2D,Zh,Option.bind_some,Zi,Zj,Zk,Zl,Zm,Zn,Zo,Zp,Ze,Zd,decide_eq_true_eq,Zq,ge_iff_le,gt_iff_lt,Zr,Bool.false_eq_true,decide_false];exact Yw Iff.rfl

theorem Z83 {l:List Int} {x:Int} (hl:Few l):TX l x=some (Y4 l (fun y=>x=y)):=by
 unfold TX
 rw[Uo l (fun y=>x=y) hl (fun i h0 h1 h2=>by simp (disch:=omega) only[Z0G,h1,Zb h2,Zc,Zh,Option.bind_some,Zi,Zj,Zk,Zl,Zm,Zn,Zo,Zp,Ze,Zd,decide_eq_true_eq,Zq,ge_iff_le,gt_iff_lt,Zr,Bool.false_eq_true,decide_false,decide_true,if_true];split <;> rfl) (by simp[Z0G])]
 simp only[Zh,Option.bind_some,Zi,Zj,Zk,Zl,Zm,Zn,Zo,Zp,Ze,Zd,decide_eq_true_eq,Zq,ge_iff_le,gt_iff_lt,Zr,Bool.false_eq_true,decide_false]

theorem Z3Y {l:List Int} {x:Int} (hl:Few l):U7 l x=some (decide (x∈l)):=by
 unfold U7
 rw[Z83 hl]
 simp only[Zh,Option.bind_some,Zi,Zj,Zk,Zl,Zm,Zn,Zo,Zp,Ze,Zd,decide_eq_true_eq,Zq,ge_iff_le,gt_iff_lt,Zr,Bool.false_eq_true,decide_false]
 refine Yw ?_
 have:=Tq (l:=l) (P:=fun y=>x=y)
 constructor
 ·intro h
  apply Classical.byContradiction
  intro hn
  have:=this.2 (fun y hy e=>hn (e ▸hy));omega
 ·intro h
  apply Classical.byContradiction
  intro hn
  exact this.1 (by omega) x h rfl

/-! ### The net -/
structure SmN (n:Z2):Prop where
 devices:Few n.devices
 ports:Few n.ports
 links:Few n.links
 domains:Few n.domains
 statics:Few n.statics
 floods:Few n.floods
 vrfs:Few n.vrfs
 irbs:Few n.irbs
 tagged:∀p∈n.ports,Few p.tagged
 peers:∀d∈n.domains,Few d.peers
 addrs:∀f∈n.floods,Few f.addrs
 imports:∀v∈n.vrfs,Few v.imports
 exports:∀v∈n.vrfs,Few v.exports

noncomputable def XM (l:List ZF) (dev vlan:Int):Int:=Y4 l fun d=>d.dev=dev∧d.vlan=vlan

theorem Zgz {l a b} (hl:Few l):Z2k l a b=some (XM l a b):=by
 unfold Z2k
 rw[Uo l (fun d=>d.dev=a∧d.vlan=b) hl (fun i h0 h1 h2=>by simp (disch:=omega) only[Z0D,Z4Y,h1,Zb h2,Zc,Zh,Option.bind_some,Zi,Zj,Zk,Zl,Zm,Zn,Zo,Zp,Ze,Zd,decide_eq_true_eq,Zq,ge_iff_le,gt_iff_lt,Zr,Bool.false_eq_true,decide_false,decide_true,if_true];split <;> rfl) (by simp[Z0D])]
 simp only[Zh,Option.bind_some,Zi,Zj,Zk,Zl,Zm,Zn,Zo,Zp,Ze,Zd,decide_eq_true_eq,Zq,ge_iff_le,gt_iff_lt,Zr,Bool.false_eq_true,decide_false]
 rfl

theorem Z84 {j a b} (hl:Few j.n.domains):UJ j a b=some (XM j.n.domains a b):=by
 simp only[UJ,Zgz hl,Zh,Option.bind_some,Zi,Zj,Zk,Zl,Zm,Zn,Zo,Zp,Ze,Zd,decide_eq_true_eq,Zq,ge_iff_le,gt_iff_lt,Zr,Bool.false_eq_true,decide_false]

def Wr (n:Z2) (i:Int) (d:ZF):Prop:=
 inL n.devices d.dev∧1≤d.vlan∧d.vlan≤4094∧0≤d.vni∧d.vni≤16777215∧(d.irb= -1∨inL n.irbs d.irb∧(Z0 n.irbs d.irb).domain=i)∧XM n.domains d.dev d.vlan=i

theorem ZgA {n:Z2} {i:Int} {d} (hl:Few n.domains):Z2m ⟨n⟩ i d=some (decide (Wr n i d)):=by
 simp+contextual only[Z2m,Z3W,Zgx,Z84 (j:=⟨n⟩) hl,Zb,Zh,Option.bind_some,Zi,Zj,Zk,Zl,Zm,Zn,Zo,Zp,Ze,Zd,decide_eq_true_eq,Zq,ge_iff_le,gt_iff_lt,Zr,Bool.false_eq_true,decide_false]
 refine Yw ?_
 unfold Wr
 grind

def Z5O (n:Z2) (dev:Int):Prop:=(Z0 n.devices dev).vtep≠0
theorem ZgB {n:Z2} {d:ZF} (h:inL n.devices d.dev):Z0F ⟨n⟩ d=some (decide (Z5O n d.dev)):=by
 simp only[Z0F,Zb h,Zh,Option.bind_some,Zi,Zj,Zk,Zl,Zm,Zn,Zo,Zp,Ze,Zd,decide_eq_true_eq,Zq,ge_iff_le,gt_iff_lt,Zr,Bool.false_eq_true,decide_false];exact Yw Iff.rfl

def Z01 (n:Z2) (i:Int) (d:ZF) (k:Int):Prop:=
 inL n.domains k∧k≠i∧inL n.devices (Z0 n.domains k).dev∧(Z0 n.domains k).dev≠d.dev∧(Z0 n.domains k).vni=d.vni∧d.vni≠0∧Z5O n (Z0 n.domains k).dev∧Z5O n d.dev∧i∈(Z0 n.domains k).peers

theorem ZgC {n:Z2} (hs:SmN n) {i:Int} {d:ZF} (hd:inL n.devices d.dev) {k:Int} :Z2o ⟨n⟩ i d k=some (decide (Z01 n i d k)):=by
 have hp:inL n.domains k→Few (Z0 n.domains k).peers:=fun h=>hs.peers _ (ZR h)
 simp+contextual only[Z2o,Z3X,Z3W,ZgB,hd,Z3Y,hp,Zb,Zh,Option.bind_some,Zi,Zj,Zk,Zl,Zm,Zn,Zo,Zp,Ze,Zd,decide_eq_true_eq,Zq,ge_iff_le,gt_iff_lt,Zr,Bool.false_eq_true,decide_false]
 refine Yw ?_
 unfold Z01
 grind

def Tt (n:Z2) (i:Int) (d:ZF):Prop:=Y9 d.peers fun j k=>Z01 n i d k∧Y4 d.peers (fun y=>k=y)=j

theorem ZgD {n:Z2} (hs:SmN n) {i:Int} {d:ZF} (hd:inL n.devices d.dev) (hp:Few d.peers):Z2p ⟨n⟩ i d=some (decide (Tt n i d)):=by
 unfold Z2p Z50
 rw[YD d.peers (fun j k=>Z01 n i d k∧Y4 d.peers (fun y=>k=y)=j) (.inl ()) (.inr ()) hp (fun j h0 h1 h2=>by
  simp (disch:=omega) only[Z0H,Z4Z,h1,Zb h2,Zc,ZgC hs hd,Z83 hp,Zh,Option.bind_some,Zi,Zj,Zk,Zl,Zm,Zn,Zo,Zp,Ze,Zd,decide_eq_true_eq,Zq,ge_iff_le,gt_iff_lt,Zr,Bool.false_eq_true,decide_false,decide_true,if_true];split <;> rfl) (by simp[Z0H])]
 simp only[Zh,Option.bind_some,Zi,Zj,Zk,Zl,Zm,Zn,Zo,Zp,Ze,Zd,decide_eq_true_eq,Zq,ge_iff_le,gt_iff_lt,Zr,Bool.false_eq_true,decide_false]
 rfl

def Z5P (l:List Int) (a b:Int):Prop:=(Y9 l fun i x=>a≤x∧x≤b∧(0<i→Z0 l (i-1) <x))∧0<l.length∧l.length≤16

theorem ZgE {l:List Int} {a b:Int} (hl:Few l):Z2r l a b=some (decide (Z5P l a b)):=by
 unfold Z2r
 rw[YD l (fun i x=>a≤x∧x≤b∧(0<i→Z0 l (i-1) <x)) (.inl ()) (.inr ()) hl (fun i h0 h1 h2=>by
  by_cases hi:0<i
  ·have h3:inL l (i-1):=⟨by omega,by omega⟩
   simp (disch:=omega) only[TY,h1,hi,Zb h2,Zc,Zb h3,Zh,Option.bind_some,Zi,Zj,Zk,Zl,Zm,Zn,Zo,Zp,Ze,Zd,decide_eq_true_eq,Zq,ge_iff_le,gt_iff_lt,Zr,Bool.false_eq_true,decide_false,decide_true,if_true]
   grind
  ·simp (disch:=omega) only[TY,h1,hi,Zb h2,Zc,Zh,Option.bind_some,Zi,Zj,Zk,Zl,Zm,Zn,Zo,Zp,Ze,Zd,decide_eq_true_eq,Zq,ge_iff_le,gt_iff_lt,Zr,Bool.false_eq_true,decide_false,decide_true,if_true]
   grind) (by simp[TY])]
 simp only[Zh,Option.bind_some,Zi,Zj,Zk,Zl,Zm,Zn,Zo,Zp,Ze,Zd,decide_eq_true_eq,Zq,ge_iff_le,gt_iff_lt,Zr,Bool.false_eq_true,decide_false]
 refine Yw (and_congr Iff.rfl ?_)
 omega

def Up (l:List Int) (b:Int):Prop:=l= []∨Z5P l 1 b
theorem Z85 {l:List Int} {b:Int} (hl:Few l):TZ l b=some (decide (Up l b)):=by
 simp only[TZ,ZgE hl,Zh,Option.bind_some,Zi,Zj,Zk,Zl,Zm,Zn,Zo,Zp,Ze,Zd,decide_eq_true_eq,Zq,ge_iff_le,gt_iff_lt,Zr,Bool.false_eq_true,decide_false]
 refine Yw ?_
 unfold Up
 cases l <;> simp;omega

def Uq (n:Z2) (i:Int) (p:ZO):Prop:=
 inL n.devices p.dev∧0≤p.native∧p.native≤4094∧Up p.tagged 4094∧p.native ∉ p.tagged∧¬(p.native=0∧p.tagged= [])∧(∀v∈p.tagged,0≤XM n.domains p.dev v)∧
 (0<p.native→0≤XM n.domains p.dev p.native)∧(p.link= -1∨inL n.links p.link∧((Z0 n.links p.link).a=i∨(Z0 n.links p.link).b=i))

theorem ZgF {n:Z2} (hs:SmN n) {i:Int} {p:ZO} (hp:Few p.tagged):Z2t ⟨n⟩ i p=some (decide (Uq n i p)):=by
 have hl:Z8 (Q0 ⟨n⟩ i p) 0=if ∀v∈p.tagged,0≤XM n.domains p.dev v then some (.inr ())else some (.inl ()):=by
  rw[YD p.tagged (fun _ v=>0≤XM n.domains p.dev v) (.inl ()) (.inr ()) hp (fun j h0 h1 h2=>by
   simp (disch:=omega) only[Q0,Z84 (j:=⟨n⟩) hs.domains,Zb h2,Zc,h1,Zh,Option.bind_some,Zi,Zj,Zk,Zl,Zm,Zn,Zo,Zp,Ze,Zd,decide_eq_true_eq,Zq,ge_iff_le,gt_iff_lt,Zr,Bool.false_eq_true,decide_false,XF,XG,XH,XI,XJ,XK,XL,decide_true,if_true]
   exact V6 (by omega)) (by simp[Q0])]
  simp only[Z1F]
 have h3:((p.tagged.length:Int)=0)↔p.tagged= []:=by simp
 by_cases c:inL n.links p.link <;>
  simp only[Z2t,Z51,Z52,Z3W,Zgw,Z85 hp,Z3Y hp,hl,Z84 (j:=⟨n⟩) hs.domains,Zb,c,h3,Zh,Option.bind_some,Zi,Zj,Zk,Zl,Zm,Zn,Zo,Zp,Ze,Zd,decide_eq_true_eq,Zq,ge_iff_le,gt_iff_lt,Zr,Bool.false_eq_true,decide_false,XF,XG,XH,XI,XJ,XK,XL,decide_true,if_true,if_false,decide_false] <;>
  refine Yw ?_ <;> unfold Uq <;> simp only[c] <;> clear hl <;>
  generalize (∀v∈p.tagged,0≤XM n.domains p.dev v)=A <;>
  generalize XM n.domains p.dev p.native=B <;>
  generalize Up p.tagged 4094=C <;>
  generalize inL n.devices p.dev=E <;>
  generalize (p.native∈p.tagged)=G <;>
  generalize (p.tagged= [])=F <;> grind

def Ur (n:Z2) (i:Int) (l:Yt):Prop:=
 inL n.ports l.a∧inL n.ports l.b∧(Z0 n.ports l.a).dev≠(Z0 n.ports l.b).dev∧(Z0 n.ports l.a).link=i∧(Z0 n.ports l.b).link=i
theorem ZgG {n:Z2} {i:Int} {l:Yt} :Z2v ⟨n⟩ i l=some (decide (Ur n i l)):=by
 simp+contextual only[Z2v,Zbl,Zb,Zh,Option.bind_some,Zi,Zj,Zk,Zl,Zm,Zn,Zo,Zp,Ze,Zd,decide_eq_true_eq,Zq,ge_iff_le,gt_iff_lt,Zr,Bool.false_eq_true,decide_false]
 exact Yw (by unfold Ur;grind)

def Ws (p:ZO) (v:Int):Prop:=v≠0∧(v=p.native∨v∈p.tagged)
theorem Z86 {p:ZO} {v:Int} (hp:Few p.tagged):Q2 p v=some (decide (Ws p v)):=by
 simp+contextual only[Q2,Z3Y hp,Zh,Option.bind_some,Zi,Zj,Zk,Zl,Zm,Zn,Zo,Zp,Ze,Zd,decide_eq_true_eq,Zq,ge_iff_le,gt_iff_lt,Zr,Bool.false_eq_true,decide_false]
 exact Yw Iff.rfl

def Tu (n:Z2) (s:Yz):Prop:=
 inL n.domains s.domain∧inL n.ports s.port∧(Z0 n.ports s.port).dev=(Z0 n.domains s.domain).dev∧Ws (Z0 n.ports s.port) (Z0 n.domains s.domain).vlan
theorem ZgH {n:Z2} (hs:SmN n) {i:Int} {s:Yz} :Z2x ⟨n⟩ i s=some (decide (Tu n s)):=by
 have hp:inL n.ports s.port→Few (Z0 n.ports s.port).tagged:=fun h=>hs.tagged _ (ZR h)
 simp+contextual only[Z2x,Zbl,Z3X,Z86,hp,Zb,Zh,Option.bind_some,Zi,Zj,Zk,Zl,Zm,Zn,Zo,Zp,Ze,Zd,decide_eq_true_eq,Zq,ge_iff_le,gt_iff_lt,Zr,Bool.false_eq_true,decide_false]
 exact Yw Iff.rfl

def Tv (n:Z2) (f:YA):Prop:=inL n.devices f.dev∧f.addrs.length≤16
theorem ZgI {n:Z2} {i:Int} {f:YA} :Z2z i f n=some (decide (Tv n f)):=by
 simp+contextual only[Z2z,Z3W,Zh,Option.bind_some,Zi,Zj,Zk,Zl,Zm,Zn,Zo,Zp,Ze,Zd,decide_eq_true_eq,Zq,ge_iff_le,gt_iff_lt,Zr,Bool.false_eq_true,decide_false]
 exact Yw (and_congr Iff.rfl (by omega))

def Tw (n:Z2) (f:Yh):Prop:=inL n.devices f.dev∧Up f.imports 65535∧Up f.exports 65535
theorem ZgJ {n:Z2} {i:Int} {f:Yh} (h1:Few f.imports) (h2:Few f.exports):Z2B i f n=some (decide (Tw n f)):=by
 simp+contextual only[Z2B,Z3W,Z85 h1,Z85 h2,Zh,Option.bind_some,Zi,Zj,Zk,Zl,Zm,Zn,Zo,Zp,Ze,Zd,decide_eq_true_eq,Zq,ge_iff_le,gt_iff_lt,Zr,Bool.false_eq_true,decide_false]
 exact Yw Iff.rfl

def Us (n:Z2) (i:Int) (x:Y3):Prop:=
 inL n.domains x.domain∧inL n.vrfs x.vrf∧(Z0 n.domains x.domain).dev=(Z0 n.vrfs x.vrf).dev∧(Z0 n.domains x.domain).irb=i∧1≤x.net.bits∧x.net.bits≤30
theorem ZgK {n:Z2} {i:Int} {x:Y3} :Z2E ⟨n⟩ i x=some (decide (Us n i x)):=by
 simp+contextual only[Z2E,Zgy,Z3X,Zb,Zh,Option.bind_some,Zi,Zj,Zk,Zl,Zm,Zn,Zo,Zp,Ze,Zd,decide_eq_true_eq,Zq,ge_iff_le,gt_iff_lt,Zr,Bool.false_eq_true,decide_false]
 exact Yw Iff.rfl

def Z3Z (n:Z2):Prop:=n.devices.length≤8∧n.ports.length≤40∧n.links.length≤20∧n.domains.length≤48∧n.statics.length≤64∧n.floods.length≤48∧n.vrfs.length≤16∧n.irbs.length≤48
theorem Zbm {n:Z2} :Z2j ⟨n⟩=some (decide (Z3Z n)):=by
 simp+contextual only[Z2j,Zh,Option.bind_some,Zi,Zj,Zk,Zl,Zm,Zn,Zo,Zp,Ze,Zd,decide_eq_true_eq,Zq,ge_iff_le,gt_iff_lt,Zr,Bool.false_eq_true,decide_false]
 exact Yw (by unfold Z3Z;omega)

structure ZM (n:Z2):Prop where
 few:Z3Z n
 bare:Y9 n.domains (Wr n)
 peers:Y9 n.domains (Tt n)
 ports:Y9 n.ports (Uq n)
 links:Y9 n.links (Ur n)
 statics:Y9 n.statics fun _ x=>Tu n x
 floods:Y9 n.floods fun _ x=>Tv n x
 vrfs:Y9 n.vrfs fun _ x=>Tw n x
 irbs:Y9 n.irbs (Us n)
theorem Zbn {n:Z2} :ZM n↔Z3Z n∧Y9 n.domains (Wr n)∧Y9 n.domains (Tt n)∧Y9 n.ports (Uq n)∧Y9 n.links (Ur n)∧Y9 n.statics (fun _ x=>Tu n x)∧
  Y9 n.floods (fun _ x=>Tv n x)∧Y9 n.vrfs (fun _ x=>Tw n x)∧Y9 n.irbs (Us n):=
 ⟨fun⟨a,b,c,d,e,f,g,h,i⟩=>⟨a,b,c,d,e,f,g,h,i⟩,fun⟨a,b,c,d,e,f,g,h,i⟩=>⟨a,b,c,d,e,f,g,h,i⟩⟩

section
variable {n:Z2}
theorem Zbo (hs:SmN n):Z2n n.domains ⟨n⟩=some (decide (Y9 n.domains (Wr n))):=by
 unfold Z2n
 rw[YD n.domains (Wr n) (.inl ()) (.inr ()) hs.domains (fun i h0 h1 h2=>by
  have:=hs.domains
  simp (disch:=omega) only[Z0E,h1,Zb h2,Zc,ZgA (n:=n) hs.domains,Zh,Option.bind_some,Zi,Zj,Zk,Zl,Zm,Zn,Zo,Zp,Ze,Zd,decide_eq_true_eq,Zq,ge_iff_le,gt_iff_lt,Zr,Bool.false_eq_true,decide_false,decide_true,if_true];split <;> rfl) (by simp[Z0E])]
 simp only[Zh,Option.bind_some,Zi,Zj,Zk,Zl,Zm,Zn,Zo,Zp,Ze,Zd,decide_eq_true_eq,Zq,ge_iff_le,gt_iff_lt,Zr,Bool.false_eq_true,decide_false]
theorem ZgL (hs:SmN n) (hb:Y9 n.domains (Wr n)):Z2q n.domains ⟨n⟩=some (decide (Y9 n.domains (Tt n))):=by
 unfold Z2q
 rw[YD n.domains (Tt n) (.inl ()) (.inr ()) hs.domains (fun i h0 h1 h2=>by
  have:=hs.domains
  simp (disch:=omega) only[Z0I,h1,Zb h2,Zc,ZgD (n:=n) hs (hb i h2).1 (hs.peers _ (ZR h2)),Zh,Option.bind_some,Zi,Zj,Zk,Zl,Zm,Zn,Zo,Zp,Ze,Zd,decide_eq_true_eq,Zq,ge_iff_le,gt_iff_lt,Zr,Bool.false_eq_true,decide_false,decide_true,if_true];split <;> rfl) (by simp[Z0I])]
 simp only[Zh,Option.bind_some,Zi,Zj,Zk,Zl,Zm,Zn,Zo,Zp,Ze,Zd,decide_eq_true_eq,Zq,ge_iff_le,gt_iff_lt,Zr,Bool.false_eq_true,decide_false]
theorem ZgM (hs:SmN n):Z2u n.ports ⟨n⟩=some (decide (Y9 n.ports (Uq n))):=by
 unfold Z2u
 rw[YD n.ports (Uq n) (.inl ()) (.inr ()) hs.ports (fun i h0 h1 h2=>by
  have:=hs.ports
  simp (disch:=omega) only[Z0J,h1,Zb h2,Zc,ZgF (n:=n) hs (hs.tagged _ (ZR h2)),Zh,Option.bind_some,Zi,Zj,Zk,Zl,Zm,Zn,Zo,Zp,Ze,Zd,decide_eq_true_eq,Zq,ge_iff_le,gt_iff_lt,Zr,Bool.false_eq_true,decide_false,decide_true,if_true];split <;> rfl) (by simp[Z0J])]
 simp only[Zh,Option.bind_some,Zi,Zj,Zk,Zl,Zm,Zn,Zo,Zp,Ze,Zd,decide_eq_true_eq,Zq,ge_iff_le,gt_iff_lt,Zr,Bool.false_eq_true,decide_false]
theorem ZgN (hs:SmN n):Z2w n.links ⟨n⟩=some (decide (Y9 n.links (Ur n))):=by
 unfold Z2w
 rw[YD n.links (Ur n) (.inl ()) (.inr ()) hs.links (fun i h0 h1 h2=>by
  have:=hs.links
  simp (disch:=omega) only[Z0K,h1,Zb h2,Zc,ZgG (n:=n),Zh,Option.bind_some,Zi,Zj,Zk,Zl,Zm,Zn,Zo,Zp,Ze,Zd,decide_eq_true_eq,Zq,ge_iff_le,gt_iff_lt,Zr,Bool.false_eq_true,decide_false,decide_true,if_true];split <;> rfl) (by simp[Z0K])]
 simp only[Zh,Option.bind_some,Zi,Zj,Zk,Zl,Zm,Zn,Zo,Zp,Ze,Zd,decide_eq_true_eq,Zq,ge_iff_le,gt_iff_lt,Zr,Bool.false_eq_true,decide_false]
theorem ZgO (hs:SmN n):Z2y n.statics ⟨n⟩=some (decide (Y9 n.statics fun _ x=>Tu n x)):=by
 unfold Z2y
 rw[YD n.statics (fun _ x=>Tu n x) (.inl ()) (.inr ()) hs.statics (fun i h0 h1 h2=>by
  have:=hs.statics
  simp (disch:=omega) only[Z0L,h1,Zb h2,Zc,ZgH (n:=n) hs,Zh,Option.bind_some,Zi,Zj,Zk,Zl,Zm,Zn,Zo,Zp,Ze,Zd,decide_eq_true_eq,Zq,ge_iff_le,gt_iff_lt,Zr,Bool.false_eq_true,decide_false,decide_true,if_true];split <;> rfl) (by simp[Z0L])]
 simp only[Zh,Option.bind_some,Zi,Zj,Zk,Zl,Zm,Zn,Zo,Zp,Ze,Zd,decide_eq_true_eq,Zq,ge_iff_le,gt_iff_lt,Zr,Bool.false_eq_true,decide_false]
theorem ZgP (hs:SmN n):Z2A n.floods n=some (decide (Y9 n.floods fun _ x=>Tv n x)):=by
 unfold Z2A
 rw[YD n.floods (fun _ x=>Tv n x) (.inl ()) (.inr ()) hs.floods (fun i h0 h1 h2=>by
  have:=hs.floods
  simp (disch:=omega) only[Z0M,h1,Zb h2,Zc,ZgI,Zh,Option.bind_some,Zi,Zj,Zk,Zl,Zm,Zn,Zo,Zp,Ze,Zd,decide_eq_true_eq,Zq,ge_iff_le,gt_iff_lt,Zr,Bool.false_eq_true,decide_false,decide_true,if_true];split <;> rfl) (by simp[Z0M])]
 simp only[Zh,Option.bind_some,Zi,Zj,Zk,Zl,Zm,Zn,Zo,Zp,Ze,Zd,decide_eq_true_eq,Zq,ge_iff_le,gt_iff_lt,Zr,Bool.false_eq_true,decide_false]
theorem ZgQ (hs:SmN n):Z2C n.vrfs n=some (decide (Y9 n.vrfs fun _ x=>Tw n x)):=by
 unfold Z2C
 rw[YD n.vrfs (fun _ x=>Tw n x) (.inl ()) (.inr ()) hs.vrfs (fun i h0 h1 h2=>by
  have:=hs.vrfs
  simp (disch:=omega) only[Z0N,h1,Zb h2,Zc,ZgJ (hs.imports _ (ZR h2)) (hs.exports _ (ZR h2)),Zh,Option.bind_some,Zi,Zj,Zk,Zl,Zm,Zn,Zo,Zp,Ze,Zd,decide_eq_true_eq,Zq,ge_iff_le,gt_iff_lt,Zr,Bool.false_eq_true,decide_false,decide_true,if_true];split <;> rfl) (by simp[Z0N])]
 simp only[Zh,Option.bind_some,Zi,Zj,Zk,Zl,Zm,Zn,Zo,Zp,Ze,Zd,decide_eq_true_eq,Zq,ge_iff_le,gt_iff_lt,Zr,Bool.false_eq_true,decide_false]
theorem ZgR (hs:SmN n):Z2F n.irbs ⟨n⟩=some (decide (Y9 n.irbs (Us n))):=by
 unfold Z2F
 rw[YD n.irbs (Us n) (.inl ()) (.inr ()) hs.irbs (fun i h0 h1 h2=>by
  have:=hs.irbs
  simp (disch:=omega) only[Z0O,h1,Zb h2,Zc,ZgK (n:=n),Zh,Option.bind_some,Zi,Zj,Zk,Zl,Zm,Zn,Zo,Zp,Ze,Zd,decide_eq_true_eq,Zq,ge_iff_le,gt_iff_lt,Zr,Bool.false_eq_true,decide_false,decide_true,if_true];split <;> rfl) (by simp[Z0O])]
 simp only[Zh,Option.bind_some,Zi,Zj,Zk,Zl,Zm,Zn,Zo,Zp,Ze,Zd,decide_eq_true_eq,Zq,ge_iff_le,gt_iff_lt,Zr,Bool.false_eq_true,decide_false]

theorem Wc (hs:SmN n):Wo n=some (decide (ZM n)):=by
 by_cases hb:Y9 n.domains (Wr n)
 ·simp only[Wo,Zbm,Zbo hs,ZgL hs hb,ZgM hs,ZgN hs,ZgO hs,ZgP hs,ZgQ hs,ZgR hs,Zh,Option.bind_some,Zi,Zj,Zk,Zl,Zm,Zn,Zo,Zp,Ze,Zd,decide_eq_true_eq,Zq,ge_iff_le,gt_iff_lt,Zr,Bool.false_eq_true,decide_false]
  exact Yw Zbn.symm
 ·have:¬ZM n:=fun h=>hb h.bare
  simp only[Wo,Zbm,Zbo hs,hb,this,Zh,Option.bind_some,Zi,Zj,Zk,Zl,Zm,Zn,Zo,Zp,Ze,Zd,decide_eq_true_eq,Zq,ge_iff_le,gt_iff_lt,Zr,Bool.false_eq_true,decide_false,decide_false,if_false,Bool.false_eq_true]
  simp

structure Ym (n:Z2) (a b:Nat):Prop where
 devices:n.devices.length≤a
 ports:n.ports.length≤a
 links:n.links.length≤a
 domains:n.domains.length≤a
 statics:n.statics.length≤a
 floods:n.floods.length≤a
 vrfs:n.vrfs.length≤a
 irbs:n.irbs.length≤a
 tagged:∀p∈n.ports,p.tagged.length≤b
 peers:∀d∈n.domains,d.peers.length≤b
 addrs:∀f∈n.floods,f.addrs.length≤b
 imports:∀v∈n.vrfs,v.imports.length≤b
 exports:∀v∈n.vrfs,v.exports.length≤b
theorem Ym.sm {a b:Nat} (h:Ym n a b) (ha:a≤1000000:=by decide) (hb:b≤1000000:=by decide):SmN n:=
 ⟨WN h.devices ha,WN h.ports ha,WN h.links ha,WN h.domains ha,WN h.statics ha,WN h.floods ha,WN h.vrfs ha,WN h.irbs ha,
  fun p q=>WN (h.tagged p q) hb,fun p q=>WN (h.peers p q) hb,fun p q=>WN (h.addrs p q) hb,fun p q=>WN (h.imports p q) hb,fun p q=>WN (h.exports p q) hb⟩
theorem ZgS:Z2i n=some (decide (¬Ym n 200 100)):=by
  unfold Z2i
  simp only[Zh,Option.bind_some,Zi,Zj,Zk,Zl,Zm,Zn,Zo,Zp,Ze,Zd,decide_eq_true_eq,Zq,ge_iff_le,gt_iff_lt,Zr,Bool.false_eq_true,decide_false]
  by_cases h1:(200:Int) <n.devices.length
  · have:¬Ym n 200 100:=fun h=>by have:=h.devices;omega
    simp[h1,this]
  by_cases h2:(200:Int) <n.ports.length
  · have:¬Ym n 200 100:=fun h=>by have:=h.ports;omega
    simp[h1,h2,this]
  by_cases h3:(200:Int) <n.links.length
  · have:¬Ym n 200 100:=fun h=>by have:=h.links;omega
    simp[h1,h2,h3,this]
  by_cases h4:(200:Int) <n.domains.length
  · have:¬Ym n 200 100:=fun h=>by have:=h.domains;omega
    simp[h1,h2,h3,h4,this]
  by_cases h5:(200:Int) <n.statics.length
  · have:¬Ym n 200 100:=fun h=>by have:=h.statics;omega
    simp[h1,h2,h3,h4,h5,this]
  by_cases h6:(200:Int) <n.floods.length
  · have:¬Ym n 200 100:=fun h=>by have:=h.floods;omega
    simp[h1,h2,h3,h4,h5,h6,this]
  by_cases h7:(200:Int) <n.vrfs.length
  · have:¬Ym n 200 100:=fun h=>by have:=h.vrfs;omega
    simp[h1,h2,h3,h4,h5,h6,h7,this]
  by_cases h8:(200:Int) <n.irbs.length
  · have:¬Ym n 200 100:=fun h=>by have:=h.irbs;omega
    simp[h1,h2,h3,h4,h5,h6,h7,h8,this]
  simp only[h1,h2,h3,h4,h5,h6,h7,h8,if_false]
  rw[YD n.ports (fun _ p=>¬100<(p.tagged.length:Int)) (.inl ()) (.inr ()) (by omega) (fun i g0 g1 g2=>by
    simp (disch:=omega) only[Z0z,g1,Zb g2,Zc,Zh,Option.bind_some,Zi,Zj,Zk,Zl,Zm,Zn,Zo,Zp,Ze,Zd,decide_eq_true_eq,Zq,ge_iff_le,gt_iff_lt,Zr,Bool.false_eq_true,decide_false,decide_true,if_true];split <;> rfl) (by simp[Z0z]),
   YD n.domains (fun _ p=>¬100<(p.peers.length:Int)) (.inl ()) (.inr ()) (by omega) (fun i g0 g1 g2=>by
    simp (disch:=omega) only[Z0A,g1,Zb g2,Zc,Zh,Option.bind_some,Zi,Zj,Zk,Zl,Zm,Zn,Zo,Zp,Ze,Zd,decide_eq_true_eq,Zq,ge_iff_le,gt_iff_lt,Zr,Bool.false_eq_true,decide_false,decide_true,if_true];split <;> rfl) (by simp[Z0A]),
   YD n.floods (fun _ p=>¬100<(p.addrs.length:Int)) (.inl ()) (.inr ()) (by omega) (fun i g0 g1 g2=>by
    simp (disch:=omega) only[Z0B,g1,Zb g2,Zc,Zh,Option.bind_some,Zi,Zj,Zk,Zl,Zm,Zn,Zo,Zp,Ze,Zd,decide_eq_true_eq,Zq,ge_iff_le,gt_iff_lt,Zr,Bool.false_eq_true,decide_false,decide_true,if_true];split <;> rfl) (by simp[Z0B]),
   YD n.vrfs (fun _ p=>¬100<(p.imports.length:Int)∧¬100<(p.exports.length:Int)) (.inl ()) (.inr ()) (by omega) (fun i g0 g1 g2=>by
    simp (disch:=omega) only[Z0C,g1,Zb g2,Zc,Zh,Option.bind_some,Zi,Zj,Zk,Zl,Zm,Zn,Zo,Zp,Ze,Zd,decide_eq_true_eq,Zq,ge_iff_le,gt_iff_lt,Zr,Bool.false_eq_true,decide_false,decide_true,if_true];grind) (by simp[Z0C])]
  simp only[Zh,Option.bind_some,Zi,Zj,Zk,Zl,Zm,Zn,Zo,Zp,Ze,Zd,decide_eq_true_eq,Zq,ge_iff_le,gt_iff_lt,Zr,Bool.false_eq_true,decide_false,Z1F]
  refine Yw ?_
  constructor
  · intro h hb
    have:=hb.tagged;have:=hb.peers;have:=hb.addrs;have:=hb.imports;have:=hb.exports
    grind
  · intro h
    apply Classical.byContradiction
    intro hn
    refine h ⟨by omega,by omega,by omega,by omega,by omega,by omega,by omega,by omega, ?_, ?_, ?_, ?_, ?_⟩ <;> grind
end

end Go.Eng

set_option linter.unusedVariables false
set_option linter.unusedSectionVars false
set_option linter.unusedSimpArgs false
namespace Go.Eng
open Go Classical
attribute [local congr] Yl
theorem Zbp {x y:ByteArray} :Z2h x y=decide (x=y):=by
 unfold Z2h
 rw[Bool.eq_iff_iff]
 simp only[beq_iff_eq,decide_eq_true_eq]
 constructor
 ·intro h
  rw[ByteArray.toList_eq,ByteArray.toList_eq]at h
  obtain⟨⟨x⟩⟩:=x
  obtain⟨⟨y⟩⟩:=y
  simpa using h
 ·intro h;rw[h]

theorem Z40 {α:Type} [Inhabited α] {l r:List α} :l=r↔l.length=r.length∧Y9 l (fun i x=>x=Z0 r i):=by
 constructor
 ·intro h;subst h;exact⟨rfl,fun i hi=>rfl⟩
 ·rintro ⟨h,he⟩
  apply List.ext_getElem h
  intro i h1 h2
  have:=he i ⟨by omega,by omega⟩
  rwa [Xn (List.getElem?_eq_getElem h1),Xn (List.getElem?_eq_getElem h2)]at this
end Go.Eng

set_option linter.unusedVariables false
set_option linter.unusedSectionVars false
set_option linter.unusedSimpArgs false
namespace Go.Eng
open Go Classical
attribute [local congr] Yl
section
/-! ### A copy -/
end
end Go.Eng

set_option linter.unusedVariables false
set_option linter.unusedSectionVars false
set_option linter.unusedSimpArgs false
namespace Go.Eng
open Go Classical
attribute [local congr] Yl
section

end
end Go.Eng

set_option linter.unusedVariables false
set_option linter.unusedSectionVars false
set_option linter.unusedSimpArgs false
namespace Go.Eng
open Go Classical
attribute [local congr] Yl
theorem ZgT {α:Type} [Inhabited α] {l:List α} {k:Nat} (h:k<l.length):l.take (k+1)=l.take k++ [Z0 l (k:Int)]:=by
 have:=Y8 (l:=l) (i:=(k:Int)) ⟨by omega,by omega⟩
 rw[List.take_add_one,show l[k]?=some (Z0 l (k:Int))from by simpa using this];rfl
section
variable {n:Z2}
theorem Zbq {α β ρ:Type} [Inhabited α] {f:List β×Int→Option ((List β×Int)⊕ρ)} (l:List α) (h:α→β) (out:List β→ρ) (hb:Few l)
  (h1:∀(m:List β) (i:Int),0≤i→i<l.length→inL l i→m.length≤l.length→f (m,i)=some (.inl (m++ [h (Z0 l i)],i+1))) (h2:∀m,f (m,l.length)=some (.inr (out m))):
  Z8 f ([],0)=some (out (l.map h)):=by
 have:=Xu (f:=f) (fun i=>((l.take i).map h,(i:Int))) l.length (r:=out (l.map h)) (by unfold Few at hb;omega) (fun i hi=>by
  rw[h1 _ (i:Int) (by omega) (by omega) ⟨by omega,by omega⟩ (by simp;omega),ZgT hi]
  simp) (by simp only[List.take_length];exact h2 _)
 simpa using this
end
end Go.Eng

set_option linter.unusedVariables false
set_option linter.unusedSectionVars false
set_option linter.unusedSimpArgs false
namespace Go.Eng
open Go Classical

inductive YS (E:Int→Int→Prop):Int→Int→Prop
 |refl (x:Int):YS E x x
 |edge {x y:Int} (h:E x y):YS E x y
 |symm {x y:Int} (h:YS E x y):YS E y x
 |trans {x y z:Int} (h:YS E x y) (g:YS E y z):YS E x z

section
variable {E F:Int→Int→Prop}
theorem YS.mono (h:∀x y,E x y→F x y) {x y:Int} (c:YS E x y):YS F x y:=by
 induction c with
 |refl x=>exact .refl x
 |edge e=>exact .edge (h _ _ e)
 |symm _ ih=>exact ih.symm
 |trans _ _ i1 i2=>exact i1.trans i2
theorem YS.congr (h:∀x y,E x y↔F x y) {x y:Int} :YS E x y↔YS F x y:=⟨YS.mono fun x y=>(h x y).1,YS.mono fun x y=>(h x y).2⟩
theorem YS.sub (h:∀x y,E x y→YS F x y) {x y:Int} (c:YS E x y):YS F x y:=by
 induction c with
 |refl x=>exact .refl x
 |edge e=>exact h _ _ e
 |symm _ ih=>exact ih.symm
 |trans _ _ i1 i2=>exact i1.trans i2
theorem YS.inv {β:Type} {T:Int→β} (h:∀x y,E x y→T x=T y) {x y:Int} (c:YS E x y):T x=T y:=by
 induction c with
 |refl x=>rfl
 |edge e=>exact h _ _ e
 |symm _ ih=>exact ih.symm
 |trans _ _ i1 i2=>exact i1.trans i2
theorem YS.set {P:Int→Prop} (h:∀x y,E x y→(P x↔P y)) {x y:Int} (c:YS E x y):P x↔P y:=by
 induction c with
 |refl x=>exact Iff.rfl
 |edge e=>exact h _ _ e
 |symm _ ih=>exact ih.symm
 |trans _ _ i1 i2=>exact i1.trans i2
end

structure V7 (E:Int→Int→Prop) (T:Int→Int) (N:Int):Prop where
 lo:∀x,0≤x→x<N→0≤T x
 le:∀x,0≤x→x<N→T x≤x
 conn:∀x,0≤x→x<N→YS E x (T x)
 same:∀x y,0≤x→x<N→0≤y→y<N→YS E x y→T x=T y
theorem V7.uniq {E F:Int→Int→Prop} {T U:Int→Int} {N:Int} (h:V7 E T N) (g:V7 F U N) (e:∀x y,YS E x y↔YS F x y) {x:Int} (h0:0≤x) (h1:x<N):T x=U x:=by
 have a1:=h.lo x h0 h1
 have a2:=h.le x h0 h1
 have b1:=g.lo x h0 h1
 have b2:=g.le x h0 h1
 have c1:=g.same x (T x) h0 h1 a1 (by omega) ((e _ _).1 (h.conn x h0 h1))
 have c2:=h.same x (U x) h0 h1 b1 (by omega) ((e _ _).2 (g.conn x h0 h1))
 have d1:=g.le (T x) a1 (by omega)
 have d2:=h.le (U x) b1 (by omega)
 omega
theorem V7.top {E:Int→Int→Prop} {T:Int→Int} {N:Int} (h:V7 E T N) {x:Int} (h0:0≤x) (h1:x<N):T (T x)=T x:=
 (h.same x (T x) h0 h1 (h.lo x h0 h1) (by have:=h.le x h0 h1;omega) (h.conn x h0 h1)).symm

structure Lab (f:List Int) (T:Int→Int):Prop where
 lo:∀i,inL f i→0≤Z0 f i
 le:∀i,inL f i→Z0 f i≤i
 tlo:∀i,inL f i→0≤T i
 tle:∀i,inL f i→T i≤i
 root:∀i,inL f i→Z0 f (T i)=T i
 step:∀i,inL f i→T (Z0 f i)=T i
 self:∀i,inL f i→Z0 f i=i→T i=i

section
variable {f:List Int} {T:Int→Int}
theorem Lab.tin (h:Lab f T) {i:Int} (hi:inL f i):inL f (T i):=⟨h.tlo i hi,by have:=h.tle i hi;have:=hi.2;omega⟩
theorem Lab.fin (h:Lab f T) {i:Int} (hi:inL f i):inL f (Z0 f i):=⟨h.lo i hi,by have:=h.le i hi;have:=hi.2;omega⟩
theorem Lab.top (h:Lab f T) {i:Int} (hi:inL f i):T (T i)=T i:=h.self _ (h.tin hi) (h.root i hi)
end
/-! ### Chains of sets -/
end Go.Eng

set_option linter.unusedVariables false
set_option linter.unusedSectionVars false
set_option linter.unusedSimpArgs false
namespace Go.Eng
open Go Classical

theorem V7.congr {E F:Int→Int→Prop} {T:Int→Int} {N:Int} (h:V7 E T N) (e:∀x y,YS E x y↔YS F x y):V7 F T N:=
 ⟨h.lo,h.le,fun x a b=>(e _ _).1 (h.conn x a b),fun x y a b c d g=>h.same x y a b c d ((e _ _).2 g)⟩
theorem V7.congrE {E F:Int→Int→Prop} {T:Int→Int} {N:Int} (h:V7 E T N) (e:∀x y,E x y↔F x y):V7 F T N:=h.congr fun _ _=>YS.congr e
def mkL (N:Nat) (T:Int→Int):List Int:=(List.range N).map fun(i:Nat)=>T (i:Int)
theorem Z5Q {N:Nat} {T:Int→Int} :(mkL N T).length=N:=by simp[mkL]
theorem Zbr {N:Nat} {T:Int→Int} {i:Int} :inL (mkL N T) i↔0≤i∧i<N:=by rw[Zbg,Z5Q]
structure FOK (E:Int→Int→Prop) (N:Nat) (f:List Int):Prop where
 len:f.length=N
 lab:∃T,Lab f T∧V7 E T N
 rng:∀x y,E x y→(0≤x∧x<(N:Int))∧0≤y∧y<(N:Int)
theorem FOK.congr {E F:Int→Int→Prop} {N:Nat} {f:List Int} (h:FOK E N f) (e:∀x y,E x y↔F x y):FOK F N f:=by
 obtain⟨T,a,b⟩:=h.lab
 exact⟨h.len,⟨T,a,b.congrE e⟩,fun x y g=>h.rng x y ((e x y).2 g)⟩
end Go.Eng

set_option linter.unusedVariables false
set_option linter.unusedSectionVars false
set_option linter.unusedSimpArgs false
namespace Go.Eng
open Go Classical
attribute [local congr] Yl
section
variable {n:Z2}
theorem ZgU {d:ZF} {a b:Int} :Z2K d a b=some (decide (d.dev=a∧d.vlan=b)):=by
 simp only[Z2K,Zh,Option.bind_some,Zi,Zj,Zk,Zl,Zm,Zn,Zo,Zp,Ze,Zd,decide_eq_true_eq,Zq,ge_iff_le,gt_iff_lt,Zr,Bool.false_eq_true,decide_false]
theorem ZgV (hs:SmN n) {a b:Int} :Z2L n a b=some (if ZM n then XM n.domains a b else -1):=by
 simp only[Z2L,Z57,Wc hs,Z56]
 rw[Uo n.domains (fun d=>d.dev=a∧d.vlan=b) hs.domains (fun i h0 h1 h2=>by
  have:=hs.domains
  simp (disch:=omega) only[Z0R,ZgU,h1,Zb h2,Zc,Zh,Option.bind_some,Zi,Zj,Zk,Zl,Zm,Zn,Zo,Zp,Ze,Zd,decide_eq_true_eq,Zq,ge_iff_le,gt_iff_lt,Zr,Bool.false_eq_true,decide_false,decide_true,if_true];split <;> rfl) (by simp[Z0R])]
 simp only[Zh,Option.bind_some,Zi,Zj,Zk,Zl,Zm,Zn,Zo,Zp,Ze,Zd,decide_eq_true_eq,Zq,ge_iff_le,gt_iff_lt,Zr,Bool.false_eq_true,decide_false]
 split <;> rfl

end
end Go.Eng

set_option linter.unusedVariables false
set_option linter.unusedSectionVars false
set_option linter.unusedSimpArgs false
namespace Go.Eng
open Go Classical
attribute [local congr] Yl

theorem Zbs {ρ:Type} {f:Int→Option (Int⊕ρ)} (N:Nat) (P:Int→Prop) (a b:ρ) (hb:N≤1000000)
  (h1:∀i:Int,0≤i→i<N→f i=some (if P i then .inl (i+1)else .inr a)) (h2:f N=some (.inr b)):
  Z8 f 0=if ∀i:Int,0≤i→i<N→P i then some b else some a:=by
 rw[YD (mkL N fun x=>x) (fun i _=>P i) a b (by unfold Few;rw[Z5Q];exact hb) (fun i i0 i1 _=>h1 i i0 (by rw[Z5Q]at i1;exact i1)) (by rw[Z5Q];exact h2)]
 have:Y9 (mkL N fun x=>x) (fun i _=>P i)↔∀i:Int,0≤i→i<N→P i:=
  ⟨fun h i a b=>h i (Zbr.2 ⟨a,b⟩),fun h i hi=>h i hi.1 (Zbr.1 hi).2⟩
 simp only[this]

def WP (c:Int):Prop:=97≤c∧c≤122
def V8 (c:Int):Prop:=48≤c∧c≤57
def X0 (s:ByteArray):Prop:=(∀i:Int,0≤i→i<s.size→WP (Yr s i)∨(V8 (Yr s i)∧i≠0))∧0<s.size∧s.size≤12
theorem ZgW {s:ByteArray} (hs:s.size≤1000000):Z35 s=some (decide (X0 s)):=by
 unfold Z35
 rw[Zbs (f:=Qi s) s.size (fun i=>WP (Yr s i)∨(V8 (Yr s i)∧i≠0)) (.inl ()) (.inr ()) hs (fun i i0 i1=>by
  have hw:=Zc (n:=i+1) (by omega) (by omega)
  have hin:decide (0≤(i:Int)∧(i:Int) <(s.size:Int))=true:=decide_eq_true ⟨i0,i1⟩
  simp only[Qi,i1,hin,hw,decide_true,if_true,Zh,Option.bind_some,Zi,Zj,Zk,Zl,Zm,Zn,Zo,Zp,Ze,Zd,decide_eq_true_eq,Zq,ge_iff_le,gt_iff_lt,Zr,Bool.false_eq_true,decide_false]
  unfold WP V8
  generalize Yr s i=c
  by_cases c1:97≤c <;> by_cases c2:48≤c <;> by_cases c3:c≤122 <;> by_cases c4:c≤57 <;> by_cases c5:i=0 <;> simp[c1,c2,c3,c4,c5] <;> omega) (by simp[Qi])]
 have hN:X0 s↔(∀i:Int,0≤i→i<s.size→WP (Yr s i)∨(V8 (Yr s i)∧i≠0))∧0<s.size∧s.size≤12:=Iff.rfl
 generalize X0 s=A at *
 by_cases h:∀i:Int,0≤i→i<s.size→WP (Yr s i)∨(V8 (Yr s i)∧i≠0)
 ·rw[if_pos h]
  simp only[Option.bind_some]
  by_cases h2:0<s.size
  ·have h3:(s.size:Int) >0:=by omega
   by_cases h4:s.size≤12
   ·have h5:(s.size:Int)≤12:=by omega
    simp only[h3,h5,hN.2 ⟨h,h2,h4⟩,decide_true,if_true]
   ·have h5:¬(s.size:Int)≤12:=by omega
    have:¬A:=fun q=>h4 (hN.1 q).2.2
    simp only[h3,h5,this,decide_true,decide_false,if_true]
  ·have h3:¬(s.size:Int) >0:=by omega
   have:¬A:=fun q=>h2 (hN.1 q).2.1
   simp only[h3,this,decide_false,Bool.false_eq_true,if_false]
 ·have:¬A:=fun q=>h (hN.1 q).1
  rw[if_neg h]
  simp[this]

section
variable {n:Z2}
end
end Go.Eng

set_option linter.unusedVariables false
set_option linter.unusedSectionVars false
set_option linter.unusedSimpArgs false
namespace Go.Eng
open Go Classical
theorem ZgX {s:ByteArray} (hs:s.size≤1000000):Z3y s=some (decide (X0 s)):=by
 have hN:X0 s↔(∀i:Int,0≤i→i<s.size→WP (Yr s i)∨(V8 (Yr s i)∧i≠0))∧0<s.size∧s.size≤12:=Iff.rfl
 unfold Z3y
 by_cases c1:(s.size:Int) <1
 ·rw[if_pos (decide_eq_true c1),decide_eq_false (fun h=>by have:=h.2.1;omega)]
 rw[if_neg (by simpa using c1)]
 by_cases c2:(s.size:Int) >12
 ·rw[if_pos (decide_eq_true c2),decide_eq_false (fun h=>by have:=h.2.2;omega)]
 rw[if_neg (by simpa using c2),if_pos (decide_eq_true ⟨by omega,by omega⟩)]
 by_cases c3:Yr s 0<97
 ·rw[if_pos (decide_eq_true c3),decide_eq_false (fun h=>by
   have:=h.1 0 (by omega) (by omega)
   unfold WP V8 at this
   omega)]
 rw[if_neg (by simpa using c3)]
 by_cases c4:Yr s 0>122
 ·rw[if_pos (decide_eq_true c4),decide_eq_false (fun h=>by
   have:=h.1 0 (by omega) (by omega)
   unfold WP V8 at this
   omega)]
 rw[if_neg (by simpa using c4)]
 rw[Zbs (f:=QJ s) s.size (fun i=>WP (Yr s i)∨V8 (Yr s i)) (.inl ()) (.inr ()) hs (fun i i0 i1=>by
  have hw:=Zc (n:=i+1) (by omega) (by omega)
  have hin:decide (0≤(i:Int)∧(i:Int) <(s.size:Int))=true:=decide_eq_true ⟨i0,i1⟩
  simp only[QJ,i1,hin,hw,decide_true,if_true]
  unfold WP V8
  generalize Yr s i=c
  by_cases e1:c<97 <;> by_cases e2:c<48 <;> by_cases e3:c>122 <;> by_cases e4:c>57 <;> simp[e1,e2,e3,e4] <;> omega) (by simp[QJ])]
 have hiff:X0 s↔∀i:Int,0≤i→i<s.size→WP (Yr s i)∨V8 (Yr s i):=by
  rw[hN]
  constructor
  ·intro h i i0 i1
   rcases h.1 i i0 i1 with q|q
   ·exact .inl q
   ·exact .inr q.1
  ·intro h
   refine⟨fun i i0 i1=> ?_,by omega,by omega⟩
   rcases h i i0 i1 with q|q
   ·exact .inl q
   ·by_cases e:i=0
    ·subst e;unfold WP;omega
    ·exact .inr ⟨q,e⟩
 by_cases h:∀i:Int,0≤i→i<s.size→WP (Yr s i)∨V8 (Yr s i)
 ·rw[if_pos h,decide_eq_true (hiff.2 h)];rfl
 ·rw[if_neg h,decide_eq_false (fun q=>h (hiff.1 q))];rfl
end Go.Eng

set_option linter.unusedVariables false
set_option linter.unusedSectionVars false
set_option linter.unusedSimpArgs false
namespace Go.Eng
open Go Classical

section
variable {α:Type} [Inhabited α] {l r:List α} {x:α} {i k:Int}
theorem ZgY (h:inL l i):inL (l++r) i:=⟨h.1,by have:=h.2;simp;omega⟩
theorem Zbt (h:inL l i):Z0 (l++r) i=Z0 l i:=by
 have h0:=h.1;have h1:=h.2
 unfold Z0
 rw[List.getElem?_append_left (by omega)]
theorem Ut:inL (l.set k.toNat x) i↔inL l i:=by simp[inL]
theorem WG (hk:inL l k) (hi:inL l i):Z0 (l.set k.toNat x) i=if i=k then x else Z0 l i:=by
 have h1:=hk.1;have h2:=hi.1;have h3:=hk.2;have h4:=hi.2
 unfold Z0
 by_cases h:i=k
 ·subst h
  rw[List.getElem?_set_self (by omega)];simp
 ·rw[List.getElem?_set_ne (by omega)];simp[h]
end
section
variable {n:Z2}
end
end Go.Eng

set_option linter.unusedVariables false
set_option linter.unusedSectionVars false
set_option linter.unusedSimpArgs false
namespace Go.Eng
open Go

theorem VT {n:Int} (h1:0≤n) (h2:n<4294967296):Xz n=n:=by
 unfold Xz IntKind.wrap
 simp[IntKind.signed,IntKind.bits]
 omega
theorem Uu {n:Int} (h1:0≤n) (h2:n<18446744073709551616):Y0 n=n:=by
 unfold Y0 IntKind.wrap
 simp[IntKind.signed,IntKind.bits]
 omega
theorem wr8 {n:Int} (h1:0≤n) (h2:n<256):Xc n=n:=by
 unfold Xc IntKind.wrap
 simp[IntKind.signed,IntKind.bits]
 omega

theorem Zbu (X k:Nat):X|||(2 ^ k-1)=X-X % 2 ^ k+(2 ^ k-1):=by
 have h:X-X % 2 ^ k=(X / 2 ^ k) * 2 ^ k:=by have:=Nat.div_add_mod X (2 ^ k);rw[Nat.mul_comm]at this;omega
 rw[h,Nat.mul_comm,Nat.two_pow_add_eq_or_of_lt (by have:=Nat.two_pow_pos k;omega)]
 apply Nat.eq_of_testBit_eq
 intro i
 simp only[Nat.testBit_or,Nat.testBit_two_pow_sub_one,Nat.testBit_two_pow_mul,Nat.testBit_div_two_pow]
 by_cases hi:i<k
 ·simp[hi]
 ·have:k≤i:=by omega
  simp[hi,this]
theorem ZgZ (X k n:Nat) (hX:X<2 ^ n) (hk:k≤n):X &&& (2 ^ n-1-(2 ^ k-1))=X-X % 2 ^ k:=by
 have h:X-X % 2 ^ k=2 ^ k * (X / 2 ^ k):=by have:=Nat.div_add_mod X (2 ^ k);omega
 rw[h]
 apply Nat.eq_of_testBit_eq
 intro i
 have hlt:2 ^ k-1<2 ^ n:=by have:=Nat.pow_le_pow_right (by decide:0<2) hk;have:=Nat.two_pow_pos k;omega
 rw[Nat.testBit_and,show 2 ^ n-1-(2 ^ k-1)=2 ^ n-(2 ^ k-1+1)from by omega,Nat.testBit_two_pow_sub_succ hlt,Nat.testBit_two_pow_mul,Nat.testBit_div_two_pow,Nat.testBit_two_pow_sub_one]
 by_cases hi:i<k
 ·have:¬k≤i:=by omega
  simp[hi,this]
 ·have h2:k≤i:=by omega
  by_cases hn:i<n
  ·simp[hi,h2,hn]
  ·have:X.testBit i=false:=Nat.testBit_lt_two_pow (Nat.lt_of_lt_of_le hX (Nat.pow_le_pow_right (by decide) (by omega)))
   simp[hi,h2,hn,this]

theorem VU (n:Nat) (x:Int) (h1:0≤x):BitVec.ofInt n x=BitVec.ofNat n x.toNat:=by
 have h:BitVec.ofInt n ((x.toNat:Nat):Int)=BitVec.ofNat n x.toNat:=BitVec.ofInt_natCast ..
 rwa [show((x.toNat:Nat):Int)=x from by omega]at h

theorem Zbv {x:Int} {k:Nat} (h1:0≤x) (h2:x<4294967296) (hk:k≤32):Y2 .u32 x (2 ^ k-1:Nat)=x-x % (2 ^ k:Nat)+((2 ^ k:Nat) -1):=by
 have hp:=Nat.two_pow_pos k
 have hle:2 ^ k≤4294967296:=Nat.pow_le_pow_right (n:=2) (by decide) hk
 unfold Y2
 rw[VU _ _ h1,VU _ _ (by omega),BitVec.toNat_or,BitVec.toNat_ofNat,BitVec.toNat_ofNat]
 simp only[IntKind.bits,Int.toNat_natCast]
 rw[Nat.mod_eq_of_lt (by omega),Nat.mod_eq_of_lt (by omega),Zbu]
 have hm:x.toNat % 2 ^ k<2 ^ k:=Nat.mod_lt _ hp
 have hdm:=Nat.div_add_mod x.toNat (2 ^ k)
 have hub:x.toNat-x.toNat % 2 ^ k+(2 ^ k-1) <4294967296:=by
  have:x.toNat|||(2 ^ k-1) <2 ^ 32:=Nat.or_lt_two_pow (by omega) (by omega)
  rw[Zbu]at this;omega
 have hmod:((x.toNat % 2 ^ k:Nat):Int)=x % (2 ^ k:Nat):=by rw[Int.natCast_emod];congr 1;omega
 have hle2:x.toNat % 2 ^ k≤x.toNat:=Nat.mod_le _ _
 have:=VT (n:=((x.toNat-x.toNat % 2 ^ k+(2 ^ k-1):Nat):Int)) (by omega) (by omega)
 unfold Xz at this
 rw[this, ←hmod]
 omega

theorem Zbw {x:Int} {k:Nat} (h1:0≤x) (h2:x<4294967296) (hk:k≤32):Z2g .u32 x (2 ^ k-1:Nat)=x-x % (2 ^ k:Nat):=by
 have hp:=Nat.two_pow_pos k
 have hle:2 ^ k≤4294967296:=Nat.pow_le_pow_right (n:=2) (by decide) hk
 unfold Z2g
 rw[VU _ _ h1,VU _ _ (by omega),BitVec.toNat_and,BitVec.toNat_not,BitVec.toNat_ofNat,BitVec.toNat_ofNat]
 simp only[IntKind.bits,Int.toNat_natCast]
 rw[Nat.mod_eq_of_lt (by omega),Nat.mod_eq_of_lt (by omega),ZgZ _ k 32 (by omega) hk]
 have hm:x.toNat % 2 ^ k<2 ^ k:=Nat.mod_lt _ hp
 have hmod:((x.toNat % 2 ^ k:Nat):Int)=x % (2 ^ k:Nat):=by rw[Int.natCast_emod];congr 1;omega
 have hle2:x.toNat % 2 ^ k≤x.toNat:=Nat.mod_le _ _
 have:=VT (n:=((x.toNat-x.toNat % 2 ^ k:Nat):Int)) (by omega) (by omega)
 unfold Xz at this
 rw[this, ←hmod]
 omega

theorem Zh0 {a b:Nat} (h:a ^^^ b=0):a=b:=by
 apply Nat.eq_of_testBit_eq;intro i
 have:=congrArg (fun q=>q.testBit i) h
 simp only[Nat.testBit_xor,Nat.zero_testBit]at this
 simpa using this
theorem Zh1 {x y k:Nat} :(x ^^^ y) -(x ^^^ y) % 2 ^ k=0↔x / 2 ^ k=y / 2 ^ k:=by
 have h:(x ^^^ y) -(x ^^^ y) % 2 ^ k=2 ^ k * ((x ^^^ y) / 2 ^ k):=by have:=Nat.div_add_mod (x ^^^ y) (2 ^ k);omega
 rw[h]
 have hp:=Nat.two_pow_pos k
 have h2:(x ^^^ y) / 2 ^ k=(x / 2 ^ k) ^^^ (y / 2 ^ k):=by
  apply Nat.eq_of_testBit_eq;intro i
  simp[Nat.testBit_div_two_pow]
 rw[h2]
 constructor
 ·intro h3
  have:(x / 2 ^ k) ^^^ (y / 2 ^ k)=0:=by
   rcases Nat.mul_eq_zero.1 h3 with h4|h4
   ·omega
   ·exact h4
  exact Zh0 this
 ·intro h3;rw[h3];simp
theorem Zh2 {x y:Int} {k:Nat} (h1:0≤x) (h2:x<4294967296) (h3:0≤y) (h4:y<4294967296) (hk:k≤32):
  Z2g .u32 (Z4S .u32 x y) (2 ^ k-1:Nat)=0↔x / (2 ^ k:Nat)=y / (2 ^ k:Nat):=by
 have e:Z4S .u32 x y=((x.toNat ^^^ y.toNat:Nat):Int):=by
  unfold Z4S
  rw[VU _ _ h1,VU _ _ h3,BitVec.toNat_xor,BitVec.toNat_ofNat,BitVec.toNat_ofNat]
  simp only[IntKind.bits]
  rw[Nat.mod_eq_of_lt (by omega),Nat.mod_eq_of_lt (by omega)]
  have:x.toNat ^^^ y.toNat<2 ^ 32:=Nat.xor_lt_two_pow (by omega) (by omega)
  exact VT (by omega) (by omega)
 have hlt:x.toNat ^^^ y.toNat<2 ^ 32:=Nat.xor_lt_two_pow (by omega) (by omega)
 rw[e,Zbw (by omega) (by omega) hk]
 have h5:= @Zh1 x.toNat y.toNat k
 have h6:(((x.toNat ^^^ y.toNat) % 2 ^ k:Nat):Int)=((x.toNat ^^^ y.toNat:Nat):Int) % (2 ^ k:Nat):=Int.natCast_emod _ _
 have h7:((x.toNat / 2 ^ k:Nat):Int)=x / (2 ^ k:Nat):=by rw[Int.natCast_ediv];congr 1;omega
 have h8:((y.toNat / 2 ^ k:Nat):Int)=y / (2 ^ k:Nat):=by rw[Int.natCast_ediv];congr 1;omega
 rw[←h6, ←h7, ←h8]
 have h9:(x.toNat ^^^ y.toNat) % 2 ^ k≤(x.toNat ^^^ y.toNat):=Nat.mod_le _ _
 constructor
 ·intro h;have:=h5.1 (by omega);omega
 ·intro h;have:=h5.2 (by omega);omega
end Go.Eng
