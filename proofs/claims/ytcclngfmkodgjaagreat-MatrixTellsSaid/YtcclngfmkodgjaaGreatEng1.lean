/- The engine, part 1: abstract values over typed data, how they stand for the model's values and memory, and what may become of memory. -/
import Derived.Calls
import Derived.Still
import Derived.KernelRfl
set_option linter.unusedVariables false
set_option linter.unusedSectionVars false
namespace Go.Eng
open Go

abbrev Den:=Nat→Type

inductive AV (D:Den):Type where
 |v (x:Value)
 |db (b:Bool)
 |agg (cs:List (AV D))
 |tup (cs:List (AV D))
 |sl (t:Nat) (l:List (D t))
 |em (t:Nat)
 |rp (row:List (AV D)) (off:Nat)
 |os (id n:Nat)
 |op (id n i off:Nat)
 |fn (f:Fn) (first cap:List (AV D))
 |sn (nil:Bool) (t:Nat) (l:List (D t))
 |oss (id n a b:Nat)
 |un

class Gl (D:Den) where
 row:Nat→Option (List (AV D))

def XP {D:Den} :AV D→Bool
 | .v (.agg _)=>false
 | .v (.tuple _)=>false
 | .agg _=>false
 | .tup _=>false
 | .un=>false
 |_=>true

structure Zu (D:Den) where
 width:Nat→Nat
 cells:(t:Nat)→D t→List (AV D)
 len:∀t x,(cells t x).length=width t
 pos:∀t,0<width t
 ok:∀t x,(cells t x).all XP=true

inductive Zf (D:Den):Type where
 |arr (t:Nat) (l:List (D t)) (n:Nat) (fz:Bool)
 |box (e:Nat) (row:List (AV D)) (fz:Bool)
 |dp (t:Nat) (l:List (D t)) (pm:List Bool) (op:Option (Nat×List (AV D))) (n:Nat)
 |dead (n t:Nat)

variable {D:Den}

def Zf.fz:Zf D→Bool| .arr _ _ _ f=>f| .box _ _ f=>f| .dp _ _ _ _ _=>false| .dead _ _=>true
def Zf.len:Zf D→Nat| .arr _ _ n _=>n| .box _ _ _=>1| .dp _ _ _ _ n=>n| .dead n _=>n
def Zf.wid (U:Zu D):Zf D→Nat| .arr t _ _ _=>U.width t| .box _ r _=>r.length| .dp t _ _ _ _=>U.width t| .dead _ t=>U.width t
def Zf.freeze:Zf D→Zf D| .arr t l n _=> .arr t l n true| .box e r _=> .box e r true| .dp t _ _ _ n=> .dead n t| .dead n t=> .dead n t
def Z5 (U:Zu D) (t:Nat) (l:List (D t)):List (AV D):=l.flatMap (U.cells t)
def Zf.flat (U:Zu D):Zf D→List (AV D)| .arr t l _ _=>Z5 U t l| .box _ r _=>r|_=> []

structure Cap where
 n:Nat
 ns:Nat→Prop
instance :Coe Nat Cap:=⟨fun n=>⟨n,fun _=>False⟩⟩
structure Emb where
 m:Nat→Option (Nat×Cap)
 S:Nat→Prop

abbrev Z3 (D:Den):=List (Zf D)

def X3 (n:Nat) (v:Value):Option (Nat×Cap)→Prop
 |some (b,cap)=>v= .slice (some ⟨b,0,none⟩) n cap.n
 |none=>n=0∧∃a,v= .slice a 0 0
def XW (i off wd:Nat) (v:Value):Option (Nat×Cap)→Prop
 |some (b,_)=>v= .pointer (some ⟨b,i * wd+off,none⟩)
 |none=>False

def Z1L (U:Zu D) (E:Emb) (hp:Z3 D) (id n:Nat) (v:Value):Prop:=
 (∃a k c,v= .slice a k c)∧∃o,hp[id]?=some o∧n≤o.len∧(n=o.len→X3 n v (E.m id))
def Z1M (U:Zu D) (E:Emb) (hp:Z3 D) (id n i off:Nat) (v:Value):Prop:=
 (∃a,v= .pointer a)∧∃o,hp[id]?=some o∧n≤o.len∧(n=o.len→XW i off (o.wid U) v (E.m id))

def Z4d (off k:Nat) (v:Value):Option (Nat×Cap)→Prop
 |some (b,cap)=>(0<k→∃c,k≤c∧v= .slice (some ⟨b,off,none⟩) k c)∧(k=0→∃x c,v= .slice x 0 c)∧(off=0→v= .slice (some ⟨b,0,none⟩) k cap.n)
 |none=>k=0∧∃x c,v= .slice x 0 c
def Z1N (U:Zu D) (E:Emb) (hp:Z3 D) (id n a b:Nat) (v:Value):Prop:=
 (∃x k c,v= .slice x k c)∧∃o,hp[id]?=some o∧n≤o.len∧(n=o.len→a≤b∧b≤n∧Z4d (a * o.wid U) (b-a) v (E.m id))

inductive ZE (U:Zu D) (w:World) (S:Nat→Prop):Value→AV D→Prop where
 |un (x:Value):ZE U w S x .un
 |v (x:Value):ZE U w S x (.v x)
 |db (b:Bool):ZE U w S (.bool b) (.db b)
 |agg (vs:List Value) (cs:List (AV D)) (hl:vs.length=cs.length)
   (h:∀(k:Nat) x c,vs[k]?=some x→cs[k]?=some c→ZE U w S x c):ZE U w S (.agg ⟨vs⟩) (.agg cs)
 |tup (vs:List Value) (cs:List (AV D)) (hl:vs.length=cs.length)
   (h:∀(k:Nat) x c,vs[k]?=some x→cs[k]?=some c→ZE U w S x c):ZE U w S (.tuple ⟨vs⟩) (.tup cs)
 |sl (t:Nat) (l:List (D t)) (b off cap:Nat) (vs:Nat→Value) (hS:S b) (hcap:l.length≤cap)
   (hc:∀(k:Nat) c,(Z5 U t l)[k]?=some c→w.cell? ⟨b,off+k,none⟩=some (vs k))
   (h:∀(k:Nat) c,(Z5 U t l)[k]?=some c→ZE U w S (vs k) c):ZE U w S (.slice (some ⟨b,off,none⟩) l.length cap) (.sl t l)
 |sl0 (t:Nat) (a:Option Addr) (cap:Nat):ZE U w S (.slice a 0 cap) (.sl t [])
 |em (t:Nat) (a:Option Addr):ZE U w S (.slice a 0 0) (.em t)
 |sn (t:Nat) (l:List (D t)) (a:Option Addr) (len cap:Nat) (h:ZE U w S (.slice a len cap) (.sl t l)):ZE U w S (.slice a len cap) (.sn a.isNone t l)
 |rp (row:List (AV D)) (o b off:Nat) (vs:Nat→Value) (hS:S b)
   (hc:∀(k:Nat) c,row[k]?=some c→w.cell? ⟨b,off+k,none⟩=some (vs k))
   (h:∀(k:Nat) c,row[k]?=some c→ZE U w S (vs k) c):ZE U w S (.pointer (some ⟨b,off+o,none⟩)) (.rp row o)
 |fn (f:Fn) (vs ws:List Value) (first cap:List (AV D)) (hv:vs.length=first.length) (hw:ws.length=cap.length)
   (h1:∀(k:Nat) x c,vs[k]?=some x→first[k]?=some c→ZE U w S x c)
   (h2:∀(k:Nat) x c,ws[k]?=some x→cap[k]?=some c→ZE U w S x c):ZE U w S (.func f ⟨vs⟩ ⟨ws⟩) (.fn f first cap)

inductive Rep (U:Zu D) (w:World) (E:Emb) (hp:Z3 D):Value→AV D→Prop where
 |pure (x:Value) (a:AV D) (h:ZE U w E.S x a):Rep U w E hp x a
 |agg (vs:List Value) (cs:List (AV D)) (hl:vs.length=cs.length)
   (h:∀(k:Nat) x c,vs[k]?=some x→cs[k]?=some c→Rep U w E hp x c):Rep U w E hp (.agg ⟨vs⟩) (.agg cs)
 |tup (vs:List Value) (cs:List (AV D)) (hl:vs.length=cs.length)
   (h:∀(k:Nat) x c,vs[k]?=some x→cs[k]?=some c→Rep U w E hp x c):Rep U w E hp (.tuple ⟨vs⟩) (.tup cs)
 |os (id n:Nat) (x:Value) (h:Z1L U E hp id n x):Rep U w E hp x (.os id n)
 |op (id n i off:Nat) (x:Value) (h:Z1M U E hp id n i off x):Rep U w E hp x (.op id n i off)
 |oss (id n a b:Nat) (x:Value) (h:Z1N U E hp id n a b x):Rep U w E hp x (.oss id n a b)
 |fn (f:Fn) (vs ws:List Value) (first cap:List (AV D)) (hv:vs.length=first.length) (hw:ws.length=cap.length)
   (h1:∀(k:Nat) x c,vs[k]?=some x→first[k]?=some c→Rep U w E hp x c)
   (h2:∀(k:Nat) x c,ws[k]?=some x→cap[k]?=some c→Rep U w E hp x c):Rep U w E hp (.func f ⟨vs⟩ ⟨ws⟩) (.fn f first cap)

def ZW (U:Zu D) (w:World) (E:Emb) (hp:Z3 D) (vs:List Value) (cs:List (AV D)):Prop:=
 vs.length=cs.length∧∀(k:Nat) x c,vs[k]?=some x→cs[k]?=some c→Rep U w E hp x c
def YJ (U:Zu D) (w:World) (S:Nat→Prop) (vs:List Value) (cs:List (AV D)):Prop:=
 vs.length=cs.length∧∀(k:Nat) x c,vs[k]?=some x→cs[k]?=some c→ZE U w S x c

section
variable {U:Zu D} {w:World} {E:Emb} {hp:Z3 D}
theorem Rep.un (x:Value):Rep U w E hp x .un:= .pure _ _ (.un _)
theorem Rep.v (x:Value):Rep U w E hp x (.v x):= .pure _ _ (.v _)
theorem Rep.db (b:Bool):Rep U w E hp (.bool b) (.db b):= .pure _ _ (.db _)
theorem Rep.em (t:Nat) (a:Option Addr):Rep U w E hp (.slice a 0 0) (.em t):= .pure _ _ (.em _ _)
theorem YJ.rep {vs:List Value} {cs:List (AV D)} (h:YJ U w E.S vs cs):ZW U w E hp vs cs:=⟨h.1,fun k x c hx hc=> .pure _ _ (h.2 k x c hx hc)⟩
theorem Yo {x y:Value} (h:Rep U w E hp x (.v y)):x=y:=by
 cases h with
 |pure _ _ h=>cases h;rfl
theorem Z0b {x:Value} {b:Bool} (h:Rep U w E hp x (.v (.bool b))):x= .bool b:=Yo h
theorem Wy {x:Value} {b:Bool} (h:Rep U w E hp x (.db b)):x= .bool b:=by
 cases h with
 |pure _ _ h=>cases h;rfl
theorem Vv {x:Value} {cs:List (AV D)} (h:Rep U w E hp x (.agg cs)):∃vs:List Value,x= .agg ⟨vs⟩∧ZW U w E hp vs cs:=by
 cases h with
 |pure _ _ h=>cases h with
  |agg vs _ hl h=>exact⟨vs,rfl,YJ.rep ⟨hl,h⟩⟩
 |agg vs _ hl h=>exact⟨vs,rfl,hl,h⟩
theorem Z0c {x:Value} {cs:List (AV D)} (h:Rep U w E hp x (.tup cs)):∃vs:List Value,x= .tuple ⟨vs⟩∧ZW U w E hp vs cs:=by
 cases h with
 |pure _ _ h=>cases h with
  |tup vs _ hl h=>exact⟨vs,rfl,YJ.rep ⟨hl,h⟩⟩
 |tup vs _ hl h=>exact⟨vs,rfl,hl,h⟩
theorem Uz {x:Value} {f:Fn} {first cap:List (AV D)} (h:Rep U w E hp x (.fn f first cap)):
  ∃vs ws:List Value,x= .func f ⟨vs⟩ ⟨ws⟩∧ZW U w E hp vs first∧ZW U w E hp ws cap:=by
 cases h with
 |pure _ _ h=>cases h with
  |fn _ vs ws _ _ hv hw h1 h2=>exact⟨vs,ws,rfl,YJ.rep ⟨hv,h1⟩,YJ.rep ⟨hw,h2⟩⟩
 |fn _ vs ws _ _ hv hw h1 h2=>exact⟨vs,ws,rfl,⟨hv,h1⟩,⟨hw,h2⟩⟩
theorem Vw {x:Value} {t:Nat} {l:List (D t)} (h:Rep U w E hp x (.sl t l)):ZE U w E.S x (.sl t l):=by
 cases h with
 |pure _ _ h=>exact h
theorem UA {x:Value} {row:List (AV D)} {o:Nat} (h:Rep U w E hp x (.rp row o)):ZE U w E.S x (.rp row o):=by
 cases h with
 |pure _ _ h=>exact h
theorem WT {x:Value} {t:Nat} (h:Rep U w E hp x (.em t)):∃a,x= .slice a 0 0:=by
 cases h with
 |pure _ _ h=>cases h;exact⟨_,rfl⟩
theorem W1 {x:Value} {id n:Nat} (h:Rep U w E hp x (.os id n)):Z1L U E hp id n x:=by
 cases h with
 |pure _ _ h=>cases h
 |os _ _ _ h=>exact h
theorem Z0d {x:Value} {b:Bool} {t:Nat} {l:List (D t)} (h:Rep U w E hp x (.sn b t l)):∃a len cap,x= .slice a len cap∧b=a.isNone∧ZE U w E.S x (.sl t l):=by
 cases h with
 |pure _ _ h=>cases h with
  |sn _ _ a len cap h=>exact⟨a,len,cap,rfl,rfl,h⟩
theorem Vd {x:Value} {id n a b:Nat} (h:Rep U w E hp x (.oss id n a b)):Z1N U E hp id n a b x:=by
 cases h with
 |pure _ _ h=>cases h
 |oss _ _ _ _ _ h=>exact h
theorem Wz {x:Value} {id n i off:Nat} (h:Rep U w E hp x (.op id n i off)):Z1M U E hp id n i off x:=by
 cases h with
 |pure _ _ h=>cases h
 |op _ _ _ _ _ h=>exact h
end

abbrev VZ (x y:Option (Nat×Cap)):Prop:=(x.map fun q=>(q.1,q.2.n))=y.map fun q=>(q.1,q.2.n)
theorem Z6f {x y:Option (Nat×Cap)} (h:VZ x y):(x=none∧y=none)∨∃b c c',x=some (b,c)∧y=some (b,c')∧c.n=c'.n:=by
 cases x with
 |none=>cases y with
  |none=>exact .inl ⟨rfl,rfl⟩
  |some q=>simp[VZ]at h
 |some p=>cases y with
  |none=>simp[VZ]at h
  |some q=>
   simp only[VZ,Option.map_some,Option.some.injEq,Prod.mk.injEq]at h
   exact .inr ⟨q.1,p.2,q.2,by rw[←h.1],rfl,h.2⟩
def Evo (U:Zu D) (E:Emb) (hp:Z3 D) (E':Emb) (hp':Z3 D):Prop:=
 ∀id o,hp[id]?=some o→∃o',hp'[id]?=some o'∧o'.wid U=o.wid U∧o.len≤o'.len∧(o'.len=o.len→VZ (E'.m id) (E.m id))

theorem Evo.refl (U:Zu D) (E:Emb) (hp:Z3 D):Evo U E hp E hp:=fun id o h=>⟨o,h,rfl,Nat.le_refl _,fun _=>rfl⟩
theorem Evo.trans {U:Zu D} {E1 E2 E3:Emb} {h1 h2 h3:Z3 D} (a:Evo U E1 h1 E2 h2) (b:Evo U E2 h2 E3 h3):Evo U E1 h1 E3 h3:=by
 intro id o ho
 obtain⟨o2,h2',w2,l2,e2⟩:=a id o ho
 obtain⟨o3,h3',w3,l3,e3⟩:=b id o2 h2'
 refine⟨o3,h3',w3.trans w2,Nat.le_trans l2 l3,fun h=> ?_⟩
 have:o2.len=o.len:=by omega
 exact(e3 (by omega)).trans (e2 this)
theorem Zck {n:Nat} {v:Value} {x y:Option (Nat×Cap)} (h:VZ x y) (hy:X3 n v y):X3 n v x:=by
 rcases Z6f h with⟨rfl,rfl⟩|⟨b,c,c',rfl,rfl,e⟩
 ·exact hy
 ·simp only[X3]at hy⊢;rw[e];exact hy
theorem Zcl {i off wd:Nat} {v:Value} {x y:Option (Nat×Cap)} (h:VZ x y) (hy:XW i off wd v y):XW i off wd v x:=by
 rcases Z6f h with⟨rfl,rfl⟩|⟨b,c,c',rfl,rfl,e⟩ <;> exact hy
theorem Zcm {off k:Nat} {v:Value} {x y:Option (Nat×Cap)} (h:VZ x y) (hy:Z4d off k v y):Z4d off k v x:=by
 rcases Z6f h with⟨rfl,rfl⟩|⟨b,c,c',rfl,rfl,e⟩
 ·exact hy
 ·simp only[Z4d]at hy⊢;rw[e];exact hy

theorem Z8H {w w':World} {b:Nat} (h:w'.heap[b]?=w.heap[b]?) (o:Nat):w'.cell? ⟨b,o,none⟩=w.cell? ⟨b,o,none⟩:=by
 simp[World.cell?,h]

theorem Z1L.mono {U:Zu D} {E E':Emb} {hp hp':Z3 D} (hO:Evo U E hp E' hp') {id n:Nat} {v:Value} (h:Z1L U E hp id n v):Z1L U E' hp' id n v:=by
 obtain⟨hv,o,ho,hn,hh⟩:=h
 obtain⟨o',ho',hw,hl,he⟩:=hO id o ho
 refine⟨hv,o',ho',by omega,fun e=> ?_⟩
 exact Zck (he (by omega)) (hh (by omega))
theorem Z1M.mono {U:Zu D} {E E':Emb} {hp hp':Z3 D} (hO:Evo U E hp E' hp') {id n i off:Nat} {v:Value} (h:Z1M U E hp id n i off v):Z1M U E' hp' id n i off v:=by
 obtain⟨hv,o,ho,hn,hh⟩:=h
 obtain⟨o',ho',hw,hl,he⟩:=hO id o ho
 refine⟨hv,o',ho',by omega,fun e=> ?_⟩
 rw[hw];exact Zcl (he (by omega)) (hh (by omega))

theorem Z1N.mono {U:Zu D} {E E':Emb} {hp hp':Z3 D} (hO:Evo U E hp E' hp') {id n a b:Nat} {v:Value} (h:Z1N U E hp id n a b v):Z1N U E' hp' id n a b v:=by
 obtain⟨hv,o,ho,hn,hh⟩:=h
 obtain⟨o',ho',hw,hl,he⟩:=hO id o ho
 refine⟨hv,o',ho',by omega,fun e=> ?_⟩
 obtain⟨g1,g2,g3⟩:=hh (by omega)
 rw[hw];exact⟨g1,g2,Zcm (he (by omega)) g3⟩

theorem ZE.mono {U:Zu D} {w w':World} {S S':Nat→Prop} (hS:∀b,S b→S' b) (hw:∀b,S b→w'.heap[b]?=w.heap[b]?)
  {x:Value} {a:AV D} (h:ZE U w S x a):ZE U w' S' x a:=by
 induction h with
 |un x=>exact .un x
 |v x=>exact .v x
 |db b=>exact .db b
 |agg vs cs hl h ih=>exact .agg vs cs hl ih
 |tup vs cs hl h ih=>exact .tup vs cs hl ih
 |sl t l b off cap vs hb hcap hc h ih=>exact .sl t l b off cap vs (hS b hb) hcap (fun k c hk=>by rw[Z8H (hw b hb)];exact hc k c hk) ih
 |sl0 t a cap=>exact .sl0 t a cap
 |em t a=>exact .em t a
 |sn t l a len cap h ih=>exact .sn t l a len cap ih
 |rp row o b off vs hb hc h ih=>exact .rp row o b off vs (hS b hb) (fun k c hk=>by rw[Z8H (hw b hb)];exact hc k c hk) ih
 |fn f vs ws first cap hv hw h1 h2 i1 i2=>exact .fn f vs ws first cap hv hw i1 i2

theorem Rep.mono {U:Zu D} {w w':World} {E E':Emb} {hp hp':Z3 D} (hS:∀b,E.S b→E'.S b) (hw:∀b,E.S b→w'.heap[b]?=w.heap[b]?)
  (hO:Evo U E hp E' hp') {x:Value} {a:AV D} (h:Rep U w E hp x a):Rep U w' E' hp' x a:=by
 induction h with
 |pure x a h=>exact .pure _ _ (h.mono hS hw)
 |agg vs cs hl h ih=>exact .agg vs cs hl ih
 |tup vs cs hl h ih=>exact .tup vs cs hl ih
 |os id n x h=>exact .os id n x (h.mono hO)
 |op id n i off x h=>exact .op id n i off x (h.mono hO)
 |oss id n a b x h=>exact .oss id n a b x (h.mono hO)
 |fn f vs ws first cap hv hw h1 h2 i1 i2=>exact .fn f vs ws first cap hv hw i1 i2

def WA (U:Zu D) (w:World) (E:Emb) (hp:Z3 D):Zf D→Value→AV D→Prop
 | .arr _ _ _ _,x,a=>ZE U w E.S x a
 |_,x,a=>Rep U w E hp x a
theorem WA.rep {U:Zu D} {w:World} {E:Emb} {hp:Z3 D} {o:Zf D} {x:Value} {a:AV D} (h:WA U w E hp o x a):Rep U w E hp x a:=by
 cases o with
 |arr=>exact .pure _ _ h
 |_=>exact h
theorem WA.mono {U:Zu D} {w w':World} {E E':Emb} {hp hp':Z3 D} {o:Zf D} {x:Value} {a:AV D} (h1:∀x a,ZE U w E.S x a→ZE U w' E'.S x a)
  (h2:∀x a,Rep U w E hp x a→Rep U w' E' hp' x a) (h:WA U w E hp o x a):WA U w' E' hp' o x a:=by
 cases o with
 |arr=>exact h1 _ _ h
 |_=>exact h2 _ _ h

def Blk (E:Emb) (id b:Nat):Prop:=∃b0 cap,E.m id=some (b0,cap)∧(b=b0∨cap.ns b)
def Own (E:Emb) (hp:Z3 D) (b:Nat):Prop:=∃id o,hp[id]?=some o∧o.fz=false∧Blk E id b

def WU (U:Zu D) (cap sz:Nat):Zf D→Prop
 | .arr t l n _=>sz=cap * U.width t∧l.length≤cap∧n=l.length
 | .box _ r _=>sz=r.length
 | .dp t l pm _ n=>sz=cap * U.width t∧l.length≤cap∧n=l.length∧pm.length=l.length
 | .dead _ _=>True

def Z1O (U:Zu D) (w:World) (S:Nat→Prop) (qj:Option (Nat×Nat)) (v:Value):AV D→Prop
 | .sl e l=>match qj with
  |none=>l= []∧∃a,v= .slice a 0 0
  |some (b,k)=>v= .slice (some ⟨b,0,none⟩) l.length k∧∃(c:List Value) (e':Nat),(w.heap[b]?=some (.cells ⟨c⟩ e' (0,0))∧e'=e)∧c.length=k * U.width e∧l.length≤k∧
    ∀(i:Nat) a,(Z5 U e l)[i]?=some a→∃x,c[i]?=some x∧ZE U w S x a
 |a=>qj=none∧ZE U w S v a
def DpC (U:Zu D) (w:World) (E:Emb) (hp:Z3 D) (b:Nat) (cap:Cap) (c:List Value) (e:Nat):Zf D→Prop
 | .dp t l pm op n=>e=t∧(∀i row,op=some (i,row)→i<l.length∧row.length=U.width t∧∀k a,row[k]?=some a→∃x,c[i * U.width t+k]?=some x∧Rep U w E hp x a)∧
   ∃q:Nat→Option (Nat×Nat),(∀j b' k,q j=some (b',k)→cap.ns b'∧b'≠b)∧(∀j j' b' k k',q j=some (b',k)→q j'=some (b',k')→j=j')∧
    ∀i x,l[i]?=some x→(∀row,op≠some (i,row))→∀k a,(U.cells t x)[k]?=some a→∃v,c[i * U.width t+k]?=some v∧
     (pm[i]?=some true→Z1O U w E.S (q (i * U.width t+k)) v a)∧(pm[i]?=some false→ZE U w E.S v a)
 | .box e' _ f=>f=false→e=e'
 | .arr t _ _ f=>f=false→e=t
 |_=>True
def Zf.isNil:Zf D→Prop
 | .arr _ l n _=>l= []∧n=0
 | .dp _ l pm op n=>l= []∧pm= []∧op=none∧n=0
 | .dead _ _=>True
 | .box _ _ _=>False

def Vx (U:Zu D) (w:World) (E:Emb) (hp:Z3 D) (o:Zf D):Option (Nat×Cap)→Prop
 |none=>o.isNil
 |some (b,cap)=>∃(c:List Value) (e:Nat),w.heap[b]?=some (.cells ⟨c⟩ e (0,0))∧WU U cap.n c.length o∧
   (∀(k:Nat) a,(o.flat U)[k]?=some a→∃x,c[k]?=some x∧WA U w E hp o x a)∧(o.fz=true→E.S b)∧(o.fz=false→¬E.S b)∧
   (o.fz=false→∀b',cap.ns b'→b'<w.heap.size∧¬E.S b')∧DpC U w E hp b cap c e o

variable [Gl D]

structure Inv (U:Zu D) (w:World) (E:Emb) (hp:Z3 D):Prop where
 obj:∀id o,hp[id]?=some o→Vx U w E hp o (E.m id)
 inj:∀i j oi oj b,hp[i]?=some oi→hp[j]?=some oj→oi.fz=false→oj.fz=false→Blk E i b→Blk E j b→i=j
 sb:∀b,E.S b→b<w.heap.size
 gl:∀g r,Gl.row (D:=D) g=some r→ZE U w E.S (.pointer (some ⟨g,0,none⟩)) (.rp r 0)

structure Zg (U:Zu D) (w:World) (E:Emb) (hp:Z3 D) (w':World) (E':Emb) (hp':Z3 D):Prop where
 os:w'.os=w.os
 tape:w'.tape=w.tape
 output:w'.output=w.output
 fz:∀a:Addr,a.block<w.heap.size→¬Own E hp a.block→w'.frozen? a=w.frozen? a
 size:w.heap.size≤w'.heap.size
 keep:∀b,b<w.heap.size→¬Own E hp b→w'.heap[b]?=w.heap[b]?
 own:∀b,b<w.heap.size→Own E' hp' b→Own E hp b
 smono:∀b,E.S b→E'.S b
 snew:∀b,E'.S b→E.S b∨Own E hp b∨w.heap.size≤b
 evo:Evo U E hp E' hp'

theorem Inv.blk {U:Zu D} {w:World} {E:Emb} {hp:Z3 D} (hi:Inv U w E hp) {id b:Nat} {o:Zf D} (ho:hp[id]?=some o) (hf:o.fz=false) (hb:Blk E id b):b<w.heap.size∧¬E.S b:=by
 obtain⟨b0,cap,hm,hb⟩:=hb
 have:=hi.obj id o ho
 rw[hm]at this
 obtain⟨c,e,h1,_,_,_,h5,h6,_⟩:=this
 rcases hb with rfl|hb
 ·exact⟨(Array.getElem?_eq_some_iff.1 h1).1,h5 hf⟩
 ·exact h6 hf b hb
theorem Blk.of {E:Emb} {id b:Nat} {cap:Cap} (h:E.m id=some (b,cap)):Blk E id b:=⟨b,cap,h, .inl rfl⟩
theorem Blk.congr {E E':Emb} {id id' b:Nat} (h:E'.m id'=E.m id) (hb:Blk E id b):Blk E' id' b:=by
 obtain⟨b0,cap,hm,hb⟩:=hb
 exact⟨b0,cap,h.trans hm,hb⟩
theorem Own.lt {U:Zu D} {w:World} {E:Emb} {hp:Z3 D} (hi:Inv U w E hp) {b:Nat} (h:Own E hp b):b<w.heap.size:=by
 obtain⟨id,o,ho,hf,hb⟩:=h
 exact(hi.blk ho hf hb).1
theorem Own.notS {U:Zu D} {w:World} {E:Emb} {hp:Z3 D} (hi:Inv U w E hp) {b:Nat} (h:Own E hp b):¬E.S b:=by
 obtain⟨id,o,ho,hf,hb⟩:=h
 exact(hi.blk ho hf hb).2

theorem Z0e (w:World) (c:Array Value) (e:Nat) (a:Addr):({ w with heap:=w.heap.push (.cells c e (0,0)) } :World).frozen? a=w.frozen? a:=by
 unfold World.frozen?
 simp only[Array.getElem?_push]
 by_cases h:a.block=w.heap.size
 ·rw[if_pos h,h];simp
 ·rw[if_neg h]
theorem Zg.refl (U:Zu D) (w:World) (E:Emb) (hp:Z3 D):Zg U w E hp w E hp:=
 ⟨rfl,rfl,rfl,fun _ _ _=>rfl,Nat.le_refl _,fun _ _ _=>rfl,fun _ _ h=>h,fun _ h=>h,fun _ h=> .inl h,Evo.refl U E hp⟩

theorem Zg.trans {U:Zu D} {w1 w2 w3:World} {E1 E2 E3:Emb} {h1 h2 h3:Z3 D} (a:Zg U w1 E1 h1 w2 E2 h2) (b:Zg U w2 E2 h2 w3 E3 h3):Zg U w1 E1 h1 w3 E3 h3 where
 os:=b.os.trans a.os
 tape:=b.tape.trans a.tape
 output:=b.output.trans a.output
 fz:=fun q hq ho=>(b.fz q (by have:=a.size;omega) (fun h=>ho (a.own q.block hq h))).trans (a.fz q hq ho)
 size:=Nat.le_trans a.size b.size
 keep:=fun k hk ho=>by
  rw[b.keep k (by have:=a.size;omega) (fun h=>ho (a.own k hk h)),a.keep k hk ho]
 own:=fun k hk h=>a.own k hk (b.own k (by have:=a.size;omega) h)
 smono:=fun k h=>b.smono k (a.smono k h)
 snew:=fun k h=>by
  rcases b.snew k h with h|h|h
  ·exact a.snew k h
  ·by_cases hk:k<w1.heap.size
   ·exact .inr (.inl (a.own k hk h))
   ·exact .inr (.inr (by omega))
  ·exact .inr (.inr (by have:=a.size;omega))
 evo:=a.evo.trans b.evo

theorem Zg.rep {U:Zu D} {w w':World} {E E':Emb} {hp hp':Z3 D} (hi:Inv U w E hp) (s:Zg U w E hp w' E' hp') {x:Value} {a:AV D} (h:Rep U w E hp x a):Rep U w' E' hp' x a:=
 h.mono s.smono (fun b hb=>s.keep b (hi.sb b hb) (fun ho=>ho.notS hi hb)) s.evo

theorem Wj {U:Zu D} {w:World} {E:Emb} {hp:Z3 D} (hi:Inv U w E hp) {id t n:Nat} {l:List (D t)} {f:Bool} (h:hp[id]?=some (.arr t l n f)):n=l.length:=by
 have:=hi.obj id _ h
 cases hm:E.m id with
 |none=>
  rw[hm]at this
  obtain⟨rfl,rfl⟩:=this
  rfl
 |some q=>
  obtain⟨b,cap⟩:=q
  rw[hm]at this
  obtain⟨c,e,_,hc,_⟩:=this
  exact hc.2.2

theorem Zg.prep {U:Zu D} {w w':World} {E E':Emb} {hp hp':Z3 D} (hi:Inv U w E hp) (s:Zg U w E hp w' E' hp') {x:Value} {a:AV D} (h:ZE U w E.S x a):ZE U w' E'.S x a:=
 h.mono s.smono (fun b hb=>s.keep b (hi.sb b hb) (fun ho=>ho.notS hi hb))
theorem Inv.gl' {U:Zu D} {w w':World} {E E':Emb} {hp hp':Z3 D} (hi:Inv U w E hp) (s:Zg U w E hp w' E' hp'):∀g r,Gl.row (D:=D) g=some r→ZE U w' E'.S (.pointer (some ⟨g,0,none⟩)) (.rp r 0):=
 fun g r h=>s.prep hi (hi.gl g r h)
theorem Zg.crep {U:Zu D} {w w':World} {E E':Emb} {hp hp':Z3 D} (hi:Inv U w E hp) (s:Zg U w E hp w' E' hp') {o:Zf D} {x:Value} {a:AV D} (h:WA U w E hp o x a):WA U w' E' hp' o x a:=
 h.mono (fun _ _ h=>s.prep hi h) (fun _ _ h=>s.rep hi h)

end Go.Eng
