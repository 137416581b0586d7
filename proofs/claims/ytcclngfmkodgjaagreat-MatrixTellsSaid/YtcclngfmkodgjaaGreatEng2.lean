/- The engine, part 2: the abstract operations. -/
import Derived.Test.YtcclngfmkodgjaaGreatEng1
import Derived.Deep.AppendSrc
import Derived.Laws.Cells
import Derived.Laws.CopyRow
set_option linter.unusedVariables false
set_option linter.unusedSectionVars false
namespace Go.Eng
open Go
variable {D:Den} [Gl D]

abbrev Fr (D:Den):=List (Nat×AV D)
def ZL:Fr D→Nat→AV D
 | [],_=> .un
 |(k,a)::r,s=>match Nat.beq k s with|true=>a|false=>ZL r s

inductive Ex where
 |nor|exit (id:Nat)|ret

inductive Ans (D:Den):Type where
 |dec (b:Bool)
 |row (r:List (AV D))
 |obj (ids:List Nat) (o:Zf D)
 |sl (a:AV D)
 |callv (r:AV D)
 |callf (ids:List Nat) (r:AV D)
 |callm (ids:List Nat) (r:AV D) (h:Z3 D)
 |sum (live:List Nat) (ids:List Nat) (ex:Ex) (fr:Fr D) (hp:Z3 D)
 |cut (live:List Nat) (ids:List Nat) (ex:Ex) (fr:Fr D) (hp:Z3 D)
 |skp
 |frz (ids:List Nat)
 |callo (r:AV D) (h:Z3 D)
 |gdp (id:Nat)
 |gop (id i:Nat) (b:Bool) (row:List (AV D))
 |gcl (id:Nat) (b:Bool) (o:Zf D)
 |gfz (id:Nat)

structure Res (D:Den):Type where
 obl:List Prop
 val:AV D
 hp:Z3 D
 pi:List (Ans D)

def ZD:List Prop→Prop
 | []=>True
 |p::r=>p∧ZD r
theorem YG {a b:List Prop} :ZD (a++b)↔ZD a∧ZD b:=by
 induction a with
 |nil=>simp[ZD]
 |cons p r ih=>simp[ZD,ih,and_assoc]

def Z6g:Value→AV D
 | .bool b=> .db b
 |x=> .v x
def UB (P:Program):Nat→Nat→List (Option Nat)
 |0,_=> []
 |n+1,t=>match P.underlying t with
  |some (.slice e)=> [some e]
  |some (.struct fs)=>fs.toList.flatMap fun f=>UB P n f.type
  |some (.array k e)=>(List.replicate k (UB P n e)).flatten
  |_=> [none]
def zc1:Value→List (Option Nat)→AV D
 | .slice none 0 0,some e::_=> .em e
 |x,_=>Z6g x
def U0:List Value→List (Option Nat)→List (AV D)
 |x::r,k=>zc1 x k::U0 r k.tail
 | [],_=> []
def Z6h (P:Program) (ty:Nat):Value→AV D
 | .slice none 0 0=>match P.underlying ty with|some (.slice e)=> .em e|_=> .v (.slice none 0 0)
 | .bool b=> .db b
 | .agg cs=> .agg (U0 cs.toList (UB P 10 ty))
 |x=> .v x
def Zv (P:Program) (fr:Fr D) (ty:Nat):Operand→AV D
 | .tmp t=>ZL fr t
 | .const x=>Z6h P ty x
 | .global g=>match Gl.row (D:=D) g with|some r=> .rp r 0|none=> .un
 | .func f=> .fn (.func f) [] []
def ZH:AV D→List (AV D)
 | .agg cs=>cs
 |a=> [a]
def toV:AV D→Option Value
 | .v x=>some x
 | .db b=>some (.bool b)
 |_=>none
def X7:AV D→Bool
 | .un=>false
 | .v (.agg _)=>false
 |_=>true
def UC {α:Type} (P:Program):Sem α→Option α
 | .pure a=>some a
 | .program k=>UC P (k P)
 |_=>none
theorem Z6i {α:Type} {P:Program} {s:Sem α} {a:α} (h:UC P s=some a) (w:World):s.run P w= .ok a w:=by
 induction s with
 |pure x=>simp[UC]at h;simp[h]
 |program k ih=>simp only[UC]at h;simpa[Sem.run]using ih P h
 |_=>simp[UC]at h

def Xy (P:Program) (t:Nat):Option (AV D):=
 match P.info? t with
 |some i=>match i.zero with
  |some (.agg cs)=>some (.agg (U0 cs.toList (UB P 10 t)))
  |some x=>match U0 [x] (UB P 10 t)with
   | [a]=>some a
   |_=>none
  |none=>none
 |none=>none

def YB:Nat→List (AV D)→Z3 D×List (AV D)
 |_,[]=>([],[])
 |n, .em t::r=>match YB (n+1) r with|(a,b)=>(.arr t [] 0 false::a, .os n 0::b)
 |n,a::r=>match YB n r with|(x,y)=>(x,a::y)

def Wk (hp:Z3 D) (e:Nat) (a:AV D) (π:List (Ans D)):Res D:=
 match YB hp.length (ZH a)with
 |(news,row)=>⟨[], .op (hp.length+news.length) 1 0 0,hp++news++ [.box e row false],π⟩

def Z6j (P:Program) (s f:Nat):Option Nat:=
 match P.underlying s with
 |some (.struct fs)=>match fs[f]? with
  |some fd=>match P.cellsOf fd.type with
   |0=>none
   |_=>some fd.offset
  |none=>none
 |_=>none
def Z1P (P:Program) (t:Nat):Option Bool:=
 match P.underlying t with
 |some (.struct _)=>some true
 |some (.array _ _)=>some true
 |some _=>some false
 |none=>none
def ZT (P:Program) (t:Nat):Option Nat:=(P.info? t).map (·.size)

def ld (P:Program) (t off:Nat) (row:List (AV D)):Option (AV D):=
 match Z1P P t with
 |some true=>match ZT P t with
  |some n=>match Nat.ble (off+n) row.length with
   |true=>some (.agg ((row.drop off).take n))
   |false=>none
  |none=>none
 |some false=>row[off]?
 |none=>none

def Z0f (P:Program) (U:Zu D) (hp:Z3 D) (t:Nat) (π:List (Ans D)):AV D→Option (Res D)
 | .rp row off=>match ld P t off row with
  |some a=>some ⟨[],a,hp,π⟩
  |none=>none
 | .op id n i off=>match hp[id]? with
  |some (.box _ row _)=>match Nat.beq n 1 with
   |true=>match Nat.beq i 0 with
    |true=>match ld P t off row with
     |some a=>some ⟨[],a,hp,π⟩
     |none=>none
    |false=>none
   |false=>none
  |some (.arr e l ln _)=>match π with
   | .row r::π'=>match ld P t off r with
    |some a=>some ⟨[n=ln∧∃x,l[i]?=some x∧U.cells e x=r],a,hp,π'⟩
    |none=>none
   |_=>none
  |some (.dp e l pm (some (i0,row)) ln)=>match ld P t off row with
   |some a=>some ⟨[n=ln∧i=i0],a,hp,π⟩
   |none=>none
  |_=>none
 |_=>none

def splice (row:List (AV D)) (off:Nat) (cs:List (AV D)):List (AV D):=row.take off++cs++row.drop (off+cs.length)

def vw (hp:Z3 D) (ids:List Nat):Nat→AV D→List Prop×AV D
 |0,_=>([], .un)
 |k+1, .os id n=>match ids.contains id with
  |true=>match hp[id]? with
   |some (.arr t l ln _)=>([n=ln], .sl t l)
   |_=>([], .un)
  |false=>([], .un)
 |k+1, .op id n i off=>match ids.contains id with
  |true=>match hp[id]? with
   |some (.box e row _)=>match Nat.beq n 1 with
    |true=>match Nat.beq i 0 with
     |true=>((row.map (vw hp ids k)).flatMap (·.1), .rp ((row.map (vw hp ids k)).map (·.2)) off)
     |false=>([], .un)
    |false=>([], .un)
   |_=>([], .un)
  |false=>([], .un)
 |k+1, .agg cs=>((cs.map (vw hp ids k)).flatMap (·.1), .agg ((cs.map (vw hp ids k)).map (·.2)))
 |k+1, .tup cs=>((cs.map (vw hp ids k)).flatMap (·.1), .tup ((cs.map (vw hp ids k)).map (·.2)))
 |k+1, .fn f a b=>((a.map (vw hp ids k)).flatMap (·.1)++(b.map (vw hp ids k)).flatMap (·.1), .fn f ((a.map (vw hp ids k)).map (·.2)) ((b.map (vw hp ids k)).map (·.2)))
 |k+1, .em t=>([], .sl t [])
 |k+1, .sn _ t l=>([], .sl t l)
 |k+1, .oss id n a b=>match ids.contains id with
  |true=>match hp[id]? with
   |some (.arr t l ln _)=>([n=ln], .sl t ((l.take b).drop a))
   |_=>([], .un)
  |false=>([], .un)
 |k+1, .db b=>([], .v (.bool b))
 |k+1, .rp row off=>([], .rp row off)
 |k+1,a=>([],a)
def Vy (hp:Z3 D) (ids:List Nat) (y:AV D):List Prop×AV D:=
 match ids,y with
 | [], .os id n=>match hp[id]? with
  |some (.arr t l ln _)=>([n=ln], .sl t l)
  |_=>([], .un)
 | [], .oss id n a b=>match hp[id]? with
  |some (.arr t l ln _)=>([n=ln], .sl t ((l.take b).drop a))
  |_=>([], .un)
 |ids,y=>vw hp ids 8 y
def vws (hp:Z3 D) (ids:List Nat) (cs:List (AV D)):List Prop×List (AV D):=((cs.map (vw hp ids 8)).flatMap (·.1),(cs.map (vw hp ids 8)).map (·.2))

def Wl:Z3 D→Nat→Z3 D
 | [],_=> []
 |o::r,0=>o.freeze::r
 |o::r,n+1=>o::Wl r n
def Y6 (hp:Z3 D):List Nat→Z3 D
 | []=>hp
 |i::r=>Y6 (Wl hp i) r
def ZC:Z3 D→Nat→Zf D→Z3 D
 | [],_,_=> []
 |_::r,0,x=>x::r
 |o::r,n+1,x=>o::ZC r n x

def Z6k (P:Program) (U:Zu D) (hp:Z3 D) (t:Nat) (x:AV D) (π:List (Ans D)):AV D→Option (Res D)
 | .op id n i off=>match ZT P t with
  |none=>none
  |some k=>match Nat.beq k (ZH x).length with
   |false=>none
   |true=>match hp[id]? with
    |some (.box e row false)=>match Nat.beq n 1,Nat.beq i 0,Nat.ble (off+k) row.length,(ZH x).all XP with
     |true,true,true,true=>match YB hp.length (ZH x)with
      |(news,cs)=>some ⟨[], .v (.tuple #[]),ZC hp id (.box e (splice row off cs) false)++news,π⟩
     |_,_,_,_=>none
    |some (.arr e l ln false)=>match π with
     | .row r:: .obj ids o'::π'=>match Nat.ble (off+k) r.length,(ZH x).all XP,ids.contains id with
      |true,true,false=>match vws hp ids (ZH x)with
       |(ps,cs)=>some ⟨(n=ln∧(∃x,l[i]?=some x∧U.cells e x=r)∧∃y:D e,o'= .arr e (l.set i y) ln false∧U.cells e y=splice r off cs)::ps, .v (.tuple #[]),ZC (Y6 hp ids) id o',π'⟩
      |_,_,_=>none
     |_=>none
    |some (.dp e l pm (some (i0,row)) ln)=>match Nat.ble (off+k) row.length,(ZH x).all XP with
     |true,true=>match YB hp.length (ZH x)with
      |(news,cs)=>some ⟨[n=ln∧i=i0], .v (.tuple #[]),ZC hp id (.dp e l pm (some (i0,splice row off cs)) ln)++news,π⟩
     |_,_=>none
    |_=>none
 |_=>none


def YK (P:Program) (t:Nat):Nat:=P.bytesOf t

def Z1Q (P:Program) (fs:Array Field):List (AV D)→List (Nat×AV D)→Option (List (AV D))
 |row,[]=>some row
 |row,(i,a)::r=>match fs[i]? with
  |some f=>match ZT P f.type with
   |some k=>match Nat.beq k (ZH a).length,Nat.ble (f.offset+k) row.length with
    |true,true=>Z1Q P fs (splice row f.offset (ZH a)) r
    |_,_=>none
   |none=>none
  |none=>none

def UD (w:Nat):Nat→List (Nat×AV D)→Bool
 |_,[]=>true
 |n,(i,a)::r=>match Nat.beq i n,Nat.beq (ZH a).length w with
  |true,true=>UD w (n+1) r
  |_,_=>false

def Z6l (P:Program) (t n e:Nat) (parts:List (Nat×AV D)):Option (AV D):=
 match Xy (D:=D) P t,ZT P e with
 |some z,some sz=>match X7 z,parts.all (fun q=>X7 q.2),UD sz 0 parts,Nat.beq (ZH z).length (parts.length * sz)with
  |true,true,true,true=>some (.agg (parts.flatMap fun q=>ZH q.2))
  |_,_,_,_=>none
 |_,_=>none

def Z6m (P:Program) (t:Nat) (parts:List (Nat×AV D)):Option (AV D):=
 match P.underlying t with
 |some (.struct fs)=>match Xy (D:=D) P t with
  |some z=>match X7 z,parts.all (fun q=>X7 q.2),fs.toList.all (fun f=>(P.info? f.type).isSome)with
   |true,true,true=>match Z1Q P fs (ZH z) parts with
    |some row=>some (.agg row)
    |none=>none
   |_,_,_=>none
  |none=>none
 |some (.array n e)=>Z6l P t n e parts
 |_=>none

def Z4e (P:Program) (op:BinOp) (xt:Nat) (a b:Value) (hp:Z3 D) (x y:Operand) (π:List (Ans D)):Option (Res D):=
 match op,a,b with
 | .quo, .int k m, .int k' n=>match k==k' with
  |true=>some ⟨[n≠0], .v (.int k (k.wrap (m.tdiv n))),hp,π⟩
  |false=>none
 | .rem, .int k m, .int k' n=>match k==k' with
  |true=>some ⟨[n≠0], .v (.int k (m.tmod n)),hp,π⟩
  |false=>none
 | .shl, .int k m, .int _ n=>some ⟨[0≤n], .v (.int k (k.wrap (m * 2 ^ (min n.toNat k.bits)))),hp,π⟩
 | .shr, .int k m, .int _ n=>some ⟨[0≤n], .v (.int k (m.fdiv (2 ^ (min n.toNat k.bits)))),hp,π⟩
 | .add, .string s, .string t=>some ⟨[((s.size+t.size:Nat):Int)≤IntKind.i64.max], .v (.string (s++t)),hp,π⟩
 |op,a,b=>match UC P (do eqGuard op xt x y a b;binOp op xt a b)with
  |some v=>some ⟨[], .v v,hp,π⟩
  |none=>none

def Ye (P:Program) (t:Nat):Option Nat:=
 match P.underlying t with
 |some (.slice e)=>some e
 |_=>none

def eqF (P:Program) (e:Nat→AV D→AV D→Option Bool) (xs ys:List (AV D)):List Field→Option Bool
 | []=>some true
 | f :: fs => match f.name == "_", ld P f.type f.offset xs, ld P f.type f.offset ys with
  |false,some a,some b=>match e f.type a b,eqF P e xs ys fs with
   |some r,some q=>some (r && q)
   |_,_=>none
  |_,_,_=>none
def eqV (P:Program) (t:Nat) (a b:AV D):Option Bool:=
 match toV a,toV b,P.underlying t with
 |some (.int k m),some (.int k' n),some (.int _)=>match k==k' with
  |true=>some (m==n)
  |false=>none
 |some (.bool m),some (.bool n),some .bool=>some (m==n)
 |some (.string m),some (.string n),some .string=>some (m.toList==n.toList)
 |_,_,_=>none
def eqC (P:Program):Nat→Nat→AV D→AV D→Option Bool
 |0,_,_,_=>none
 |k+1,t, .agg xs, .agg ys=>match P.underlying t,P.stoodInHeld t with
  |some (.struct fs),false=>eqF P (eqC P k) xs ys fs.toList
  |_,_=>none
 |_+1,t,a,b=>eqV P t a b
def Z6n:Operand→Bool
 | .const (.slice none 0 0)=>true
 |_=>false
def vld:Zf D→Nat→Option (List Prop)
 | .box _ _ _,n=>match Nat.beq n 1 with|true=>some []|false=>none
 | .arr _ _ ln _,n=>some [n=ln]
 | .dp _ _ _ _ ln,n=>some [n=ln]
 | .dead _ _,_=>none
def Z0g (P:Program) (t:Nat):Option Nat:=
 match P.underlying t with
 |some (.pointer e)=>match P.info? e with
  |some _=>some e
  |none=>none
 |_=>none
def Z4f (P:Program) (op:BinOp) (t:Nat) (a b:AV D) (y:Operand) (hp:Z3 D) (π:List (Ans D)):Option (Res D):=
 match a,b with
 | .agg xs, .agg ys=>match P.eqGuardType P.depth t,eqC P 10 t (.agg xs) (.agg ys),op with
  |false,some r, .eql=>some ⟨[], .v (.bool r),hp,π⟩
  |false,some r, .neq=>some ⟨[], .v (.bool !r),hp,π⟩
  |_,_,_=>none
 | .sn z _ _,_=>match Z6n y,Ye P t,op with
  |true,some _, .eql=>some ⟨[], .db z,hp,π⟩
  |true,some _, .neq=>some ⟨[], .db !z,hp,π⟩
  |_,_,_=>none
 | .op id n _ _, .v (.pointer none)=>match hp[id]?,Z0g P t,op with
  |some ob,some _, .eql=>match vld ob n with
   |some ps=>some ⟨ps, .db false,hp,π⟩
   |none=>none
  |some ob,some _, .neq=>match vld ob n with
   |some ps=>some ⟨ps, .db true,hp,π⟩
   |none=>none
  |_,_,_=>none
 | .op id n i off, .op id2 n2 i2 off2=>match Nat.beq id id2,Nat.beq i i2,Nat.beq off off2 with
  |true,true,true=>match hp[id]?,Z0g P t,op with
   |some ob,some _, .eql=>match vld ob n,vld ob n2 with
    |some ps,some qs=>some ⟨ps++qs, .db true,hp,π⟩
    |_,_=>none
   |some ob,some _, .neq=>match vld ob n,vld ob n2 with
    |some ps,some qs=>some ⟨ps++qs, .db false,hp,π⟩
    |_,_=>none
   |_,_,_=>none
  |_,_,_=>none
 |_,_=>none

def W2:Nat→AV D→Bool
 |_, .v _=>true
 |_, .db _=>true
 |n+1, .agg cs=>cs.all (W2 n)
 |n+1, .tup cs=>cs.all (W2 n)
 |_,_=>false

def idx (ids:List Nat) (j:Nat):Option Nat:=ids.findIdx? (Nat.beq j)

def ren (ρ:Nat→Option Nat):Nat→AV D→AV D
 |0,_=> .un
 |k+1, .os id n=>match ρ id with|some j=> .os j n|none=> .un
 |k+1, .op id n i off=>match ρ id with|some j=> .op j n i off|none=> .un
 |k+1, .oss id n a b=>match ρ id with|some j=> .oss j n a b|none=> .un
 |k+1, .agg cs=> .agg (cs.map (ren ρ k))
 |k+1, .tup cs=> .tup (cs.map (ren ρ k))
 |k+1, .fn f a b=> .fn f (a.map (ren ρ k)) (b.map (ren ρ k))
 |k+1, .db b=> .v (.bool b)
 |k+1,a=>a
def YL (ρ:Nat→Option Nat):Zf D→Zf D
 | .arr t l n f=> .arr t l n f
 | .box e row f=> .box e (row.map (ren ρ 8)) f
 | .dp t l pm op n=> .dp t l pm (op.map fun q=>(q.1,q.2.map (ren ρ 8))) n
 | .dead n t=> .dead n t
def sub (hp:Z3 D) (ρ:Nat→Option Nat):List Nat→Option (Z3 D)
 | []=>some []
 |i::r=>match hp[i]?,sub hp ρ r with
  |some o,some h=>some (YL ρ o::h)
  |_,_=>none


def Z4g (P : Program) (f : FuncId) : Prop := ∃ fn, P.funcs[f]? = some fn ∧ (fn.name == "runtime.NumGoroutine") = false ∧ fn.body.isNone = false

def Z7 (P:Program) (U:Zu D) (f:FuncId) (args:List (AV D)) (h:Z3 D) (r:AV D) (h':Z3 D):Prop:=
 Z4g P f∧∀(w:World) (E:Emb) (vs:List Value),Inv U w E h→ZW U w E h vs args→
  Calls P f ⟨vs⟩ w fun e w'=>∃v E',e= .returned v∧Inv U w' E' h'∧Zg U w E h w' E' h'∧Rep U w' E' h' v r

def W6 (P:Program) (fr:Fr D) (tys:List Nat):List Operand→List (AV D)
 | []=> []
 |x::r=>Zv P fr (tys.headD 0) x::W6 P fr tys.tail r

def Xl (ids:List Nat) (n j:Nat):Option Nat:=
 match ids[j]? with
 |some i=>some i
 |none=>some (n+(j-ids.length))
def TJ (ρ:Nat→Option Nat):Z3 D→List Nat→Z3 D→Option (Z3 D)
 |hp,[],h'=>some (hp++h'.map (YL ρ))
 |hp,i::r,o::h'=>TJ ρ (ZC hp i (YL ρ o)) r h'
 |_,_::_,[]=>none
def X4:List Nat→Bool
 | []=>true
 |a::r=> !r.contains a && X4 r

def Xe:AV D→Bool
 | .v _=>true
 |_=>false
def Vz:Nat→AV D→Bool
 |_, .v _=>true
 |_, .db _=>true
 |_, .os _ _=>true
 |n+1, .agg cs=>cs.all (Vz n)
 |n+1, .tup cs=>cs.all (Vz n)
 |_,_=>false
def TK (U:Zu D):Z3 D→Option (List Prop)
 | []=>some []
 | .arr t l _ false::r=>match TK U r with
  |some ps=>some (((Z5 U t l).all Xe=true)::ps)
  |none=>none
 |_::_=>none

def Z0h (P:Program) (U:Zu D) (hp:Z3 D) (args:List (AV D)) (π:List (Ans D)):AV D→Option (Res D)
 | .fn (.func k) first cap=>match π with
  | .callv r::π'=>match W2 4 r with
   |true=>match vws hp (List.range hp.length) (first++args++cap)with
    |(ps,as)=>some ⟨Z7 P U k as [] r []::ps,r,hp,π'⟩
   |false=>none
  | .callf ids r::π'=>match vws hp ids (first++args++cap)with
   |(ps,as)=>some ⟨Z7 P U k as [] r []::ps,r,Y6 hp ids,π'⟩
  | .callm ids r h'::π'=>match sub hp (idx ids) ids,X4 ids,Nat.ble ids.length h'.length with
   |some h,true,true=>match TJ (Xl ids hp.length) hp ids h' with
    |some hp'=>some ⟨[Z7 P U k ((first++args++cap).map (ren (idx ids) 8)) h r h'],ren (Xl ids hp.length) 8 r,hp',π'⟩
    |none=>none
   |_,_,_=>none
  | .callo r h'::π'=>match TK U h',Vz 4 r with
   |some qs,true=>match vws hp (List.range hp.length) (first++args++cap)with
    |(ps,as)=>some ⟨Z7 P U k as [] r h'::(qs++ps),ren (Xl [] hp.length) 8 r,hp++h'.map (YL (Xl [] hp.length)),π'⟩
   |_,_=>none
  |_=>none
 |_=>none

def vwk (hp:Z3 D) (ids:List Nat):Nat→AV D→List Prop×AV D
 |0,a=>([],a)
 |k+1, .os id n=>match ids.contains id with
  |true=>vw hp ids (k+1) (.os id n)
  |false=>([], .os id n)
 |k+1, .oss id n a b=>match ids.contains id with
  |true=>vw hp ids (k+1) (.oss id n a b)
  |false=>([], .oss id n a b)
 |k+1, .op id n i off=>match ids.contains id with
  |true=>vw hp ids (k+1) (.op id n i off)
  |false=>([], .op id n i off)
 |k+1, .agg cs=>((cs.map (vwk hp ids k)).flatMap (·.1), .agg ((cs.map (vwk hp ids k)).map (·.2)))
 |k+1, .tup cs=>((cs.map (vwk hp ids k)).flatMap (·.1), .tup ((cs.map (vwk hp ids k)).map (·.2)))
 |k+1, .fn f a b=>((a.map (vwk hp ids k)).flatMap (·.1)++(b.map (vwk hp ids k)).flatMap (·.1), .fn f ((a.map (vwk hp ids k)).map (·.2)) ((b.map (vwk hp ids k)).map (·.2)))
 |_+1, .db b=>([], .v (.bool b))
 |_+1, .em t=>([], .sl t [])
 |_+1,a=>([],a)
def Z6o (hp:Z3 D) (ids:List Nat) (cs:List (AV D)):List Prop×List (AV D):=((cs.map (vwk hp ids 8)).flatMap (·.1),(cs.map (vwk hp ids 8)).map (·.2))
def Z0i (P:Program) (U:Zu D) (hp:Z3 D) (args:List (AV D)) (π:List (Ans D)) (f:AV D):Option (Res D):=
 match π with
 | .frz fz::π'=>match Z6o hp fz args,vwk hp fz 8 f with
  |(ps,as),(qs,f')=>match Z0h P U (Y6 hp fz) as π' f' with
   |some r=>some ⟨ps++(qs++r.obl),r.val,r.hp,r.pi⟩
   |none=>none
 |π=>Z0h P U hp args π f

def Z1R (P:Program) (U:Zu D) (hp:Z3 D) (args:List (AV D)) (π:List (Ans D)) (f:AV D):Option (Res D):=
 match π with
 | .skp::π'=>Z0i P U (hp++(YB hp.length args).1) (YB hp.length args).2 π' f
 |π=>Z0i P U hp args π f

def Z4h (P:Program) (U:Zu D) (hp:Z3 D) (args:List (AV D)) (π:List (Ans D)) (f:AV D):Option (Res D):=
 match π with
 | .dec true::π'=>match f,args with
  | .fn (.func g) [] [],[a]=>match P.funcs[g]? with
   | some fn => some ⟨[(fn.name == "runtime.NumGoroutine") = false ∧ fn.body.isNone = true ∧ Extern.findNext fn = none ∧ Extern.find fn = some Extern.AbiNoEscape.same], a, hp, π'⟩
   |none=>none
  |_,_=>none
 |π=>Z1R P U hp args π f

def Z4i (P:Program) (U:Zu D) (hp:Z3 D) (x:AV D) (lo hi mx:Option (AV D)) (π:List (Ans D)):Option (Res D):=
 match mx,lo,hi with
 | some (.v (.int _ m)), lo, some (.v (.int _ h)) => match x with      -- s[:0:0]
  | .sl t l=>match lo with
   |none=>some ⟨[m=0,h=0], .em t,hp,π⟩
   |some (.v (.int _ l0))=>some ⟨[m=0,h=0,l0=0], .em t,hp,π⟩
   |_=>none
  | .em t=>match lo with
   |none=>some ⟨[m=0,h=0], .em t,hp,π⟩
   |some (.v (.int _ l0))=>some ⟨[m=0,h=0,l0=0], .em t,hp,π⟩
   |_=>none
  | .os id n=>match hp[id]? with
   |some (.arr t l ln _)=>match lo with
    |none=>some ⟨[m=0,h=0,n=ln], .em t,hp,π⟩
    |some (.v (.int _ l0))=>some ⟨[m=0,h=0,l0=0,n=ln], .em t,hp,π⟩
    |_=>none
   |_=>none
  |_=>none
 |_,_,_=>none

def Z4j (hp:Z3 D) (x:AV D) (lo hi mx:Option (AV D)) (π:List (Ans D)):Option (Res D):=
 match x,lo,hi,mx with
 | .os id n,some (.v (.int _ a)),some (.v (.int _ b)),some (.v (.int _ c))=>match hp[id]? with
  |some (.arr t l ln _)=>some ⟨[n=ln,0≤a∧a≤b∧b≤c∧c≤l.length], .un,hp,π⟩
  |_=>none
 |_,_,_,_=>none
def Z1S (P:Program) (U:Zu D) (hp:Z3 D) (x:AV D) (lo hi mx:Option (AV D)) (π:List (Ans D)):Option (Res D):=
 match π with
 | .frz []::π'=>Z4j hp x lo hi mx π'
 |π=>Z4i P U hp x lo hi mx π

def loV:Option (AV D)→Option Int
 |none=>some 0
 |some (.v (.int _ a))=>some a
 |_=>none
def hiV (n:Nat):Option (AV D)→Option Int
 |none=>some n
 |some (.v (.int _ a))=>some a
 |_=>none
def sliceB (U:Zu D) (sz:Nat) (hp:Z3 D) (x:AV D) (lo hi:Option (AV D)) (π:List (Ans D)):Option (Res D):=
 match x with
 | .sl t l=>match Nat.beq sz (U.width t),loV lo,hiV l.length hi with
  |true,some a,some b=>some ⟨[0≤a∧a≤b∧b≤l.length], .sl t ((l.take b.toNat).drop a.toNat),hp,π⟩
  |_,_,_=>none
 | .os id n=>match hp[id]? with
  |some (.arr t l ln _)=>match Nat.beq sz (U.width t),loV lo,hiV l.length hi with
   |true,some a,some b=>some ⟨[n=ln,0≤a∧a≤b∧b≤l.length], .oss id n a.toNat b.toNat,hp,π⟩
   |_,_,_=>none
  |_=>none
 | .oss id n a0 b0=>match hp[id]? with
  |some (.arr t l ln _)=>match Nat.beq sz (U.width t),Nat.beq a0 0,loV lo,hi with
   |true,true,some a,some (.v (.int k b))=>some ⟨[n=ln,0<l.length∧0≤a∧a≤b∧b≤l.length], .oss id n a.toNat b.toNat,hp,π⟩
   |_,_,_,_=>none
  |_=>none
 |_=>none
def Z4k (hp:Z3 D) (x:AV D) (lo hi:Option (AV D)) (π:List (Ans D)):Option (Res D):=
 match x with
 | .v (.string s)=>match loV lo,hiV s.size hi with
  |some a,some b=>some ⟨[0≤a∧a≤b∧b≤s.size], .v (.string (s.extract a.toNat b.toNat)),hp,π⟩
  |_,_=>none
 |_=>none
def Yr (s:ByteArray) (i:Int):Int:=((s[i.toNat]?).getD 0).toNat
def Ve (P:Program) (t:Nat):Bool:=match P.underlying t with|some .string=>true|_=>false

def Vf (D:Den) (P:Program) (e wd:Nat):Bool:=
 match Xy (D:=D) P e with
 |some z=>X7 z && Nat.beq (ZH z).length wd
 |none=>false

def Z6p (P:Program) (U:Zu D) (e:Nat) (hp:Z3 D) (x:AV D) (π:List (Ans D)):Option (Res D):=
 match x with
 | .oss id n a b=>match hp[id]? with
  |some (.arr t l ln false)=>match π with
   | .obj [] o'::π'=>match ZT P e,Xy (D:=D) P e,Vf D P e (U.width t)with
    |some sz,some z,true=>match Nat.beq sz (U.width t),vws hp [] (ZH z),(ZH z).all XP with
     |true,(ps,zc),true=>some ⟨(n=ln∧∃y:D t,o'= .arr t (l.take a++(List.replicate (b-a) y++l.drop b)) ln false∧U.cells t y=zc)::ps, .v (.tuple #[]),ZC hp id o',π'⟩
     |_,_,_=>none
    |_,_,_=>none
   |_=>none
  |_=>none
 |_=>none

def rdA (hp:Z3 D):AV D→Option (List Prop×AV D)
 | .sl t l=>some ([], .sl t l)
 | .em t=>some ([], .sl t [])
 | .sn _ t l=>some ([], .sl t l)
 | .os id n=>match hp[id]? with
  |some (.arr t l ln _)=>some ([n=ln], .sl t l)
  |_=>none
 | .oss id n a b=>match hp[id]? with
  |some (.arr t l ln _)=>some ([n=ln], .sl t ((l.take b).drop a))
  |_=>none
 |_=>none
def Z8I (hp:Z3 D):AV D→Option (Nat×Nat×Nat×Nat)
 | .os id n=>match hp[id]? with
  |some (.arr _ l _ _)=>some (id,n,0,l.length)
  |_=>none
 | .oss id n a b=>some (id,n,a,b)
 |_=>none
def Z6q (P:Program) (U:Zu D) (e:Nat) (hp:Z3 D) (x y:AV D) (π:List (Ans D)):Option (Res D):=
 match Z8I hp x,rdA hp y with
 |some (id,n,a,b),some (ps, .sl e2 l2)=>match hp[id]?,π with
  |some (.arr t l ln false), .obj [] o'::π'=>match ZT P e with
   |some sz=>match Nat.beq sz (U.width t),Nat.beq (U.width e2) (U.width t)with
    |true,true=>some ⟨(n=ln∧∃xs:List (D t),o'= .arr t (l.take a++(xs++l.drop (a+min l2.length (b-a)))) ln false∧Z5 U t xs=Z5 U e2 (l2.take (min l2.length (b-a))))::ps,
      .v (.int .i64 (min l2.length (b-a):Nat)),ZC hp id o',π'⟩
    |_,_=>none
   |none=>none
  |_,_=>none
 |_,_=>none
def Z8J (P:Program) (e:Nat):Bool:=match P.underlying e with|some (.int .u8)=>true|_=>false
def Z4l (P:Program) (U:Zu D) (hp:Z3 D) (s d:Nat) (x:AV D) (π:List (Ans D)):Option (Res D):=
 match rdA hp x,π with
 |some (ps, .sl t l), .callv (.v (.string str))::π'=>match Ye P s,Ve P d with
  |some e,true=>match Z8J P e,Nat.beq (U.width t) 1 with
   |true,true=>some ⟨(∃ns:List Int,Z5 U t l=ns.map (fun n=> .v (.int .u8 n))∧str=⟨(ns.map fun n=>UInt8.ofNat n.toNat).toArray⟩)::ps, .v (.string str),hp,π'⟩
   |_,_=>none
  |_,_=>none
 |_,_=>none

def Z6r (P:Program) (hp:Z3 D) (s d:Nat):AV D→Option (AV D)
 | .op id n i off=>match hp[id]?,Nat.beq n 1,Nat.beq i 0 with
  |some (.box e row false),true,true=>match P.underlying s,P.underlying d with
   |some (.pointer t),some .unsafePointer=>match P.info? t,Nat.ble (off+1) row.length with
    |some j,true=>match Nat.beq j.size 0 with
     |false=>some (.op id n i off)
     |true=>none
    |_,_=>none
   |some .unsafePointer,some (.pointer u)=>match P.info? u,liesAt P P.depth e (row.length / P.cellsOf e) off u 1 with
    |some _,true=>some (.op id n i off)
    |_,_=>none
   |_,_=>none
  |_,_,_=>none
 |_=>none

def Z6s (P:Program) (e:Nat):Option (AV D):=
 match P.info? e with
 |some i=>match i.zero with
  |some (.agg vs)=>some (.agg (vs.toList.map .v))
  |_=>none
 |none=>none
def Z4m (hp:Z3 D) (π:List (Ans D)):AV D→Option (Res D)
 | .os id n=>match hp[id]? with
  |some (.arr e l ln false)=>some ⟨[n=ln∧0<l.length], .op id n 0 0,hp,π⟩
  |_=>none
 | .v (.slice none 0 0)=>some ⟨[], .v (.pointer none),hp,π⟩
 |_=>none
def Z6t (P:Program) (U:Zu D) (pt:Nat) (hp:Z3 D) (x y:AV D) (π:List (Ans D)):Option (Res D):=
 match x,y with
 | .op id n i off, .v (.int .i64 m)=>match hp[id]?,π with
  |some (.arr e l ln false), .callv (.v (.string str))::π'=>match Z0g P pt,Nat.beq i 0,Nat.beq off 0,Nat.beq (P.cellsOf e) 1,Nat.beq (U.width e) 1 with
   |some e',true,true,true,true=>match Nat.beq e' e with
    |true=>some ⟨[n=ln∧m=(l.length:Int)∧0<l.length∧l.length≤9223372036854775807∧∃bs:List UInt8,Z5 U e l=bs.map (fun x=> .v (.int .u8 x.toNat))∧str=⟨bs.toArray⟩], .v (.string str),ZC hp id (.dead (ln+1) e),π'⟩
    |false=>none
   |_,_,_,_,_=>none
  |_,_=>none
 | .v (.pointer none), .v (.int .i64 0)=>some ⟨[], .v (.string .empty),hp,π⟩
 |_,_=>none
def Z6u (P:Program) (U:Zu D) (e t2:Nat) (hp:Z3 D) (x y:AV D) (π:List (Ans D)):Option (Res D):=
 match x,y,Ve P t2 with
 | .os id n, .v (.string s),true=>match hp[id]? with
  |some (.arr e' l ln false)=>match π with
   | .obj [] (.arr e4 l4 n4 false)::π'=>match ZT P e,Vf D P e (U.width e'),Nat.beq (U.width e') 1,Nat.beq e e' with
    |some sz,true,true,true=>match Nat.beq sz (U.width e')with
     |true=>some ⟨[n=ln∧n4=l.length+s.size∧(l.length+s.size) * YK P e≤140737488355328∧l.length+s.size<9223372036854775808∧∃xs,(.arr e4 l4 n4 false:Zf D)= .arr e' (l++xs) n4 false∧Z5 U e' xs=(byteCells s).map .v], .os id n4,ZC hp id (.arr e4 l4 n4 false),π'⟩
     |false=>none
    |_,_,_,_=>none
   |_=>none
  |_=>none
 | .v (.slice none 0 0), .v (.string s),true=>match π with
  | .obj [] (.arr e2 l n2 false)::π'=>match ZT P e,Vf D P e (U.width e2),Nat.beq (U.width e2) 1,Nat.beq e e2 with
   |some sz,true,true,true=>match Nat.beq sz (U.width e2)with
    |true=>some ⟨[0<s.size∧s.size * YK P e≤140737488355328∧s.size<9223372036854775808∧l.length=s.size∧n2=s.size∧Z5 U e2 l=(byteCells s).map .v], .os hp.length n2,hp++ [.arr e2 l n2 false],π'⟩
    |false=>none
   |_,_,_,_=>none
  |_=>none
 |_,_,_=>none

def Z4n (P:Program) (t i:Nat):Nat:=
 match P.underlying t with
 |some (.struct fs)=>((fs[i]?).map (·.type)).getD 0
 |_=>0

def Z4o (P:Program) (t:Nat):Option (Nat×Nat):=
 match P.underlying t with
 |some (.array n e)=>some (n,e)
 |_=>none
def Z4p (P:Program) (hp:Z3 D) (t:Nat) (n:Int) (π:List (Ans D)) (x:AV D):Option (Res D):=
 match Z4o P t,π with
 |some (len,e), .frz [k]::π'=>match ZT P e,Nat.ble (k+1) len with
  |some sz,true=>match x with
   | .rp row off=>some ⟨[n=(k:Int)], .rp row (off+k * sz),hp,π'⟩
   | .op id m i off=>match hp[id]? with
    |some ob=>match vld ob m with
     |some ps=>some ⟨(n=(k:Int))::ps, .op id m i (off+k * sz),hp,π'⟩
     |none=>none
    |none=>none
   |_=>none
  |_,_=>none
 |_,_=>none
def Z4q (P:Program) (hp:Z3 D) (t:Nat) (n:Int) (π:List (Ans D)) (cs:List (AV D)):Option (Res D):=
 match Z4o P t,π with
 |some (len,e), .frz [k]::π'=>match ZT P e,Nat.ble (k+1) len with
  |some sz,true=>match ld P e (k * sz) cs with
   |some a=>some ⟨[n=(k:Int)],a,hp,π'⟩
   |none=>none
  |_,_=>none
 |_,_=>none

def Z8K (ids:List Nat) (id n k:Nat):AV D:=match ids with| []=> .oss id n 0 k|_::_=> .os id n
def opA (P:Program) (U:Zu D) (fr:Fr D) (hp:Z3 D) (ty:Nat) (π:List (Ans D)):Op→Option (Res D)
 | .move x=>some ⟨[],Zv P fr ty x,hp,π⟩
 | .assign x=>match Zv P fr ty x with
  | .em t=>some ⟨[], .os hp.length 0,hp++ [.arr t [] 0 false],π⟩
  |a=>some ⟨[],a,hp,π⟩
 | .pick c a b=>match Zv P fr ty c with
  | .db t=>some ⟨[],match t with|true=>Zv P fr ty a|false=>Zv P fr ty b,hp,π⟩
  | .v (.bool t)=>match π with
   | .dec d::π'=>some ⟨[t=d],match d with|true=>Zv P fr ty a|false=>Zv P fr ty b,hp,π'⟩
   |_=>none
  |_=>none
 | .box e x=>match X7 (Zv P fr e x)with
  |true=>some (Wk hp e (Zv P fr e x) π)
  |false=>none
 | .alloc e=>match π with
  | .frz [7,7]::π'=>match Z6s P e with
   |some z=>match X7 z with
    |true=>some (Wk hp e z π')
    |false=>none
   |none=>none
  |π=>match Xy P e with
   |some z=>match X7 z with
    |true=>some (Wk hp e z π)
    |false=>none
   |none=>none
 | .fieldAddr s x f=>match Z6j P s f with
  |some o=>match Zv P fr ty x with
   | .rp row off=>some ⟨[], .rp row (off+o),hp,π⟩
   | .op id n i off=>match hp[id]? with
    |some ob=>match vld ob n with
     |some ps=>some ⟨ps, .op id n i (off+o),hp,π⟩
     |none=>none
    |none=>none
   |_=>none
  |none=>none
 | .indexAddr t x i=>match Ye P t,Zv P fr ty i with
  |some e, .v (.int k n)=>match Zv P fr ty x with
   | .sl t l=>match π with
    | .row r::π'=>match ZT P e with
     |some sz=>match Nat.beq sz (U.width t)with
      |true=>some ⟨[0≤n∧∃x,l[n.toNat]?=some x∧U.cells t x=r], .rp r 0,hp,π'⟩
      |false=>none
     |none=>none
    |_=>none
   | .os id m=>match hp[id]? with
    |some (.arr t l ln _)=>match ZT P e with
     |some sz=>match Nat.beq sz (U.width t)with
      |true=>some ⟨[m=ln∧0≤n∧n<l.length], .op id m n.toNat 0,hp,π⟩
      |false=>none
     |none=>none
    |some (.dp t l pm op ln)=>match ZT P e with
     |some sz=>match Nat.beq sz (U.width t)with
      |true=>some ⟨[m=ln∧0≤n∧n<l.length], .op id m n.toNat 0,hp,π⟩
      |false=>none
     |none=>none
    |_=>none
   |_=>none
  |none, .v (.int k n)=>Z4p P hp t n π (Zv P fr ty x)
  |_,_=>none
 | .load t x=>Z0f P U hp t π (Zv P fr ty x)
 | .store t p x=>Z6k P U hp t (Zv P fr t x) π (Zv P fr ty p)
 | .binOp op xt x y yt=>match toV (Zv P fr xt x),toV (Zv P fr yt y)with
  |some a,some b=>Z4e P op xt a b hp x y π
  |_,_=>Z4f P op xt (Zv P fr xt x) (Zv P fr yt y) y hp π
 | .unOp op xt x=>match toV (Zv P fr xt x)with
  |some a=>match UC P (Op.unary op a)with
   |some v=>some ⟨[], .v v,hp,π⟩
   |none=>none
  |none=>none
 | .convert src dst x=>match toV (Zv P fr src x)with
  |some a=>match UC P (convert src dst a)with
   |some v=>some ⟨[], .v v,hp,π⟩
   |none=>none
  |none=>match Z6r P hp src dst (Zv P fr src x)with
   |some a=>some ⟨[],a,hp,π⟩
   |none=>Z4l P U hp src dst (Zv P fr src x) π
 | .extract x i=>match Zv P fr ty x with
  | .tup cs=>match cs[i]? with
   |some a=>some ⟨[],a,hp,π⟩
   |none=>none
  |_=>none
 | .nilCheck x=>match Zv P fr ty x with
  | .rp row off=>some ⟨[], .rp row off,hp,π⟩
  | .op id n i off=>match hp[id]? with
   |some ob=>match vld ob n with
    |some ps=>some ⟨ps, .op id n i off,hp,π⟩
    |none=>none
   |none=>none
  | .fn (.func f) a b=>some ⟨[], .fn (.func f) a b,hp,π⟩
  |_=>none
 | .build t parts=>match Z6m P t (parts.toList.map fun q=>(q.1,Zv P fr (Z4n P t q.1) q.2))with
  |some a=>some ⟨[],a,hp,π⟩
  |none=>none
 | .buildSlice t n parts=>match Ye P t with
  |some e=>match π with
   | .obj ids (.arr e' l ln false)::π'=>match ZT P e,Nat.beq e e',UD (U.width e) 0 (parts.toList.map fun q=>(q.1,Zv P fr e q.2)),Nat.beq n parts.size,Nat.ble n 10000,Xy (D:=D) P e with
    |some sz,true,true,true,true,some _=>match Nat.beq sz (U.width e),Nat.ble sz 1000,vws hp ids ((parts.toList.map fun q=>(q.1,Zv P fr e q.2)).flatMap fun q=>ZH q.2)with
     |true,true,(ps,cs)=>match (((parts.toList.map fun q=>(q.1,Zv P fr e q.2)).flatMap fun q=>ZH q.2)).all XP with
      |true=>some ⟨(Z5 U e' l=cs∧l.length=n∧ln=n)::ps, .os hp.length ln,Y6 hp ids++ [.arr e' l ln false],π'⟩
      |false=>none
     |_,_,_=>none
    |_,_,_,_,_,_=>none
   |_=>none
  |none=>none
 | .makeFunc f first cap=>some ⟨[], .fn f (W6 P fr [] first.toList) (W6 P fr [] cap.toList),hp,π⟩
 | .makeSlice t l c=>match Ye P t,Zv P fr ty l,Zv P fr ty c with
  |some e, .v (.int .i64 n), .v (.int .i64 m)=>match π with
   | .obj ids (.arr e' l ln false)::π'=>match ZT P e,Xy (D:=D) P e,Nat.beq e e' with
    |some sz,some z,true=>match Nat.beq sz (U.width e),Vf D P e (U.width e),vws hp [] (ZH z)with
     |true,true,(ps,zc)=>some ⟨(0≤n∧n≤m∧m * YK P e≤140737488355328∧m<9223372036854775808∧∃y,l=List.replicate n.toNat y∧U.cells e' y=zc)::(ln=n.toNat)::ps, .os hp.length ln,hp++ [.arr e' l ln false],π'⟩
     |_,_,_=>none
    |_,_,_=>none
   |_=>none
  |_,_,_=>none
 | .slice t x lo hi mx=>match (Ye P t).bind (ZT P),mx with
  |some _,some m=>Z1S P U hp (Zv P fr ty x) (lo.map (Zv P fr ty)) (hi.map (Zv P fr ty)) (some (Zv P fr ty m)) π
  |some sz,none=>sliceB U sz hp (Zv P fr t x) (lo.map (Zv P fr ty)) (hi.map (Zv P fr ty)) π
  |none,none=>match Ve P t with
   |true=>Z4k hp (Zv P fr t x) (lo.map (Zv P fr ty)) (hi.map (Zv P fr ty)) π
   |false=>none
  |none,some _=>none
 | .index t x i=>match Ve P t,Zv P fr t x,Zv P fr ty i with
  |true, .v (.string s), .v (.int _ n)=>some ⟨[0≤n∧n<s.size], .v (.int .u8 (Yr s n)),hp,π⟩
  |false, .agg cs, .v (.int _ n)=>Z4q P hp t n π cs
  |_,_,_=>none
 | .call c=>match c.callee with
  | .value f=>Z4h P U hp (W6 P fr c.argTypes.toList c.args.toList) π (Zv P fr ty f)
  | .builtin .len=>match c.args.toList,c.argTypes.toList with
   | [x],[t]=>match P.underlying t,Zv P fr t x with
    |some (.slice _), .sl _ l=>some ⟨[], .v (.int .i64 l.length),hp,π⟩
    |some (.slice _), .em _=>some ⟨[], .v (.int .i64 0),hp,π⟩
    |some (.slice _), .v (.slice none 0 0)=>some ⟨[], .v (.int .i64 0),hp,π⟩
    |some (.slice _), .os id n=>match hp[id]? with
     |some (.arr _ _ ln _)=>some ⟨[n=ln], .v (.int .i64 n),hp,π⟩
     |some (.dp _ _ _ _ ln)=>some ⟨[n=ln], .v (.int .i64 n),hp,π⟩
     |_=>none
    |some (.slice _), .oss id n a b=>match hp[id]? with
     |some (.arr _ _ ln _)=>some ⟨[n=ln], .v (.int .i64 (b-a:Nat)),hp,π⟩
     |_=>none
    |some .string, .v (.string s)=>some ⟨[], .v (.int .i64 s.size),hp,π⟩
    |_,_=>none
   |_,_=>none
  | .builtin .append=>match c.args.toList,c.argTypes.toList with
   | [x,y],[t,t2]=>match Ye P t,Ye P t2 with
    |some e,none=>Z6u P U e t2 hp (Zv P fr t x) (Zv P fr t2 y) π
    |some e,some _=>match Zv P fr t x with
     | .os id n=>match hp[id]? with
      |some (.arr e' l ln false)=>match π with
       | .obj ids (.arr e4 l4 n4 false)::π'=>match ZT P e,Nat.beq e e',ids.contains id,Vy hp ids (Zv P fr t y)with
        |some sz,true,false,(ps, .sl e2 l2)=>match Nat.beq sz (U.width e'),Nat.beq (U.width e2) (U.width e'),Vf D P e (U.width e')with
         |true,true,true=>some ⟨(n=ln∧n4=l4.length∧(l.length+l2.length) * YK P e≤140737488355328∧l.length+l2.length<9223372036854775808∧∃xs,(.arr e4 l4 n4 false:Zf D)= .arr e' (l++xs) n4 false∧Z5 U e' xs=Z5 U e2 l2)::ps, .os id n4,ZC (Y6 hp ids) id (.arr e4 l4 n4 false),π'⟩
         |_,_,_=>none
        |_,_,_,_=>none
       |_=>none
      |_=>none
     | .em e'=>match π with
      | .obj ids (.arr e2 l n2 false)::π'=>match ZT P e,Nat.beq e e2,Vy hp ids (Zv P fr t y)with
        |some sz,true,(ps, .sl e3 l2)=>match Nat.beq sz (U.width e2),Nat.beq (U.width e3) (U.width e2),Vf D P e (U.width e2)with
         |true,true,true=>some ⟨(l2.length * YK P e≤140737488355328∧l2.length<9223372036854775808∧l.length=l2.length∧Z5 U e2 l=Z5 U e3 l2∧n2=l.length)::ps, .os hp.length n2,Y6 hp ids++ [.arr e2 l n2 false],π'⟩
         |_,_,_=>none
        |_,_,_=>none
      |_=>none
     | .oss id n a b=>match hp[id]? with
      |some (.arr e' l ln false)=>match π with
       | .obj ids (.arr e4 l4 n4 false)::π'=>match ZT P e,Nat.beq a 0,Vy hp [] (Zv P fr t y)with
        |some sz,true,(ps, .sl e2 l2)=>match Nat.beq sz (U.width e'),Nat.beq (U.width e2) (U.width e')with
         |true,true=>some ⟨(n=ln∧n4=ln∧0<l.length∧b+l2.length≤l.length∧(ids= []∨b+l2.length=l.length)∧∃xs,(.arr e4 l4 n4 false:Zf D)= .arr e' (l.take b++(xs++l.drop (b+l2.length))) n4 false∧Z5 U e' xs=Z5 U e2 l2)::ps,Z8K ids id n (b+l2.length),ZC hp id (.arr e4 l4 n4 false),π'⟩
         |_,_=>none
        |_,_,_=>none
       |_=>none
      |_=>none
     |_=>none
    |_,_=>none
   |_,_=>none
  | .builtin .unsafeSliceData=>match c.args.toList,c.argTypes.toList with
   | [x],[t]=>Z4m hp π (Zv P fr t x)
   |_,_=>none
  | .builtin .unsafeString=>match c.args.toList,c.argTypes.toList with
   | [x,y],[t,t2]=>Z6t P U t hp (Zv P fr t x) (Zv P fr t2 y) π
   |_,_=>none
  | .builtin .clear=>match c.args.toList,c.argTypes.toList with
   | [x],[t]=>match Ye P t with
    |some e=>Z6p P U e hp (Zv P fr t x) π
    |none=>none
   |_,_=>none
  | .builtin .copy=>match c.args.toList,c.argTypes.toList with
   | [x,y],[t,t2]=>match Ye P t with
    |some e=>Z6q P U e hp (Zv P fr t x) (Zv P fr t2 y) π
    |none=>none
   |_,_=>none
  | .builtin .max=>match (W6 P fr c.argTypes.toList c.args.toList).map toV with
   | [some (.int k a),some (.int k' b)]=>match k==k' with
    |true=>some ⟨[], .v (.int k (if b>a then b else a)),hp,π⟩
    |false=>none
   |_=>none
  | .builtin .min=>match (W6 P fr c.argTypes.toList c.args.toList).map toV with
   | [some (.int k a),some (.int k' b)]=>match k==k' with
    |true=>some ⟨[], .v (.int k (if b<a then b else a)),hp,π⟩
    |false=>none
   |_=>none
  |_=>none
 |_=>none

def WH (fr:Fr D) (ops:List Oper) (π:List (Ans D)):Option (Nat×Bool)→Option (List Prop×Bool×Fr D×List (Ans D))
 |none=>some ([],true,fr,π)
 |some (j,want)=>match (ops[j]?).bind (·.dst)with
  |some d=>match ZL fr d with
   | .db b=>some ([],b==want,fr,π)
   | .v (.bool b)=>match π with
    | .dec c::π'=>some ([b=c],c==want,(d, .db c)::fr,π')
    |_=>none
   | .v (.tuple _)=>some ([],false,fr,π)
   |_=>none
  |none=>none

def Z0j (fr:Fr D):Option Nat→AV D→Fr D
 |none,_=>fr
 |some d,a=>(d,a)::fr

def Z6v (N:Nat):Option Nat→Bool
 |none=>true
 |some d=>Nat.ble (d+1) N

def VA (P:Program) (U:Zu D) (N:Nat) (all:List Oper):List Oper→Fr D→Z3 D→List (Ans D)→Option (List Prop×Fr D×Z3 D×List (Ans D))
 | [],fr,hp,π=>some ([],fr,hp,π)
 |o::rest,fr,hp,π=>match Z6v N o.dst with
  |false=>none
  |true=>match WH fr all π o.guard with
   |none=>none
   |some (ps,true,fr1,π1)=>match opA P U fr1 hp o.type π1 o.op with
    |none=>none
    |some r=>match VA P U N all rest (Z0j fr1 o.dst r.val) r.hp r.pi with
     |none=>none
     |some (qs,fr2,hp2,π2)=>some (ps++(r.obl++qs),fr2,hp2,π2)
   |some (ps,false,fr1,π1)=>match VA P U N all rest (Z0j fr1 o.dst (.v (.tuple #[]))) hp π1 with
     |none=>none
     |some (qs,fr2,hp2,π2)=>some (ps++qs,fr2,hp2,π2)

end Go.Eng
