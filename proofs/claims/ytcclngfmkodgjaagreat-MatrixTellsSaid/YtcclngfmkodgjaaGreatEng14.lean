/- The engine, part 14: words for the printed mirrors, and what their proofs use. -/
import Derived.Test.YtcclngfmkodgjaaGreatEng13
set_option linter.unusedVariables false
set_option linter.unusedSectionVars false
namespace Go.Eng
open Go
variable {D:Den} [Gl D]

/-! ### Words of the mirrors -/
def nth {α:Type} (l:List α) (i:Int):Option α:=if 0≤i then l[i.toNat]? else none
def ZdX (n j m:Nat):Bool:=decide (0<n∧j+m≤n)
def ZdY (n j m:Nat):Bool:=decide (0<n∧j+m=n)
def Z4Q (l:List ByteArray) (sep:ByteArray):ByteArray:=⟨(sep.data.toList.intercalate (l.map (·.data.toList))).toArray⟩
def Z4R (l:List ByteArray) (sep:ByteArray):Bool:=decide (0<l.length∧l.length≤140737488355328∧(sep.data.toList.intercalate (l.map (·.data.toList))).length≤140737488355328)
def lin {α:Type} (l:List α) (i:Int):Bool:=decide (0≤i∧i<l.length)
def ZZ {α:Type} (bytes:Nat) (l:List α):Bool:=decide (l.length * bytes≤140737488355328∧l.length<9223372036854775808)
def XY (bytes:Nat) (n m:Int):Bool:=decide (0≤n∧n≤m∧m * bytes≤140737488355328∧m<9223372036854775808)
def Z0y (n:Nat) (a b:Int):Bool:=decide (0≤a∧a≤b∧b≤n)
def Z4 (n:Int):Int:=IntKind.i64.wrap n
def Xc (n:Int):Int:=IntKind.u8.wrap n
def Xz (n:Int):Int:=IntKind.u32.wrap n
def Y0 (n:Int):Int:=IntKind.u64.wrap n
def VG (k:IntKind) (x y:Int):Int:=k.wrap (BitVec.ofInt k.bits x &&& BitVec.ofInt k.bits y).toNat
def Y2 (k:IntKind) (x y:Int):Int:=k.wrap (BitVec.ofInt k.bits x|||BitVec.ofInt k.bits y).toNat
def Z4S (k:IntKind) (x y:Int):Int:=k.wrap (BitVec.ofInt k.bits x ^^^ BitVec.ofInt k.bits y).toNat
def Z2g (k:IntKind) (x y:Int):Int:=k.wrap (BitVec.ofInt k.bits x &&& ~~~(BitVec.ofInt k.bits y)).toNat

def Yu (l:List Int):ByteArray:=⟨(l.map fun n=>UInt8.ofNat n.toNat).toArray⟩
def Ys (x y:ByteArray):Bool:=decide (((x.size+y.size:Nat):Int)≤IntKind.i64.max)
def Z2h (x y:ByteArray):Bool:=x.toList==y.toList
/-! ### What an argument's parts hold -/
def okI (k:IntKind) (n:Int):Prop:=k.min≤n∧n≤k.max
def okB (_:Bool):Prop:=True
def okS (s:ByteArray):Prop:=s.size≤maxLen
def okL {α:Type} (ok:α→Prop) (l:List α):Prop:=l.length≤maxLen∧∀x∈l,ok x

/-! ### What their proofs use -/
theorem Z1 {α:Type} {c:Bool} {a b x:α} (h:(if c=true then a else b)=x):(c=true∧a=x)∨(c=false∧b=x):=by
 cases c
 ·exact .inr ⟨rfl,by simpa using h⟩
 ·exact .inl ⟨rfl,by simpa using h⟩
theorem ZdZ {α β:Type} {o:Option α} {f:α→Option β} {r:β} (h:o.bind f=some r):∃v,o=some v∧f v=some r:=Option.bind_eq_some_iff.1 h
theorem pn:ZD []:=trivial
theorem pc {p:Prop} {ps:List Prop} (h:p) (hs:ZD ps):ZD (p::ps):=⟨h,hs⟩
theorem ZV {α:Type} {l:List α} {i:Int} {v:α} (h:nth l i=some v):0≤i∧l[i.toNat]?=some v:=by
 unfold nth at h;split at h
 ·exact⟨by assumption,h⟩
 ·cases h
theorem Zz {α:Type} {l:List α} {i:Int} (h:lin l i=true):0≤i∧i<l.length:=of_decide_eq_true h
theorem Z4T {n:Nat} {a b:Int} (h:Z0y n a b=true):0≤a∧a≤b∧b≤n:=of_decide_eq_true h
theorem Z7f {n:Int} (h:(n !=0)=true):n≠0:=by simpa using h

def Zs:Code→List Nat→Code
 | .seq a _,0::p=>Zs a p
 | .seq _ b,_::p=>Zs b p
 | .cond _ a _,0::p=>Zs a p
 | .cond _ _ b,_::p=>Zs b p
 | .block _ b,_::p=>Zs b p
 | .loop b,_::p=>Zs b p
 | .scope b,_::p=>Zs b p
 |c,_=>c
def Zt (f:Func):Code:=f.body.getD .skip

section
variable {P:Program} {U:Zu D} {k N:Nat}
theorem Ze0 {σ ρ:Type} {b:Code} (f:σ→Option (σ⊕ρ)) (embF:σ→Fr D) (embH:σ→Z3 D) (exO:ρ→Ex) (outF:ρ→Fr D) (outH:ρ→Z3 D)
  (hround:∀s q,f s=some q→YE P U k N b (embF s) (embH s) (match q with| .inl _=> .nor| .inr r=>exO r) (match q with| .inl s'=>embF s'| .inr r=>outF r) (match q with| .inl s'=>embH s'| .inr r=>outH r))
  (hne:∀r,exO r≠ .nor) {s:σ} {r:ρ} (h:Z8 f s=some r):YE P U k N (.loop b) (embF s) (embH s) (exO r) (outF r) (outH r):=
 ZdR f embF embH exO outF outH (fun s s' h=>hround s (.inl s') h) (fun s r h=>hround s (.inr r) h) hne h
def Zx (P:Program) (U:Zu D) (k N:Nat) (b:Code) {σ ρ:Type} (f:σ→Option (σ⊕ρ)) (F:σ→Fr D) (H:σ→Z3 D) (x:ρ→Ex) (oF:ρ→Fr D) (oH:ρ→Z3 D):Prop:=
 ∀(s:σ) (r:ρ),Z8 f s=some r→YE P U k N (.loop b) (F s) (H s) (x r) (oF r) (oH r)
theorem Zy {σ ρ:Type} {b:Code} {f:σ→Option (σ⊕ρ)} {F:σ→Fr D} {H:σ→Z3 D} {x:ρ→Ex} {oF:ρ→Fr D} {oH:ρ→Z3 D}
  (hround:∀s q,f s=some q→YE P U k N b (F s) (H s) (match q with| .inl _=> .nor| .inr r=>x r) (match q with| .inl s'=>F s'| .inr r=>oF r) (match q with| .inl s'=>H s'| .inr r=>oH r))
  (hne:∀r,x r≠ .nor):Zx P U k N b f F H x oF oH:=fun _ _ h=>Ze0 f F H x oF oH hround hne h
end
end Go.Eng
