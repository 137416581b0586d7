/- Plain laws of chapter 03 (numbers as texts): a number written in decimal digits is read again. -/
import Derived.Test.YtcclngfmkodgjaaGreatEngGP1
set_option linter.unusedVariables false
set_option linter.unusedSectionVars false
set_option linter.unusedSimpArgs false
namespace Go.Eng
open Go Classical

def Xv (m:Nat):List Int:=if h:m<10 then [48+(m:Int)]else Xv (m / 10)++ [48+((m % 10:Nat):Int)]
termination_by m
decreasing_by omega
theorem Z5R {m:Nat} (h:m<10):Xv m= [48+(m:Int)]:=by rw[Xv,dif_pos h]
theorem Z87 {m:Nat} (h:10≤m):Xv m=Xv (m / 10)++ [48+((m % 10:Nat):Int)]:=by rw[Xv,dif_neg (by omega)]
theorem Tx:∀(k m:Nat),m<10 ^ (k+1)→(Xv m).length≤k+1∧1≤(Xv m).length
 |0,m,h=>by rw[Z5R (by omega)];simp
 |k+1,m,h=>by
  by_cases c:m<10
  ·rw[Z5R c];simp
  ·have:=Tx k (m / 10) (by rw[Nat.pow_succ]at h;omega)
   rw[Z87 (by omega)];simp;omega
theorem Z88 {a b:List Int} :Yu a++Yu b=Yu (a++b):=by
 unfold Yu
 apply ByteArray.ext
 simp
theorem Z02 {l:List Int} :(Yu l).size=l.length:=by
 show(Yu l).data.size=_
 unfold Yu
 simp
theorem Zbx {m:Nat} (hm:m≤9223372036854775808):Z1l (m:Int)=some (Yu (Xv m)):=by
 have hlen:=(Tx 19 m (by omega)).1
 obtain⟨⟨v,s⟩,e,w,hw,w10,t,ht,k3,k4⟩:=XE (f:=fun s:Int×ByteArray=>match s with|(v2,v3)=>QL v2 v3)
  (fun s=>∃(v:Nat) (t:List Int),s=((v:Int),Yu t)∧Xv m=Xv v++t∧v≤m)
  (fun r=>∃(v:Nat),r.1=(v:Int)∧v<10∧∃t,r.2=Yu t∧Xv m=Xv v++t∧v≤m) (fun s=>s.1.toNat) (s:=((m:Int),(⟨#[]⟩:ByteArray))) (fun s hI=>by
   obtain⟨v,t,rfl,h1,h2⟩:=hI
   by_cases c:v<10
   ·exact⟨.inr ((v:Int),Yu t),by simp only[QL];rw[if_neg (by simp;omega)],v,rfl,c,t,rfl,h1,h2⟩
   ·have e1:Int.tmod (v:Int) 10=((v % 10:Nat):Int):=by rw[Int.tmod_eq_emod_of_nonneg (by omega)];simp
    have e2:Int.tdiv (v:Int) 10=((v / 10:Nat):Int):=by rw[Int.tdiv_eq_ediv_of_nonneg (by omega)];simp
    have e3:Y0 ((v / 10:Nat):Int)=((v / 10:Nat):Int):=Uu (by omega) (by omega)
    have e4:Xc (Y0 (48+((v % 10:Nat):Int)))=48+((v % 10:Nat):Int):=by rw[Uu (by omega) (by omega),wr8 (by omega) (by omega)]
    have hsad:Ys (Yu [48+((v % 10:Nat):Int)]) (Yu t)=true:=by
     unfold Ys
     rw[Z02,Z02]
     have:IntKind.i64.max=9223372036854775807:=by decide
     have hl:=congrArg List.length h1
     rw[List.length_append]at hl
     rw[this];simp;omega
    refine⟨.inl (((v / 10:Nat):Int),Yu ([48+((v % 10:Nat):Int)]++t)), ?_,⟨v / 10,[48+((v % 10:Nat):Int)]++t,rfl, ?_,by omega⟩,by simp only;omega⟩
    ·simp only[QL]
     rw[if_pos (by simp;omega),e1,e2,e3,e4,if_pos hsad,Z88]
    ·rw[h1,Z87 (by omega),List.append_assoc]) ⟨m,[],by rfl,by simp,by simp⟩ (by simp only;omega)
 simp only at hw ht
 subst hw;subst ht
 have e4:Xc (Y0 (48+(w:Int)))=48+(w:Int):=by rw[Uu (by omega) (by omega),wr8 (by omega) (by omega)]
 have hsad:Ys (Yu [48+(w:Int)]) (Yu t)=true:=by
  unfold Ys
  rw[Z02,Z02]
  have:IntKind.i64.max=9223372036854775807:=by decide
  have hl:=congrArg List.length k3
  rw[List.length_append]at hl
  rw[this];simp;omega
 unfold Z1l
 rw[e,Option.bind_some]
 simp only
 rw[e4,if_pos hsad,Z88,k3,Z5R w10]
def Ty (n:Int):ByteArray:=if n<0 then Yu (45::Xv (-n).toNat)else Yu (Xv n.toNat)
theorem Zh3 {n:Int} (h1: -9223372036854775808≤n) (h2:n<9223372036854775808):Z3B n=some (Ty n):=by
 unfold Z3B Ty
 by_cases c:n<0
 ·have e1:Y0 ((Y0 (Z4 (0-(Z4 (n+1)))))+1)=(((-n).toNat:Nat):Int):=by
   rw[Zc (n:=n+1) (by omega) (by omega),Zc (by omega) (by omega),Uu (n:=0-(n+1)) (by omega) (by omega),Uu (by omega) (by omega)]
   omega
  have hsad:Ys (⟨#[45]⟩:ByteArray) (Yu (Xv (-n).toNat))=true:=by
   have hl:=(Tx 19 (-n).toNat (by omega)).1
   unfold Ys
   have h45:(⟨#[45]⟩:ByteArray).size=1:=rfl
   have:IntKind.i64.max=9223372036854775807:=by decide
   rw[Z02,this,h45];simp;omega
  rw[if_pos (by simpa using c),e1,Zbx (by omega),Option.bind_some,if_pos hsad,if_pos c]
  have:(⟨#[45]⟩:ByteArray)=Yu [45]:=rfl
  rw[this,Z88];rfl
 ·have e1:Y0 n=((n.toNat:Nat):Int):=by rw[Uu (by omega) (by omega)];omega
  rw[if_neg (by simpa using c),e1,Zbx (by omega),Option.bind_some,if_neg c]
end Go.Eng
