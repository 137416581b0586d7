/- Chapter 43 (matrix): tables as texts: MatrixTexts. -/
import Derived.Test.YtcclngfmkodgjaaGreatEngGP1
import Derived.Test.YtcclngfmkodgjaaGreatEngQ1
import Derived.Test.YtcclngfmkodgjaaGreatEngT0
import Derived.Test.YtcclngfmkodgjaaGreatMAM
set_option linter.unusedVariables false
set_option linter.unusedSectionVars false
set_option linter.unusedSimpArgs false
namespace Go.Eng
open Go Classical
attribute [local congr] Yl
theorem Zbz {a b:ByteArray} (h:a.size+b.size≤1000000):Ys a b=true:=by
 unfold Ys
 have e2:IntKind.i64.max=9223372036854775807:=by decide
 rw[decide_eq_true_eq,e2]
 omega
theorem Z41 (a b:ByteArray):bts (a++b)=bts a++bts b:=by
 simp[bts,ByteArray.data_append]
theorem Zh7 (s:ByteArray):Yu (bts s)=s:=by
 unfold Yu bts
 rw[List.map_map]
 have:((fun n:Int=>UInt8.ofNat n.toNat)∘fun b:UInt8=>(b.toNat:Int))=id:=by
  funext b
  simp
 rw[this]
 simp
theorem Zh8 {s:ByteArray} (h:s.size≤9223372036854775807):Z0w (bts s)=true:=by
 unfold Z0w
 rw[Bool.and_eq_true]
 refine⟨decide_eq_true (by rw[UI];exact h),List.all_eq_true.2 fun n hn=> ?_⟩
 obtain⟨b,_,rfl⟩:=List.mem_map.1 hn
 have:=b.toNat_lt
 exact decide_eq_true ⟨by omega,by omega⟩
theorem ZbA {σ ρ:Type} {f:σ→Option (σ⊕ρ)} :∀(n:Nat) (s:σ) (r:ρ),V0 f n s=some r→V0 f (n+1) s=some r
 |0,s,r,h=>by simp[Z7a]at h
 |n+1,s,r,h=>by
  rw[UH]at h⊢
  cases hq:f s with
  |none=>rw[hq]at h;cases h
  |some q=>
   rw[hq]at h
   cases q with
   |inl s2=>exact ZbA n s2 r h
   |inr r2=>exact h
theorem Zh9 {σ ρ:Type} {f:σ→Option (σ⊕ρ)} {s0 s:σ} {r:ρ} (hf:f s0=some (.inl s)) (h:Z8 f s0=some r):Z8 f s=some r:=by
 have h1:V0 f (18446744073709551615+1) s0=some r:=h
 rw[UH,hf]at h1
 exact ZbA _ _ _ h1
def VV (c:Z6):ZJ:=⟨c.ports,c.from_,c.to⟩
def Uv (m:List (List Z6)):List (List ZJ):=m.map fun r=>r.map VV


section
variable {m:List (List Z6)} {names:List ByteArray}
theorem ZbB (hm:m.length≤300) (hr:∀r∈m,r.length≤300):Z3E m=some (Uv m):=by
 unfold Z3E
 rw[Zbq m (fun r=>r.map VV) id (by unfold Few;omega) (fun q i i0 i1 hi hq=>by
  have hw:=Zc (n:=i+1) (by omega) (by omega)
  have hrow:=hr _ (ZR hi)
  simp only[Z1o,i1,Zb hi,decide_true,if_true,Option.bind_some]
  rw[Zbq (Z0 m i) VV id (by unfold Few;omega) (fun p k k0 k1 hk hp=>by
   have hw2:=Zc (n:=k+1) (by omega) (by omega)
   have hro:ZZ 24 (p++ [(⟨(Z0 (Z0 m i) k).ports,(Z0 (Z0 m i) k).from_,(Z0 (Z0 m i) k).to⟩:ZJ)])=true:=by
    unfold ZZ;rw[decide_eq_true_eq];simp;omega
   simp only[Z1n,k1,Zb hk,hro,hw2,decide_true,if_true,Option.bind_some]
   rfl) (fun p=>by simp[Z1n])]
  have hro:ZZ 24 (q++ [(Z0 m i).map VV])=true:=by
   unfold ZZ;rw[decide_eq_true_eq];simp;omega
  simp only[id,Option.bind_some,hro,hw,if_true]) (fun q=>by simp[Z1o])]
 rfl
theorem VW:(⟨#[32]⟩:ByteArray).size=1:=rfl
theorem Tz:(⟨#[58]⟩:ByteArray).size=1:=rfl
theorem Z5S:(⟨#[10]⟩:ByteArray).size=1:=rfl
theorem Z5T (s:ByteArray):bts (s++(⟨#[10]⟩:ByteArray))=bts s++ [10]:=by rw[Z41];rfl
theorem Zha (hn:names.length≤40) (hf:∀s∈names,s.size≤300):Z11 names=some (decide (∀s∈names,X0 s)):=by
 unfold Z11 Z5j Z5i
 rw[Uo (f:=Qj names) names (fun s=>¬X0 s) (by unfold Few;omega) (fun i i0 i1 hi=>by
  have hw:=Zc (n:=i+1) (by omega) (by omega)
  have:=hf _ (ZR hi)
  simp only[Qj,Z5h,i1,Zb hi,ZgW (show(Z0 names i).size≤1000000 by omega),hw,decide_true,if_true,Option.bind_some]
  by_cases c:X0 (Z0 names i) <;> simp[c]) (by simp[Qj])]
 by_cases c:0≤Y4 names (fun s=>¬X0 s)
 ·rw[if_pos c]
  have:¬∀s∈names,X0 s:=fun h=>by
   have:=Tq.2 (fun s hs (q:¬X0 s)=>q (h s hs))
   omega
  simp[this,c]
 ·rw[if_neg c]
  have:∀s∈names,X0 s:=fun s hs=>Classical.byContradiction (Tq.1 (by omega:Y4 names (fun s=>¬X0 s) <0) s hs)
  rw[decide_eq_true this]
  rfl
theorem Zhb (hn:names.length≤40) (hf:∀s∈names,s.size≤300):Z3z names=some (decide (∀s∈names,X0 s)):=by
 unfold Z3z
 rw[YD (f:=QK names) names (fun _ s=>X0 s) (.inl ():Unit⊕Unit) (.inr ()) (by unfold Few;omega) (fun i i0 i1 hi=>by
  have hw:=Zc (n:=i+1) (by omega) (by omega)
  have:=hf _ (ZR hi)
  simp only[QK,i1,Zb hi,ZgX (show(Z0 names i).size≤1000000 by omega),hw,decide_true,if_true,Option.bind_some]
  by_cases c:X0 (Z0 names i) <;> simp[c]) (by simp[QK])]
 by_cases c:Y9 names (fun _ s=>X0 s)
 ·rw[if_pos c,decide_eq_true (show ∀s∈names,X0 s from fun s hs=>by obtain⟨i,hi,rfl⟩:=W0 hs;exact c i hi)];rfl
 ·rw[if_neg c,decide_eq_false (fun h:∀s∈names,X0 s=>c fun i hi=>h _ (ZR hi))];rfl
theorem ByteArray.empty_append43 (s:ByteArray):(⟨#[]⟩:ByteArray)++s=s:=ByteArray.empty_append
theorem Zhc:Z3b names=some (decide (¬(names.length≤40∧∀s∈names,s.size≤300))):=by
 unfold Z3b
 by_cases h:names.length≤40
 case neg=>rw[if_pos (decide_eq_true (by omega)),decide_eq_true (show ¬(names.length≤40∧∀s∈names,s.size≤300)from fun q=>h q.1)]
 rw[if_neg (by simp;omega),YD (f:=Qn names) names (fun _ s=>s.size≤300) (.inl ():Unit⊕Unit) (.inr ()) (by unfold Few;omega) (fun i i0 i1 hi=>by
  have hw:=Zc (n:=i+1) (by omega) (by omega)
  simp only[Qn,i1,Zb hi,hw,decide_true,if_true,Option.bind_some]
  by_cases c:(Z0 names i).size≤300
  ·rw[if_neg (by simp;omega),if_pos c]
  ·rw[if_pos (decide_eq_true (by omega)),if_neg c]) (by simp[Qn])]
 by_cases c:Y9 names (fun _ s=>s.size≤300)
 ·rw[if_pos c,decide_eq_false (show ¬¬(names.length≤40∧∀s∈names,s.size≤300)from fun q=>q ⟨h,fun s hs=>by obtain⟨i,hi,rfl⟩:=W0 hs;exact c i hi⟩)];rfl
 ·rw[if_neg c,decide_eq_true (show ¬(names.length≤40∧∀s∈names,s.size≤300)from fun q=>c fun i hi=>q.2 _ (ZR hi))];rfl
end
theorem ZbC:Ud=some true:=by kernel_rfl
end Go.Eng
