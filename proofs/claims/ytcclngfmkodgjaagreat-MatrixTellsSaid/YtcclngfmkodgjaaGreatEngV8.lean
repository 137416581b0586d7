/- Plain laws of chapter 42: LabelsLists. -/
import Derived.Test.YtcclngfmkodgjaaGreatEngGV0
set_option linter.unusedVariables false
set_option linter.unusedSectionVars false
set_option linter.unusedSimpArgs false
namespace Go.Eng
open Go Classical
attribute [local congr] Yl

section
variable {n:Z2} {of:List Int}
noncomputable def Yx (k:Nat) (P:Int→Prop):List Int:=((List.range k).map fun(i:Nat)=>(i:Int)).filter fun i=>decide (P i)
theorem Z0a {k:Nat} {P:Int→Prop} :Yx (k+1) P=if P (k:Int)then Yx k P++ [(k:Int)]else Yx k P:=by
 unfold Yx
 rw[List.range_succ,List.map_append,List.filter_append]
 by_cases c:P (k:Int)
 ·rw[if_pos c];simp[c]
 ·rw[if_neg c];simp[c]
theorem TH {k:Nat} {P:Int→Prop} :(Yx k P).length≤k:=by
 unfold Yx
 refine Nat.le_trans (List.length_filter_le _ _) (by simp)
theorem Zc9 {k:Nat} {P Q:Int→Prop} (h:∀i:Int,0≤i→i<(k:Int)→(P i↔Q i)):Yx k P=Yx k Q:=by
 induction k with
 |zero=>rfl
 |succ k ih=>
  rw[Z0a,Z0a,ih (fun i i0 i1=>h i i0 (by omega))]
  have:=h k (by omega) (by omega)
  by_cases c:P (k:Int)
  ·rw[if_pos c,if_pos (this.1 c)]
  ·rw[if_neg c,if_neg (fun q=>c (this.2 q))]
theorem ZiX {x:Int} (x0:0≤x) (x1:x<1000000000000):Z34 x=some (Yx 10 (Y5 x)):=by
 have e:=Xu (f:=fun s:(List Int)×Int=>match s with|(l2,v3)=>UP x l2 v3) (r:=Yx 10 (Y5 x)) (fun k=>(Yx k (Y5 x),(k:Int))) 10 (by decide) (fun k hk=>by
  have hl:=TH (k:=k) (P:=Y5 x)
  simp only[UP]
  rw[if_pos (by simp;omega),Z8B x0 x1,Option.bind_some,Zc (by omega) (by omega),Z0a]
  by_cases c:Y5 x (k:Int)
  ·rw[if_pos (decide_eq_true c),if_pos (X5 (by simp;omega)),if_pos c];rfl
  ·rw[if_neg (by simpa using c),if_neg c];rfl) (by simp only[UP];rw[if_neg (by simp)])
 unfold Z34
 have e':Z8 (fun s:(List Int)×Int=>match s with|(l2,v3)=>UP x l2 v3) ([],0)=some (Yx 10 (Y5 x)):=e
 rw[e'];rfl
theorem Zca {b:List Z9} {t:Int} (hl:b.length≤200) (hb:∀d,inL b d→(0≤(Z0 b d).plain∧(Z0 b d).plain<1024)∧0≤(Z0 b d).led∧(Z0 b d).led<1024):
  Z8 (fun s:(List Int)×(List Int)×Int=>match s with|(l9,l10,v11)=>UT t b b.length l9 l10 v11) ([],[],0)=some (Yx b.length (fun d=>Y5 (Z0 b d).plain t),Yx b.length (fun d=>Y5 (Z0 b d).led t)):=by
 have e:=Xu (f:=fun s:(List Int)×(List Int)×Int=>match s with|(l9,l10,v11)=>UT t b b.length l9 l10 v11) (r:=(Yx b.length (fun d=>Y5 (Z0 b d).plain t),Yx b.length (fun d=>Y5 (Z0 b d).led t)))
  (fun k=>(Yx k (fun d=>Y5 (Z0 b d).plain t),Yx k (fun d=>Y5 (Z0 b d).led t),(k:Int))) b.length (by omega) (fun k hk=>by
  have hk2:inL b (k:Int):=⟨by omega,by omega⟩
  obtain⟨⟨p0,p1⟩,q0,q1⟩:=hb _ hk2
  have hl1:=TH (k:=k) (P:=fun d=>Y5 (Z0 b d).plain t)
  have hl2:=TH (k:=k) (P:=fun d=>Y5 (Z0 b d).led t)
  simp only[UT]
  rw[if_pos (by simpa using hk),if_pos (Yi hk2),Y8 hk2,Option.bind_some,Z8B p0 (by omega),Option.bind_some,Z8B q0 (by omega),Zc (by omega) (by omega),Z0a,Z0a]
  by_cases c:Y5 (Z0 b (k:Int)).plain t
  ·rw[if_pos (decide_eq_true c),if_pos (X5 (by simp;omega)),Option.bind_some,if_pos c]
   by_cases c2:Y5 (Z0 b (k:Int)).led t
   ·rw[if_pos (decide_eq_true c2),if_pos (X5 (by simp;omega)),if_pos c2];rfl
   ·rw[if_neg (by simpa using c2),if_neg c2];rfl
  ·rw[if_neg (by simpa using c),Option.bind_some,if_neg c]
   by_cases c2:Y5 (Z0 b (k:Int)).led t
   ·rw[if_pos (decide_eq_true c2),if_pos (X5 (by simp;omega)),if_pos c2];rfl
   ·rw[if_neg (by simpa using c2),if_neg c2];rfl) (by simp only[UT];rw[if_neg (by simp)])
 exact e
theorem Zcb {b:List Y1} {t:Int} (hl:b.length≤200) (hb:∀d,inL b d→(0≤(Z0 b d).plain∧(Z0 b d).plain<1024)∧0≤(Z0 b d).led∧(Z0 b d).led<1024):
  Z8 (fun s:(List Int)×(List Int)×Int=>match s with|(l9,l10,v11)=>Te t b b.length l9 l10 v11) ([],[],0)=some (Yx b.length (fun d=>Y5 (Z0 b d).plain t),Yx b.length (fun d=>Y5 (Z0 b d).led t)):=by
 have e:=Xu (f:=fun s:(List Int)×(List Int)×Int=>match s with|(l9,l10,v11)=>Te t b b.length l9 l10 v11) (r:=(Yx b.length (fun d=>Y5 (Z0 b d).plain t),Yx b.length (fun d=>Y5 (Z0 b d).led t)))
  (fun k=>(Yx k (fun d=>Y5 (Z0 b d).plain t),Yx k (fun d=>Y5 (Z0 b d).led t),(k:Int))) b.length (by omega) (fun k hk=>by
  have hk2:inL b (k:Int):=⟨by omega,by omega⟩
  obtain⟨⟨p0,p1⟩,q0,q1⟩:=hb _ hk2
  have hl1:=TH (k:=k) (P:=fun d=>Y5 (Z0 b d).plain t)
  have hl2:=TH (k:=k) (P:=fun d=>Y5 (Z0 b d).led t)
  have hJ:Z3A t b b.length (Yx k (fun d=>Y5 (Z0 b d).plain t)) (Yx k (fun d=>Y5 (Z0 b d).led t)) (k:Int)=some (Yx (k+1) (fun d=>Y5 (Z0 b d).plain t)):=by
   unfold Z3A
   rw[if_pos (Yi hk2),Y8 hk2,Option.bind_some,Z48 p0 (by omega),Option.bind_some,Z0a]
   by_cases c:Y5 (Z0 b (k:Int)).plain t
   ·rw[if_pos (decide_eq_true c),if_pos (X5 (by simp;omega)),if_pos c]
   ·rw[if_neg (by simpa using c),if_neg c]
  simp only[Te]
  rw[if_pos (by simpa using hk),hJ,Option.bind_some]
  rw[if_pos (Yi hk2),Y8 hk2,Option.bind_some,Z48 q0 (by omega),Option.bind_some,Zc (by omega) (by omega),Z0a (P:=fun d=>Y5 (Z0 b d).led t)]
  by_cases c2:Y5 (Z0 b (k:Int)).led t
  ·rw[if_pos (decide_eq_true c2),if_pos (X5 (by simp;omega)),if_pos c2];rfl
  ·rw[if_neg (by simpa using c2),if_neg c2];rfl) (by simp only[Te];rw[if_neg (by simp)])
 exact e
end
end Go.Eng
