/- Chapter 18 (domains): what is told of a domain, on both sides. -/
import Derived.Test.YtcclngfmkodgjaaGreatEngQ1
import Derived.Test.YtcclngfmkodgjaaGreatEngQ3
import Derived.Test.YtcclngfmkodgjaaGreatEngGP15r
import Derived.Test.YtcclngfmkodgjaaGreatEngGV0
set_option linter.unusedVariables false
set_option linter.unusedSectionVars false
set_option linter.unusedSimpArgs false
namespace Go.Eng
open Go Classical
attribute [local congr] Yl
section
variable {n:Z2} {d:Int}
theorem Zjg {x y z:ByteArray} :Z4Q [x,y,z] ⟨#[]⟩=x++y++z:=by
 apply ByteArray.ext
 apply Array.ext'
 simp[Z4Q,List.intercalate,List.intersperse]
theorem Zjh {x y z:ByteArray} (h:x.size+y.size+z.size≤140737488355328):Z4R [x,y,z] ⟨#[]⟩=true:=by
 unfold Z4R
 refine decide_eq_true ⟨by simp,by simp, ?_⟩
 have e:∀b:ByteArray,b.data.toList.length=b.size:=fun b=>by simp
 simp[List.intercalate,List.intersperse]
 have h1:=e x;have h2:=e y;have h3:=e z
 simp at h1 h2 h3
 omega
noncomputable def Ww (n:Z2) (d:Int):ByteArray:=if ZM n∧inL n.domains d then(Z0 n.devices (Z0 n.domains d).dev).name++(⟨#[47]⟩:ByteArray)++Ty (Z0 n.domains d).vlan else⟨#[]⟩
theorem Z8C (hr:ZM n) (hd:inL n.domains d):inL n.devices (Z0 n.domains d).dev∧ -9223372036854775808≤(Z0 n.domains d).vlan∧(Z0 n.domains d).vlan<9223372036854775808:=by
 have:=hr.bare d hd
 refine⟨this.1, ?_, ?_⟩
 ·have:=this.2;omega
 ·have:=this.2;omega
theorem Zji (hs:SmN n) (hb:∀x∈n.devices,x.name.size≤140737488351232):Z3a n d=some (Ww n d):=by
 unfold Z3a Ww
 by_cases c0:d<0
 ·rw[if_pos (decide_eq_true c0),if_neg (fun h=>by have:=h.2.1;omega)]
 rw[if_neg (by simpa using c0)]
 by_cases c1:d≥(n.domains.length:Int)
 ·rw[if_pos (decide_eq_true c1),if_neg (fun h=>by have:=h.2.2;omega)]
 rw[if_neg (by simpa using c1),Wc hs,Option.bind_some]
 by_cases hr:ZM n
 case neg=>rw[if_pos (by simpa using hr),if_neg (fun h=>hr h.1)]
 have hd:inL n.domains d:=⟨by omega,by omega⟩
 obtain⟨p1,p2,p3⟩:=Z8C hr hd
 have hnm:=hb _ (ZR p1)
 have htl:=Z89 p2 p3
 have h47:(⟨#[47]⟩:ByteArray).size=1:=rfl
 rw[if_neg (by simpa using hr),Zb hd,Option.bind_some,Zb p1,Option.bind_some,Zh6 p2 p3,Option.bind_some,if_pos ⟨hr,hd⟩]
 unfold Z5o strings_Join
 rw[if_pos (Zjh (by omega)),Zjg]
 rfl
theorem Zcg (hs:SmN n) (hr:ZM n) (hb:∀x∈n.devices,x.name.size≤140737488351232):Z1m n d=some (Ww n d):=by
 unfold Z1m Ww
 rw[W5,Option.bind_some]
 by_cases hd:inL n.domains d
 case neg=>rw[if_pos (by simpa using hd),if_neg (fun h=>hd h.2)]
 obtain⟨p1,p2,p3⟩:=Z8C hr hd
 have hnm:=hb _ (ZR p1)
 have htl:=Z89 p2 p3
 have h47:(⟨#[47]⟩:ByteArray).size=1:=rfl
 have hmx:IntKind.i64.max=9223372036854775807:=by decide
 have s1:Ys (Z0 n.devices (Z0 n.domains d).dev).name (⟨#[47]⟩:ByteArray)=true:=by
  unfold Ys;rw[hmx];exact decide_eq_true (by omega)
 have hsz:((Z0 n.devices (Z0 n.domains d).dev).name++(⟨#[47]⟩:ByteArray)).size=(Z0 n.devices (Z0 n.domains d).dev).name.size+1:=by
  rw[ByteArray.size_append,h47]
 have s2:Ys ((Z0 n.devices (Z0 n.domains d).dev).name++(⟨#[47]⟩:ByteArray)) (Ty (Z0 n.domains d).vlan)=true:=by
  unfold Ys;rw[hmx,hsz];exact decide_eq_true (by omega)
 rw[if_neg (by simpa using hd),Zb hd,Option.bind_some,Zb p1,Option.bind_some,if_pos s1,Zh3 p2 p3,Option.bind_some,if_pos s2,if_pos ⟨hr,hd⟩]
end
end Go.Eng
