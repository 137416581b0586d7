/- Chapter 43 (matrix): tables and texts of floods on both sides: MatrixTells. -/
import Derived.Test.YtcclngfmkodgjaaGreatEngZ7
import Derived.Test.YtcclngfmkodgjaaGreatEngQ2
set_option linter.unusedVariables false
set_option linter.unusedSectionVars false
set_option linter.unusedSimpArgs false
namespace Go.Eng
open Go Classical
attribute [local congr] Yl
theorem Zjj {x:ZJ} :Z7j x x=true:=by simp[Z7j]
theorem Zch {x:List (List ZJ)} (hx:x.length≤300) (hr:∀r∈x,r.length≤300):Z3F x x=some true:=by
 unfold Z3F
 rw[if_neg (by simp)]
 rw[Zbi (f:=QN x x) x (.inr ():Unit⊕Unit) (by unfold Few;omega) (fun i i0 i1 hi=>by
  have hw:=Zc (n:=i+1) (by omega) (by omega)
  have hrow:=hr _ (ZR hi)
  simp only[QN]
  rw[if_pos (decide_eq_true i1),Zb hi,Option.bind_some,Option.bind_some,if_neg (by simp),Option.bind_some]
  rw[Zbi (f:=QM x x i (Z0 x i)) (Z0 x i) (.inr ():Unit⊕Unit) (by unfold Few;omega) (fun k k0 k1 hk=>by
   have hw2:=Zc (n:=k+1) (by omega) (by omega)
   simp only[QM]
   rw[if_pos (decide_eq_true k1),Zb hi,Option.bind_some,Zb hk,Option.bind_some,Option.bind_some,Zb hk,Option.bind_some,Zjj,if_neg (by simp),hw2]) (by simp[QM])]
  rw[Option.bind_some]
  simp only
  rw[hw]) (by simp[QN])]
 rfl
theorem Zjk {n:Z2} {of:List Int} (t:Int) (hn:n.Ok) (hg:Ym n 200 100) (hf:Few of):∃a b,UV n of t=some (a,b)∧Z1k n of t=some (a,b)∧a.length≤200∧b.length≤200:=by
 have hs:=hg.sm
 have hdl:=hg.domains
 unfold UV Z1k
 by_cases ho:YN n of
 case neg=>
  rw[ZbV hs hf ho,ZiB hs hf ho]
  have e1:=Zca (b:= []) (t:=t) (by simp) (fun d hd=>by have:=hd.1;have:=hd.2;simp at this;omega)
  have e2:=Zcb (b:= []) (t:=t) (by simp) (fun d hd=>by have:=hd.1;have:=hd.2;simp at this;omega)
  refine⟨[],[], ?_, ?_,by simp,by simp⟩
  ·simp only[Option.bind_some]
   simp only[List.length_nil]at e1
   rw[e1];rfl
  ·simp only[Option.bind_some]
   simp only[List.length_nil]at e2
   rw[e2];rfl
 obtain⟨b,e,hb⟩:=Z8t hn hg hf ho
 have hbl:=hb.ok.1
 have hlab:∀d,inL b d→(0≤(Z0 b d).plain∧(Z0 b d).plain<1024)∧0≤(Z0 b d).led∧(Z0 b d).led<1024:=fun d hd=>by
  have:=hb.ok.2 d hd
  exact⟨⟨this.p0,this.p1⟩,this.l0,this.l1⟩
 have hgl:(mkG n.domains.length (Yg n of 10)).length=n.domains.length:=Vb
 have hgg:∀d,inL n.domains d→Z0 (mkG n.domains.length (Yg n of 10)) d=Yg n of 10 d:=fun d hd=>Vu ⟨hd.1,hd.2⟩
 have hsame:∀d,inL n.domains d→(Z0 b d).plain=(Z0 (mkG n.domains.length (Yg n of 10)) d).plain∧(Z0 b d).led=(Z0 (mkG n.domains.length (Yg n of 10)) d).led:=fun d hd=>by
  rw[hgg d hd];exact ZiC hb ho hd
 have e1:=Zca (t:=t) (by omega) hlab
 have e2:=Zcb (b:=mkG n.domains.length (Yg n of 10)) (t:=t) (by omega) (fun d hd=>by
  have hdd:inL n.domains d:=⟨hd.1,by have:=hd.2;omega⟩
  have:=hsame d hdd
  rw[←this.1, ←this.2]
  exact hlab d ⟨hd.1,by have:=hd.2;omega⟩)
 rw[hbl]at e1
 rw[hgl]at e2
 rw[e,Zc5 hn hg hf ho]
 refine⟨Yx n.domains.length (fun d=>Y5 (Z0 b d).plain t),Yx n.domains.length (fun d=>Y5 (Z0 b d).led t), ?_, ?_,Nat.le_trans TH hdl,Nat.le_trans TH hdl⟩
 ·simp only[Option.bind_some]
  rw[e1];rfl
 ·simp only[Option.bind_some]
  rw[e2]
  have q1:Yx n.domains.length (fun d=>Y5 (Z0 (mkG n.domains.length (Yg n of 10)) d).plain t)=Yx n.domains.length (fun d=>Y5 (Z0 b d).plain t):=Zc9 fun d d0 d1=>by rw[(hsame d ⟨d0,d1⟩).1]
  have q2:Yx n.domains.length (fun d=>Y5 (Z0 (mkG n.domains.length (Yg n of 10)) d).led t)=Yx n.domains.length (fun d=>Y5 (Z0 b d).led t):=Zc9 fun d d0 d1=>by rw[(hsame d ⟨d0,d1⟩).2]
  rw[q1,q2];rfl
noncomputable def Wd (n:Z2) (v:ByteArray) (l:List Int):ByteArray:=l.zipIdx.foldl (fun s q=>(s++(⟨#[32]⟩:ByteArray))++Ww n q.1) v
theorem Z8D {n:Z2} :∀(l:List (Int×Nat)) (v:ByteArray),l.foldl (fun s q=>(s++(⟨#[32]⟩:ByteArray))++Ww n q.1) v=v++l.foldl (fun s q=>(s++(⟨#[32]⟩:ByteArray))++Ww n q.1) (⟨#[]⟩:ByteArray)
 | [],v=>by
  show v=v++ByteArray.empty
  rw[ByteArray.append_empty]
 |q::r,v=>by
  rw[List.foldl_cons,List.foldl_cons,Z8D r,Z8D r (((⟨#[]⟩:ByteArray)++(⟨#[32]⟩:ByteArray))++Ww n q.1),ByteArray.empty_append43]
  simp only[ByteArray.append_assoc]
theorem Z69 {n:Z2} {d:Int} (hb:∀x∈n.devices,x.name.size≤300):(Ww n d).size≤330:=by
 unfold Ww
 split
 ·rename_i h
  obtain⟨p1,p2,p3⟩:=Z8C h.1 h.2
  have h1:=hb _ (ZR p1)
  have h2:=Z89 p2 p3
  have h3:(⟨#[47]⟩:ByteArray).size=1:=rfl
  rw[ByteArray.size_append,ByteArray.size_append]
  omega
 ·exact Nat.zero_le _
theorem Z1K {n:Z2} {v:ByteArray} (l:List Int) (hb:∀x∈n.devices,x.name.size≤300):(Wd n v l).size≤v.size+331 * l.length:=by
 have key:∀(q:List (Int×Nat)) (v:ByteArray),(q.foldl (fun s q=>(s++(⟨#[32]⟩:ByteArray))++Ww n q.1) v).size≤v.size+331 * q.length:=by
  intro q
  induction q with
  |nil=>intro v;simp
  |cons x r ih=>
   intro v
   rw[List.foldl_cons]
   have h1:=ih ((v++(⟨#[32]⟩:ByteArray))++Ww n x.1)
   have h2:=Z69 (d:=x.1) hb
   rw[ByteArray.size_append,ByteArray.size_append,VW]at h1
   rw[List.length_cons]
   omega
 have:=key l.zipIdx v
 rw[List.length_zipIdx]at this
 exact this
theorem Z4c {n:Z2} {l:List Int} (hs:SmN n) (hb:∀x∈n.devices,x.name.size≤300) (hl:l.length≤200):UW n l=some (Wd n (⟨#[]⟩:ByteArray) l):=by
 unfold UW
 have:=Z00 (f:=fun s:ByteArray×Int=>match s with|(v3,v4)=>Ql n l v3 v4) l (fun s i=>(s,i)) (fun _ d s=>(s++(⟨#[32]⟩:ByteArray))++Ww n d) (⟨#[]⟩:ByteArray) (out:=id) (by omega) (fun i s=>s.size≤331 * i) (Nat.le_refl 0) (fun i d s hd hi hs2=>by
  have hw:=Zc (n:=(i:Int)+1) (by omega) (by omega)
  have h2:=Z69 (d:=d) hb
  constructor
  ·simp only[Ql]
   rw[if_pos (decide_eq_true (by omega)),Zgn,hd,Option.bind_some,Zji hs (fun x hx=>by have:=hb x hx;omega),Option.bind_some,if_pos (Zbz (by rw[VW];omega)),if_pos (Zbz (by rw[ByteArray.size_append,VW];omega)),hw,ByteArray.append_assoc]
  ·rw[ByteArray.size_append,ByteArray.size_append,VW];omega) (fun s hs2=>by simp[Ql])
 rw[this]
 rfl
theorem Wi {a b:ByteArray} (h:a.size+b.size≤100000000):Ys a b=true:=by
 unfold Ys
 have e2:IntKind.i64.max=9223372036854775807:=by decide
 rw[decide_eq_true_eq,e2]
 omega
theorem Z6a {s x:ByteArray} (h:s.size+x.size≤100000000):VL (bts s) x=some ():=by
 have hro:ZZ 1 (bts s++bts x)=true:=by
  unfold ZZ;rw[decide_eq_true_eq,List.length_append,UI,UI];omega
 simp only[VL,Z13,Option.bind_some,hro,if_true]
theorem Z6b {s:ByteArray} {c:Int} (h:s.size≤100000000):VM (bts s) c=some ():=by
 have hro:ZZ 1 (bts s++ [c])=true:=by
  unfold ZZ;rw[decide_eq_true_eq,List.length_append,UI];simp;omega
 simp only[VM,Z13,Option.bind_some,hro,if_true]
theorem Zjl {x:ByteArray} (h0:0<x.size) (h:x.size≤100000000):Z12 x=some ():=by
 have hro:ZZ 1 (bts x)=true:=by
  unfold ZZ;rw[decide_eq_true_eq,UI];omega
 simp only[Z12,Z5k,Option.bind_some,hro,if_true]
 rw[if_pos (decide_eq_true h0)]
theorem Zjm {n:Z2} {of l l2:List Int} {names:List ByteArray} {x:Int} {v:ByteArray} (hs:SmN n) (hr:ZM n) (hb:∀x∈n.devices,x.name.size≤300) (hl:l.length≤200) (hv:v.size≤10000000):
  Z8 (fun s:ByteArray×Int=>match s with|(a,b)=>Tf n of names x l l2 a b) (v,0)=some (Wd n v l):=by
 have:=Z00 (f:=fun s:ByteArray×Int=>match s with|(a,b)=>Tf n of names x l l2 a b) l (fun s i=>(s,i)) (fun _ d s=>(s++(⟨#[32]⟩:ByteArray))++Ww n d) v (out:=id) (by omega) (fun i s=>s.size≤v.size+331 * i) (by simp) (fun i d s hd hi hs2=>by
  have hw:=Zc (n:=(i:Int)+1) (by omega) (by omega)
  have h2:=Z69 (d:=d) hb
  have hin:inL l (i:Int):=⟨by omega,by omega⟩
  have hd2:l[((i:Nat):Int).toNat]?=some d:=by rw[Int.toNat_natCast];exact hd
  constructor
  ·simp only[Tf]
   rw[if_pos (decide_eq_true (by omega)),if_pos (Wi (by rw[VW];omega)),if_pos (by rw[Ts];exact decide_eq_true hin),hd2,Option.bind_some,Zcg hs hr (fun x hx=>by have:=hb x hx;omega),Option.bind_some,if_pos (Wi (by rw[ByteArray.size_append,VW];omega)),hw]
  ·rw[ByteArray.size_append,ByteArray.size_append,VW];omega) (fun s hs2=>by simp[Tf])
 rw[this]
 rfl
theorem Zjn {n:Z2} {of l l2:List Int} {names:List ByteArray} {x:Int} {v:ByteArray} (hs:SmN n) (hr:ZM n) (hb:∀x∈n.devices,x.name.size≤300) (hl:l.length≤200) (hv:v.size≤10000000):
  Z8 (fun s:ByteArray×Int=>match s with|(a,b)=>Tg n of names x l a b) (v,0)=some (Wd n v l):=by
 have:=Z00 (f:=fun s:ByteArray×Int=>match s with|(a,b)=>Tg n of names x l a b) l (fun s i=>(s,i)) (fun _ d s=>(s++(⟨#[32]⟩:ByteArray))++Ww n d) v (out:=id) (by omega) (fun i s=>s.size≤v.size+331 * i) (by simp) (fun i d s hd hi hs2=>by
  have hw:=Zc (n:=(i:Int)+1) (by omega) (by omega)
  have h2:=Z69 (d:=d) hb
  have hin:inL l (i:Int):=⟨by omega,by omega⟩
  have hd2:l[((i:Nat):Int).toNat]?=some d:=by rw[Int.toNat_natCast];exact hd
  constructor
  ·simp only[Tg]
   rw[if_pos (decide_eq_true (by omega)),if_pos (Wi (by rw[VW];omega)),if_pos (by rw[Ts];exact decide_eq_true hin),hd2,Option.bind_some,Zcg hs hr (fun x hx=>by have:=hb x hx;omega),Option.bind_some,if_pos (Wi (by rw[ByteArray.size_append,VW];omega)),hw]
  ·rw[ByteArray.size_append,ByteArray.size_append,VW];omega) (fun s hs2=>by simp[Tg])
 rw[this]
 rfl
noncomputable def YT (n:Z2) (of:List Int) (t:Int):List Int×List Int:=(UV n of t).getD ([],[])
theorem Z8E {n:Z2} {of:List Int} (t:Int) (hn:n.Ok) (hg:Ym n 200 100) (hf:Few of):UV n of t=some (YT n of t)∧Z1k n of t=some (YT n of t)∧(YT n of t).1.length≤200∧(YT n of t).2.length≤200:=by
 obtain⟨a,b,h1,h2,h3,h4⟩:=Zjk t hn hg hf
 have:YT n of t=(a,b):=by unfold YT;rw[h1];rfl
 rw[this]
 exact⟨h1,h2,h3,h4⟩
noncomputable def Wx (n:Z2) (of:List Int) (s name:ByteArray) (t:Int):ByteArray:=Wd n ((s++name)++(⟨#[58]⟩:ByteArray)) (YT n of t).1
noncomputable def TI (n:Z2) (of:List Int) (s name:ByteArray) (t:Int):ByteArray:=if 0<(YT n of t).2.length then Wx n of s name t++(⟨#[32,124]⟩:ByteArray)else Wx n of s name t
noncomputable def flR (n:Z2) (of:List Int) (s name:ByteArray) (t:Int):ByteArray:=Wd n (TI n of s name t) (YT n of t).2++(⟨#[10]⟩:ByteArray)
theorem Zjo {n:Z2} {of:List Int} {names:List ByteArray} {s:ByteArray} {i:Nat} (hn:n.Ok) (hg:Ym n 200 100) (hf:Few of) (hr:ZM n) (hb:∀x∈n.devices,x.name.size≤300) (hi:i<names.length) (hl:names.length≤10) (hnm:∀s∈names,s.size≤300) (hs:s.size≤140000 * i):
  Uh n of names s i=some (.inl (flR n of s (Z0 names (i:Int)) i,(i:Int)+1)):=by
 have hin:inL names (i:Int):=⟨by omega,by omega⟩
 have h2:=hnm _ (ZR hin)
 have hw:=Zc (n:=(i:Int)+1) (by omega) (by omega)
 obtain⟨_,d2,d3,d4⟩:=Z8E (of:=of) (i:Int) hn hg hf
 have hz:((s++Z0 names (i:Int))++(⟨#[58]⟩:ByteArray)).size=s.size+(Z0 names (i:Int)).size+1:=by rw[ByteArray.size_append,ByteArray.size_append,Tz]
 have hb1:=Z1K (v:=(s++Z0 names (i:Int))++(⟨#[58]⟩:ByteArray)) (YT n of (i:Int)).1 hb
 have hb1:(Wx n of s (Z0 names (i:Int)) i).size≤2000000:=by unfold Wx;omega
 have hl0:(⟨#[32,124]⟩:ByteArray).size=2:=rfl
 have hJ:Z3C n of names (i:Int) (YT n of (i:Int)).2 (Wx n of s (Z0 names (i:Int)) i)=some (TI n of s (Z0 names (i:Int)) i):=by
  unfold Z3C TI
  by_cases c:0<(YT n of (i:Int)).2.length
  ·rw[if_pos (decide_eq_true (by omega)),if_pos (Wi (by rw[hl0];omega)),if_pos c]
  ·rw[if_neg (by rw[decide_eq_true_eq];omega),if_neg c]
 have hb2:(TI n of s (Z0 names (i:Int)) i).size≤2000002:=by
  unfold TI
  split
  ·rw[ByteArray.size_append,hl0];omega
  ·omega
 have hb3:=Z1K (v:=TI n of s (Z0 names (i:Int)) i) (YT n of (i:Int)).2 hb
 simp only[Uh]
 rw[if_pos (decide_eq_true (by omega)),Zb hin,Option.bind_some,if_pos (Wi (by omega)),if_pos (Wi (by rw[ByteArray.size_append,Tz];omega)),d2,Option.bind_some]
 rw[Zjm hg.sm hr hb d3 (by omega),Option.bind_some]
 rw[show Wd n ((s++Z0 names (i:Int))++(⟨#[58]⟩:ByteArray)) (YT n of (i:Int)).1=Wx n of s (Z0 names (i:Int)) i from rfl,hJ,Option.bind_some]
 rw[Zjn (l2:= []) hg.sm hr hb d4 (by omega),Option.bind_some]
 rw[if_pos (Wi (by rw[Z5S];omega)),hw]
 rfl
theorem Zci {n:Z2} {v:ByteArray} {l:List Int} :Wd n v l=v++Wd n (⟨#[]⟩:ByteArray) l:=Z8D _ _
theorem Z6c {n:Z2} {of:List Int} {s name:ByteArray} {t:Int} :s++((name++(⟨#[58]⟩:ByteArray))++Wd n (⟨#[]⟩:ByteArray) (YT n of t).1)=Wx n of s name t:=by
 unfold Wx
 rw[Zci (v:=(s++name)++(⟨#[58]⟩:ByteArray))]
 simp only[ByteArray.append_assoc]
theorem Z8F {n:Z2} {of:List Int} {s name:ByteArray} {t:Int} (c:0<(YT n of t).2.length):(Wx n of s name t++((⟨#[32,124]⟩:ByteArray)++Wd n (⟨#[]⟩:ByteArray) (YT n of t).2))++(⟨#[10]⟩:ByteArray)=flR n of s name t:=by
 unfold flR TI
 rw[if_pos c,Zci (v:=Wx n of s name t++(⟨#[32,124]⟩:ByteArray))]
 simp only[ByteArray.append_assoc]
theorem Z8G {n:Z2} {of:List Int} {s name:ByteArray} {t:Int} (c:¬0<(YT n of t).2.length):Wx n of s name t++(⟨#[10]⟩:ByteArray)=flR n of s name t:=by
 unfold flR TI
 rw[if_neg c]
 have:(YT n of t).2= []:=List.length_eq_zero_iff.1 (by omega)
 rw[this]
 rfl
theorem Zcj {n:Z2} {of:List Int} {s name:ByteArray} {t:Int} :0<(flR n of s name t).size:=by
 unfold flR
 rw[ByteArray.size_append,Z5S];omega
theorem Z6d {n:Z2} {of:List Int} {names:List ByteArray} {s:ByteArray} {i:Nat} (hn:n.Ok) (hg:Ym n 200 100) (hf:Few of) (hb:∀x∈n.devices,x.name.size≤300) (hi:i<names.length) (hl:names.length≤10) (hnm:∀s∈names,s.size≤300) (hs:s.size≤140000 * i):
  WK n of names (bts s) i=some (.inl (bts (flR n of s (Z0 names (i:Int)) i),(i:Int)+1))∧(flR n of s (Z0 names (i:Int)) i).size≤140000 * (i+1):=by
 have hin:inL names (i:Int):=⟨by omega,by omega⟩
 have h2:=hnm _ (ZR hin)
 have hw:=Zc (n:=(i:Int)+1) (by omega) (by omega)
 obtain⟨d1,d2,d3,d4⟩:=Z8E (of:=of) (i:Int) hn hg hf
 have hz:((s++Z0 names (i:Int))++(⟨#[58]⟩:ByteArray)).size=s.size+(Z0 names (i:Int)).size+1:=by rw[ByteArray.size_append,ByteArray.size_append,Tz]
 have hz2:(Z0 names (i:Int)++(⟨#[58]⟩:ByteArray)).size=(Z0 names (i:Int)).size+1:=by rw[ByteArray.size_append,Tz]
 have hA:=Z1K (v:=(⟨#[]⟩:ByteArray)) (YT n of (i:Int)).1 hb
 have hB:=Z1K (v:=(⟨#[]⟩:ByteArray)) (YT n of (i:Int)).2 hb
 have h0:(⟨#[]⟩:ByteArray).size=0:=rfl
 have hl0:(⟨#[32,124]⟩:ByteArray).size=2:=rfl
 have hz3:((Z0 names (i:Int)++(⟨#[58]⟩:ByteArray))++Wd n (⟨#[]⟩:ByteArray) (YT n of (i:Int)).1).size≤66600:=by rw[ByteArray.size_append];omega
 have hbas:(Wx n of s (Z0 names (i:Int)) i).size≤s.size+66600:=by rw[←Z6c,ByteArray.size_append];omega
 by_cases c:0<(YT n of (i:Int)).2.length
 ·have hsz:(Wx n of s (Z0 names (i:Int)) i++((⟨#[32,124]⟩:ByteArray)++Wd n (⟨#[]⟩:ByteArray) (YT n of (i:Int)).2)).size≤s.size+133000:=by
   rw[ByteArray.size_append,ByteArray.size_append,hl0];omega
  constructor
  ·simp only[WK]
   rw[if_pos (decide_eq_true (by omega)),Zb hin,Option.bind_some,d1,Option.bind_some]
   rw[if_pos (Wi (by rw[Tz];omega)),Z4c hg.sm hb d3,Option.bind_some,if_pos (Wi (by omega)),Z6a (by omega),Option.bind_some]
   rw[if_pos (decide_eq_true (by omega)),Z4c hg.sm hb d4,Option.bind_some,if_pos (Wi (by rw[hl0];omega)), ←Z41,Z6c,Z6a (by rw[ByteArray.size_append,hl0];omega),Option.bind_some]
   rw[←Z41,Z6b (by omega),Option.bind_some,hw, ←Z5T,Z8F c]
  ·rw[←Z8F c,ByteArray.size_append,Z5S];omega
 ·constructor
  ·simp only[WK]
   rw[if_pos (decide_eq_true (by omega)),Zb hin,Option.bind_some,d1,Option.bind_some]
   rw[if_pos (Wi (by rw[Tz];omega)),Z4c hg.sm hb d3,Option.bind_some,if_pos (Wi (by omega)),Z6a (by omega),Option.bind_some]
   rw[if_neg (by rw[decide_eq_true_eq];omega), ←Z41,Z6c,Z6b (by omega),Option.bind_some,hw, ←Z5T,Z8G c]
  ·rw[←Z8G c,ByteArray.size_append,Z5S];omega
noncomputable def Uy (n:Z2) (of:List Int) (names:List ByteArray):ByteArray:=names.zipIdx.foldl (fun s q=>flR n of s q.1 (q.2:Int)) (⟨#[]⟩:ByteArray)
section
variable {n:Z2} {of:List Int} {names:List ByteArray}
theorem Zjp (hn:n.Ok) (hg:Ym n 200 100) (hf:Few of) (hb:∀x∈n.devices,x.name.size≤300) (hl:names.length≤10) (hnm:∀s∈names,s.size≤300):
  Z8 (fun s:(List Int)×Int=>match s with|(l14,v15)=>WK n of names l14 v15) ([],0)=some (.inr (bts (Uy n of names))):=
 Z00 (f:=fun s:(List Int)×Int=>match s with|(l14,v15)=>WK n of names l14 v15) names (fun s i=>(bts s,i)) (fun i r s=>flR n of s r (i:Int)) (⟨#[]⟩:ByteArray) (out:=fun s=> .inr (bts s)) (by omega) (fun i s=>s.size≤140000 * i) (Nat.le_refl 0) (fun i r s hr hi hs=>by
  have:=Z6d (of:=of) hn hg hf hb hi hl hnm hs
  rw[Xn hr]at this
  exact this) (fun s hs=>by simp[WK])
theorem Zjq (hn:n.Ok) (hg:Ym n 200 100) (hf:Few of) (hr:ZM n) (hb:∀x∈n.devices,x.name.size≤300) (hl:names.length≤10) (hnm:∀s∈names,s.size≤300):
  Z8 (fun s:ByteArray×Int=>match s with|(v11,v12)=>Uh n of names v11 v12) ((⟨#[]⟩:ByteArray),0)=some (Uy n of names):=
 Z00 (f:=fun s:ByteArray×Int=>match s with|(v11,v12)=>Uh n of names v11 v12) names (fun s i=>(s,i)) (fun i r s=>flR n of s r (i:Int)) (⟨#[]⟩:ByteArray) (out:=id) (by omega) (fun i s=>s.size≤140000 * i) (Nat.le_refl 0) (fun i r s hq hi hs=>by
  have h1:=Zjo (of:=of) hn hg hf hr hb hi hl hnm hs
  have h2:=(Z6d (of:=of) hn hg hf hb hi hl hnm hs).2
  rw[Xn hq]at h1 h2
  exact⟨h1,h2⟩) (fun s hs=>by simp[Uh])
theorem Zjr (hn:n.Ok) (hg:Ym n 200 100) (hf:Few of) (hb:∀x∈n.devices,x.name.size≤300) (hl:names.length≤10) (hnm:∀s∈names,s.size≤300):(Uy n of names).size≤140000 * names.length:=by
 have key:∀(l:List ByteArray) (k:Nat) (s:ByteArray),(∀j r,l[j]?=some r→names[k+j]?=some r)→s.size≤140000 * k→((l.zipIdx k).foldl (fun s q=>flR n of s q.1 (q.2:Int)) s).size≤140000 * (k+l.length):=by
  intro l
  induction l with
  |nil=>intro k s _ hs;simpa using hs
  |cons r t ih=>
   intro k s hl2 hs
   rw[List.zipIdx_cons,List.foldl_cons]
   have hr:=hl2 0 r rfl
   have hk:k<names.length:=(List.getElem?_eq_some_iff.1 hr).1
   have h1:=(Z6d (of:=of) hn hg hf hb hk hl hnm hs).2
   rw[Xn (show names[k]?=some r from hr)]at h1
   have h2:=ih (k+1) _ (fun j q hq=>by have:=hl2 (j+1) q (by simpa using hq);rwa [show k+1+j=k+(j+1)by omega]) h1
   rw[List.length_cons]
   have e:k+1+t.length=k+(t.length+1):=by omega
   rw[e]at h2
   exact h2
 have:=key names 0 (⟨#[]⟩:ByteArray) (fun j r hr=>by simpa using hr) (Nat.le_refl 0)
 simpa[Uy]using this
theorem Zjs (hm:names≠ []):0<(bts (Uy n of names)).length:=by
 rw[UI]
 have key:∀(l:List (ByteArray×Nat)) (s:ByteArray),0<s.size→0<(l.foldl (fun s q=>flR n of s q.1 (q.2:Int)) s).size:=by
  intro l
  induction l with
  |nil=>intro s h;exact h
  |cons q t ih=>intro s h;rw[List.foldl_cons];exact ih _ Zcj
 cases names with
 |nil=>exact absurd rfl hm
 |cons r t=>
  unfold Uy
  rw[List.zipIdx_cons,List.foldl_cons]
  exact key _ _ Zcj
theorem Zjt (hn:n.Ok) (hg:Ym n 200 100) (hf:Few of) (hb:∀x∈n.devices,x.name.size≤300) (hl:names.length≤10) (hnm:∀s∈names,s.size≤300):
  TU (Qm n of names) (fun s:(List Int)×Int=>match s with|(l14,v15)=>WK n of names l14 v15)=some (if names= []then .inl ()else .inr (bts (Uy n of names))):=by
 by_cases hm:names= []
 ·subst hm
  simp[TU,Qm]
 ·rw[if_neg hm]
  have hl1:0<names.length:=List.length_pos_iff.2 hm
  have h1:=Z6d (of:=of) (s:=(⟨#[]⟩:ByteArray)) (i:=0) hn hg hf hb hl1 hl hnm (Nat.le_refl 0)
  have hu:=Zjp (of:=of) hn hg hf hb hl hnm
  have hbs:bts (⟨#[]⟩:ByteArray)= []:=rfl
  have h1':WK n of names [] 0=some (.inl (bts (flR n of (⟨#[]⟩:ByteArray) (Z0 names 0) 0),0+1)):=by
   have:=h1.1
   rw[hbs]at this
   exact this
  have hu:=Zh9 (f:=fun s:(List Int)×Int=>match s with|(l14,v15)=>WK n of names l14 v15) (s0:=([],0)) h1' hu
  have hz:Qm n of names=some (.inl (bts (flR n of (⟨#[]⟩:ByteArray) (Z0 names 0) 0),0+1)):=by
   have hin:inL names 0:=⟨by omega,by omega⟩
   have h2:=hnm _ (ZR hin)
   obtain⟨d1,d2,d3,d4⟩:=Z8E (of:=of) 0 hn hg hf
   have hz2:(Z0 names 0++(⟨#[58]⟩:ByteArray)).size=(Z0 names 0).size+1:=by rw[ByteArray.size_append,Tz]
   have hA:=Z1K (v:=(⟨#[]⟩:ByteArray)) (YT n of 0).1 hb
   have hB:=Z1K (v:=(⟨#[]⟩:ByteArray)) (YT n of 0).2 hb
   have h0:(⟨#[]⟩:ByteArray).size=0:=rfl
   have hl0:(⟨#[32,124]⟩:ByteArray).size=2:=rfl
   have hz3:((Z0 names 0++(⟨#[58]⟩:ByteArray))++Wd n (⟨#[]⟩:ByteArray) (YT n of 0).1).size≤66600∧0<((Z0 names 0++(⟨#[58]⟩:ByteArray))++Wd n (⟨#[]⟩:ByteArray) (YT n of 0).1).size:=by rw[ByteArray.size_append];omega
   have hba:(Z0 names 0++(⟨#[58]⟩:ByteArray))++Wd n (⟨#[]⟩:ByteArray) (YT n of 0).1=Wx n of (⟨#[]⟩:ByteArray) (Z0 names 0) 0:=by rw[←Z6c,ByteArray.empty_append43]
   unfold Qm
   rw[if_pos (decide_eq_true (by omega)),Zb hin,Option.bind_some,d1,Option.bind_some]
   simp only
   rw[if_pos (Wi (by rw[Tz];omega)),Z4c hg.sm hb d3,Option.bind_some,if_pos (Wi (by omega)),Zjl hz3.2 (by omega),Option.bind_some]
   rw[hba]at hz3⊢
   by_cases c:0<(YT n of 0).2.length
   ·have hsz:(Wx n of (⟨#[]⟩:ByteArray) (Z0 names 0) 0++((⟨#[32,124]⟩:ByteArray)++Wd n (⟨#[]⟩:ByteArray) (YT n of 0).2)).size≤133000:=by
     rw[ByteArray.size_append,ByteArray.size_append,hl0];omega
    rw[if_pos (decide_eq_true (by omega)),Z4c hg.sm hb d4,Option.bind_some,if_pos (Wi (by rw[hl0];omega)),Z6a (by rw[ByteArray.size_append,hl0];omega),Option.bind_some]
    rw[←Z41,Z6b (by omega),Option.bind_some, ←Z5T,Z8F c]
    rfl
   ·rw[if_neg (by rw[decide_eq_true_eq];omega),Z6b (by omega),Option.bind_some, ←Z5T,Z8G c]
    rfl
  simp only[TU,hz]
  exact hu
noncomputable def Z6e (n:Z2) (of:List Int) (names:List ByteArray):ByteArray×Int:=if YN n of∧names.length≤10∧(∀s∈names,X0 s)then(Uy n of names,0)else((⟨#[]⟩:ByteArray),2)
theorem Zju (hn:n.Ok) (hg:Ym n 200 100) (hf:Few of) (hb:∀x∈n.devices,x.name.size≤300) (hl:names.length≤40) (hnm:∀s∈names,s.size≤300):Z14 n of names=some (Z6e n of names):=by
 have hs:=hg.sm
 unfold Z14 Z6e
 by_cases ho:YN n of
 case neg=>rw[ZbV hs hf ho,Option.bind_some,if_neg (show ¬(YN n of∧names.length≤10∧∀s∈names,X0 s)from fun q=>ho q.1)];rfl
 obtain⟨b,e,_⟩:=Z8t hn hg hf ho
 rw[e,Option.bind_some]
 simp only
 rw[if_neg (by simp)]
 by_cases c1:names.length≤10
 case neg=>rw[if_pos (decide_eq_true (by omega)),if_neg (show ¬(YN n of∧names.length≤10∧∀s∈names,X0 s)from fun q=>c1 q.2.1)]
 rw[if_neg (by simp;omega),Zha hl hnm,Option.bind_some]
 by_cases c2:∀s∈names,X0 s
 case neg=>rw[decide_eq_false c2,if_pos (by rfl),if_neg (show ¬(YN n of∧names.length≤10∧∀s∈names,X0 s)from fun q=>c2 q.2.2)]
 rw[decide_eq_true c2,if_neg (by simp),if_pos ⟨ho,c1,c2⟩,Zjt hn hg hf hb c1 hnm,Option.bind_some]
 by_cases hm:names= []
 ·rw[if_pos hm]
  simp only[Z38,Option.bind_some]
  subst hm
  rfl
 ·rw[if_neg hm]
  have hz:=Zjr (of:=of) hn hg hf hb c1 hnm
  have hpos:0<(bts (Uy n of names)).length:=Zjs hm
  simp only[Z39,hpos,decide_true,if_true]
  rw[if_pos (Zh8 (by omega)),Option.bind_some,Zh7]
theorem Zjv (hn:n.Ok) (hg:Ym n 200 100) (hf:Few of) (hb:∀x∈n.devices,x.name.size≤300) (hl:names.length≤40) (hnm:∀s∈names,s.size≤300):Z3D n of names=some (Z6e n of names):=by
 have hs:=hg.sm
 unfold Z3D Z6e
 rw[Z63 hs hf,Option.bind_some]
 by_cases ho:YN n of
 case neg=>rw[decide_eq_false ho,if_pos (by rfl),if_neg (show ¬(YN n of∧names.length≤10∧∀s∈names,X0 s)from fun q=>ho q.1)]
 rw[decide_eq_true ho,if_neg (by simp)]
 by_cases c1:names.length≤10
 case neg=>rw[if_pos (decide_eq_true (by omega)),if_neg (show ¬(YN n of∧names.length≤10∧∀s∈names,X0 s)from fun q=>c1 q.2.1)]
 rw[if_neg (by simp;omega),Zhb hl hnm,Option.bind_some]
 by_cases c2:∀s∈names,X0 s
 case neg=>rw[decide_eq_false c2,if_pos (by rfl),if_neg (show ¬(YN n of∧names.length≤10∧∀s∈names,X0 s)from fun q=>c2 q.2.2)]
 rw[decide_eq_true c2,if_neg (by simp),if_pos ⟨ho,c1,c2⟩,Zjq hn hg hf ho.2.1 hb c1 hnm,Option.bind_some]
end
theorem Zjw {of sets:List Int} {T k:Nat} {s:Int} :(YI of sets T k s).length=T:=by unfold YI;simp
theorem Zjx {of sets:List Int} {T k:Nat} :(X2 of sets T k).length=T:=by unfold X2;simp
theorem Zjy {of sets:List Int} {T k:Nat} :∀r∈X2 of sets T k,r.length=T:=by
 intro r hr
 obtain⟨s,_,rfl⟩:=List.mem_map.1 hr
 exact Zjw
theorem Zjz {m:List (List Z6)} :(Uv m).length=m.length:=by unfold Uv;rw[List.length_map]
theorem ZjA {m:List (List Z6)} {k:Nat} (h:∀r∈m,r.length≤k):∀r∈Uv m,r.length≤k:=by
 intro r hr
 obtain⟨q,hq,rfl⟩:=List.mem_map.1 hr
 rw[List.length_map]
 exact h q hq
theorem matrixTells (n:Z2) (of:List Int) (tenants:Int) (names:List ByteArray) (hn:n.Ok) (_:okL (okI .i64) of) (_:okI .i64 tenants) (_:okL okS names):Z5u n of tenants names=some true:=by
 unfold Z5u
 rw[ZbC,ZgS,Option.bind_some]
 by_cases h1:Ym n 200 100
 case neg=>rw[if_pos (by simpa using h1)];rfl
 rw[if_neg (by simpa using h1)]
 by_cases h2:of.length≤300
 case neg=>rw[if_pos (decide_eq_true (by omega))];rfl
 rw[if_neg (by simp;omega),Zhc,Option.bind_some]
 by_cases h3:names.length≤40∧∀s∈names,s.size≤300
 case neg=>rw[decide_eq_true h3,if_pos rfl];rfl
 rw[decide_eq_false (show ¬¬(names.length≤40∧∀s∈names,s.size≤300)from fun q=>q h3),if_neg (by simp)]
 have hs:=h1.sm
 have hdl:=h1.devices
 rw[Zbk (f:=QO n of tenants names) n.devices (fun x=>¬x.name.size≤300) (fun _ _=>true) (by unfold Few;omega) (fun i i0 i1 hi=>by
  have hw:=Zc (n:=i+1) (by omega) (by omega)
  simp only[QO,ZbC,i1,Zb hi,hw,decide_true,if_true,Option.bind_some]
  by_cases c:(Z0 n.devices i).name.size≤300
  ·rw[if_neg (by simp;omega),if_neg (show ¬¬(Z0 n.devices i).name.size≤300 from fun q=>q c)]
  ·rw[if_pos (decide_eq_true (by omega)),if_pos c]) (by simp[QO])]
 by_cases h4:0≤Y4 n.devices (fun x=>¬x.name.size≤300)
 ·rw[if_pos h4];rfl
 rw[if_neg h4,Option.bind_some]
 have hb:∀x∈n.devices,x.name.size≤300:=fun r hr=>Classical.byContradiction (Tq.1 (by omega:Y4 n.devices (fun x=>¬x.name.size≤300) <0) r hr)
 have hf:Few of:=by unfold Few;omega
 simp only[Zje hn h1 h2,Zjf hn h1 h2,Zju hn h1 hf hb h3.1 h3.2,Zjv hn h1 hf hb h3.1 h3.2,Option.bind_some]
 by_cases hfit:Wv n of tenants
 ·have hT:tenants.toNat≤10:=by have:=hfit.2.1;omega
  rw[if_pos hfit,if_pos hfit]
  have hrow:∀r∈X2 of (XV n of) tenants.toNat of.length,r.length≤300:=fun r hr=>by have:=Zjy r hr;omega
  have hlen:(X2 of (XV n of) tenants.toNat of.length).length≤300:=by rw[Zjx];omega
  simp only[ZbB hlen hrow,Option.bind_some,Zch (by rw[Zjz];exact hlen) (ZjA hrow),Zbp,decide_true,if_true,beq_self_eq_true]
 ·rw[if_neg hfit,if_neg hfit]
  have e1:=ZbB (m:= []) (by simp) (by simp)
  have e2:Uv []= []:=rfl
  rw[e2]at e1
  simp only[e1,Option.bind_some,Zch (x:= []) (by simp) (by simp),Zbp,decide_true,if_true,beq_self_eq_true]
end Go.Eng
