/- strings.Join: the library's proved contract in the engine's words. -/
import Derived.Test.YtcclngfmkodgjaaGreatEng14
import Derived.Shelf.Strings.OnBuilder
set_option linter.unusedVariables false
set_option linter.unusedSectionVars false
namespace Go.Eng
open Go Go.RowKit Go.Shelf Go.Proofs
variable {D:Den} [Gl D]

theorem Ze9 {U:Zu D} {t:Nat} {l:List (D t)} {f:D t→AV D} (h:∀x,U.cells t x= [f x]):Z5 U t l=l.map f:=by
 induction l with
 |nil=>rfl
 |cons a r ih=>
  have e:Z5 U t (a::r)=U.cells t a++Z5 U t r:=by simp[Z5]
  rw[e,h,ih];rfl

theorem Zea {P:Program} {ρ:Ren} (L:Lays.n156 P ρ) (X:Builder.Extra P ρ) {U:Zu D} {t f:Nat} {l:List (D t)} {xs:List ByteArray} {sep:ByteArray}
  (hfl:Z5 U t l=xs.map (fun x=>(.v (.string x):AV D))) (hll:l.length=xs.length) (hw:U.width t=1) (hf:ρ.f 156=f) (h:Z4R xs sep=true):
  Z7 P U f [.sl t l, .v (.string sep)] [] (.v (.string (Z4Q xs sep))) []:=by
 subst hf
 obtain⟨hpos,hN,hlen⟩:=of_decide_eq_true h
 refine⟨⟨_,L.f156,rfl,rfl⟩,fun w E vs hi hr=> ?_⟩
 obtain⟨hl,hr⟩:=hr
 match vs,hl,hr with
 | [v0,v1],_,hr=>
  have h0:=hr 0 v0 _ rfl rfl
  have h1:=Yo (hr 1 v1 _ rfl rfl)
  subst h1
  cases Vw h0 with
  |sl0=>simp at hll;omega
  |sl _ _ blk off cap vsf hS hcap hc hrr=>
   have hcells:∀(j:Nat) x,xs[j]?=some x→w.cell? ⟨blk,off+j,none⟩=some (.string x):=fun j x hx=>by
    have hd:(Z5 U t l)[j]?=some (.v (.string x)):=by rw[hfl,List.getElem?_map,hx];rfl
    have h2:=hrr j _ hd
    have h3:=hc j _ hd
    have h4:=Yo (.pure _ _ h2:Rep U w E [] (vsf j) (.v (.string x)))
    rw[h4]at h3
    exact h3
   have:=Any.strings_Join L X blk off cap xs sep w hcells (hi.sb blk hS) hN (by omega) hlen
   rw[hll]
   refine this.mono ?_
   rintro e w' ⟨rfl,hb⟩
   refine⟨_,E,rfl,⟨fun id o h=>by simp at h,fun i j oi oj b h=>by simp at h,fun b hbS=>Nat.lt_of_lt_of_le (hi.sb b hbS) hb.size,fun g r hg=>(hi.gl g r hg).mono (fun _ h=>h) (fun b hbS=>hb.block b (hi.sb b hbS))⟩,
    ⟨hb.os,hb.tape,hb.output,fun a ha _=> ?_,hb.size,fun b hlt _=>hb.block b hlt,fun _ _ h=>h,fun _ h=>h,fun _ h=> .inl h,Evo.refl U E []⟩, .v _⟩
   unfold World.frozen?
   rw[hb.block a.block ha]
end Go.Eng
