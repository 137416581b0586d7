/- strings.Join: the library's proved contract in the engine's words. -/
import Derived.Test.YtcclngfmkodgjaaGreatEng14
import Derived.Shelf.Strings.OnBuilder
set_option linter.unusedVariables false
set_option linter.unusedSectionVars false
namespace Go.Eng
open Go Go.RowKit Go.Shelf Go.Proofs
variable {D : Den} [Gl D]

theorem flat_one {U : Univ D} {t : Nat} {l : List (D t)} {f : D t → AV D} (h : ∀ x, U.cells t x = [f x]) : flatL U t l = l.map f := by
  induction l with
  | nil => rfl
  | cons a r ih =>
    have e : flatL U t (a :: r) = U.cells t a ++ flatL U t r := by simp [flatL]
    rw [e, h, ih]; rfl

theorem join_calls {P : Program} {ρ : Ren} (L : Lays.n156 P ρ) (X : Builder.Extra P ρ) {U : Univ D} {t f : Nat} {l : List (D t)} {xs : List ByteArray} {sep : ByteArray}
    (hfl : flatL U t l = xs.map (fun x => (.v (.string x) : AV D))) (hll : l.length = xs.length) (hw : U.width t = 1) (hf : ρ.f 156 = f) (h : joinok xs sep = true) :
    CallsOK P U f [.sl t l, .v (.string sep)] [] (.v (.string (joinTx xs sep))) [] := by
  subst hf
  obtain ⟨hpos, hN, hlen⟩ := of_decide_eq_true h
  refine ⟨⟨_, L.f156, rfl, rfl⟩, fun w E vs hi hr => ?_⟩
  obtain ⟨hl, hr⟩ := hr
  match vs, hl, hr with
  | [v0, v1], _, hr =>
    have h0 := hr 0 v0 _ rfl rfl
    have h1 := rep_v (hr 1 v1 _ rfl rfl)
    subst h1
    cases rep_sl h0 with
    | sl0 => simp at hll; omega
    | sl _ _ blk off cap vsf hS hcap hc hrr =>
      have hcells : ∀ (j : Nat) x, xs[j]? = some x → w.cell? ⟨blk, off + j, none⟩ = some (.string x) := fun j x hx => by
        have hd : (flatL U t l)[j]? = some (.v (.string x)) := by rw [hfl, List.getElem?_map, hx]; rfl
        have h2 := hrr j _ hd
        have h3 := hc j _ hd
        have h4 := rep_v (.pure _ _ h2 : Rep U w E [] (vsf j) (.v (.string x)))
        rw [h4] at h3
        exact h3
      have := Any.strings_Join L X blk off cap xs sep w hcells (hi.sb blk hS) hN (by omega) hlen
      rw [hll]
      refine this.mono ?_
      rintro e w' ⟨rfl, hb⟩
      refine ⟨_, E, rfl, ⟨fun id o h => by simp at h, fun i j oi oj b h => by simp at h, fun b hbS => Nat.lt_of_lt_of_le (hi.sb b hbS) hb.size, fun g r hg => (hi.gl g r hg).mono (fun _ h => h) (fun b hbS => hb.block b (hi.sb b hbS))⟩,
        ⟨hb.os, hb.tape, hb.output, fun a ha _ => ?_, hb.size, fun b hlt _ => hb.block b hlt, fun _ _ h => h, fun _ h => h, fun _ h => .inl h, Evo.refl U E []⟩, .v _⟩
      unfold World.frozen?
      rw [hb.block a.block ha]
end Go.Eng
