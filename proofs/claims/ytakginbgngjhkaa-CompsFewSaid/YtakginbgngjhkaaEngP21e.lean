/- Plain laws of chapter 21 (comps): how many parts there are: CompsFew. -/
import Derived.Test.YtakginbgngjhkaaEngP21d
set_option linter.unusedVariables false
set_option linter.unusedSectionVars false
set_option linter.unusedSimpArgs false
namespace Go.Eng
open Go Classical
attribute [local congr] ite_cg
section
variable {n : Api_Net}
/-- Two peers of one domain are always peers. -/
def FullP (n : Api_Net) : Prop := ∀ i, inL n.domains i → ∀ k ∈ (getI n.domains i).peers, ∀ x ∈ (getI n.domains i).peers, x = k ∨ x ∈ (getI n.domains k).peers
theorem full4_spec (hg : BndN n 200 100) {v2 v6 v10 : Int} {x4 : Api_Domain} {k x : Int} (hk : inL n.domains k) {b : Bool} :
    loopM (fun s : Bool × Int => match s with | (v16, v17) => palinglaw21_full_L4 n v2 x4 v6 k v10 x (getI n.domains k) v16 v17) (b, 0) = some (b || decide (x ∈ (getI n.domains k).peers)) := by
  have hpl := hg.peers _ (getI_mem hk)
  have := loop_fold (f := fun s : Bool × Int => match s with | (v16, v17) => palinglaw21_full_L4 n v2 x4 v6 k v10 x (getI n.domains k) v16 v17) (getI n.domains k).peers (fun s j => (s, j)) (fun _ y m => m || decide (y = x)) b (out := id) (by omega) (fun _ _ => True) trivial (fun j y s hj hlt _ => by
    have hw := wr64 (n := (j : Int) + 1) (by omega) (by omega)
    have c : (j : Int) < ((getI n.domains k).peers.length : Int) := by omega
    have hq : nth (getI n.domains k).peers (j : Int) = some y := by rw [nth_nat]; exact hj
    refine ⟨?_, trivial⟩
    simp only [palinglaw21_full_L4, c, hq, hw, decide_true, if_true, Option.bind_some]
    cases s <;> simp [ibeq]) (fun s _ => by simp [palinglaw21_full_L4])
  rw [this]
  have key : ∀ (l : List Int) (b : Bool), l.foldl (fun m y => m || decide (y = x)) b = (b || decide (x ∈ l)) := by
    intro l
    induction l with
    | nil => intro b; simp
    | cons y l ih =>
      intro b
      rw [List.foldl_cons, ih]
      by_cases h1 : y = x
      · subst h1; simp
      · have : ¬ x = y := fun e => h1 e.symm
        simp [h1, this]
  simp only [id]
  rw [zipIdx_foldl (fun y m => m || decide (y = x)), key]
theorem full_spec (hg : BndN n 200 100) (hr : RightP n) : palinglaw21_full n = some (decide (FullP n)) := by
  have hd := hg.domains
  have hpl : ∀ {i}, inL n.domains i → (getI n.domains i).peers.length ≤ 100 := fun h => hg.peers _ (getI_mem h)
  unfold palinglaw21_full
  rw [loop_each (f := palinglaw21_full_L1 n) n.domains (fun i d => EachP d.peers (fun j k => EachP d.peers (fun m x => x = k ∨ x ∈ (getI n.domains k).peers))) (.inl ()) (.inr ()) (by unfold Few; omega) (fun i h0 h1 hi => by
    have hw := wr64 (n := i + 1) (by omega) (by omega)
    have hp := hpl hi
    have e2 := loop_each (f := palinglaw21_full_L2 n i (getI n.domains i)) (getI n.domains i).peers (fun j k => EachP (getI n.domains i).peers (fun m x => x = k ∨ x ∈ (getI n.domains k).peers)) (Sum.inl () : Unit ⊕ Unit) (.inr ()) (by unfold Few; omega) (fun j g0 g1 hj => by
      have hw := wr64 (n := j + 1) (by omega) (by omega)
      have hk : inL n.domains (getI (getI n.domains i).peers j) := (EP_in hr ⟨hi, getI_mem hj⟩).2
      have e3 := loop_each (f := palinglaw21_full_L3 n i (getI n.domains i) j (getI (getI n.domains i).peers j)) (getI n.domains i).peers (fun m x => x = getI (getI n.domains i).peers j ∨ x ∈ (getI n.domains (getI (getI n.domains i).peers j)).peers) (Sum.inl () : Unit ⊕ Unit) (.inr ()) (by unfold Few; omega) (fun m q0 q1 hm => by
        have hw := wr64 (n := m + 1) (by omega) (by omega)
        simp only [palinglaw21_full_L3, q1, nth_getI hm, nth_getI hk, full4_spec hg hk, hw, decide_true, if_true, Option.bind_some, ibeq]
        by_cases d1 : getI (getI n.domains i).peers m = getI (getI n.domains i).peers j <;> by_cases d2 : getI (getI n.domains i).peers m ∈ (getI n.domains (getI (getI n.domains i).peers j)).peers <;> simp [d1, d2]
        all_goals simp_all) (by simp [palinglaw21_full_L3])
      simp only [palinglaw21_full_L2, g1, nth_getI hj, e3, hw, decide_true, if_true, Option.bind_some]
      split <;> rfl) (by simp [palinglaw21_full_L2])
    simp only [palinglaw21_full_L1, h1, nth_getI hi, e2, hw, decide_true, if_true, Option.bind_some]
    split <;> rfl) (by simp [palinglaw21_full_L1])]
  have : (EachP n.domains fun i d => EachP d.peers (fun j k => EachP d.peers (fun m x => x = k ∨ x ∈ (getI n.domains k).peers))) ↔ FullP n := by
    unfold FullP
    refine forall_congr' fun i => imp_congr_right fun hi => ?_
    show EachP (getI n.domains i).peers (fun _ k => EachP (getI n.domains i).peers (fun m x => x = k ∨ x ∈ (getI n.domains k).peers)) ↔ _
    rw [eachP_mem (P := fun k => EachP (getI n.domains i).peers (fun m x => x = k ∨ x ∈ (getI n.domains k).peers))]
    refine forall_congr' fun k => imp_congr_right fun hk => ?_
    rw [eachP_mem (P := fun x => x = k ∨ x ∈ (getI n.domains k).peers)]
  simp only [this]
  by_cases h : FullP n <;> simp [h]

/-! ### Meshes of a net whose meshes are full -/
theorem peer_sym (hr : RightP n) {i k : Int} (hi : inL n.domains i) (hk : k ∈ (getI n.domains i).peers) : inL n.domains k ∧ k ≠ i ∧ i ∈ (getI n.domains k).peers := by
  obtain ⟨j, hj, rfl⟩ := mem_getI hk
  have := (hr.peers i hi j hj).1
  exact ⟨this.1, this.2.1, this.2.2.2.2.2.2.2.2⟩
theorem full_mesh (hr : RightP n) (hf : FullP n) {i k : Int} (hi : inL n.domains i) (hk : k ∈ (getI n.domains i).peers) : meshI n k = meshI n i := by
  obtain ⟨k1, k2, k3⟩ := peer_sym hr hi hk
  obtain ⟨a, b, c⟩ := leastL_spec (getI n.domains i).peers i
  refine leastL_uniq (b k hk) (fun y hy => ?_) ?_
  · by_cases e : y = i
    · subst e; exact a
    · have := hf k k1 i k3 y hy
      rcases this with rfl | h
      · exact a
      · exact b y h
  · rcases c with e | h
    · right; show leastL i (getI n.domains i).peers ∈ _; rw [e]; exact k3
    · rcases hf i hi k hk _ h with e | h2
      · left; exact e
      · right; exact h2
/-- A domain that is its mesh's least. -/
def HeadP (n : Api_Net) (m : Int) : Prop := (getI n.domains m).peers ≠ [] ∧ ∀ k ∈ (getI n.domains m).peers, m < k
theorem head_iff (hr : RightP n) (hf : FullP n) {m : Int} (hm : inL n.domains m) : HeadP n m ↔ ∃ i, inL n.domains i ∧ (getI n.domains i).peers ≠ [] ∧ meshI n i = m := by
  constructor
  · rintro ⟨h1, h2⟩
    refine ⟨m, hm, h1, leastL_uniq (Int.le_refl _) (fun y hy => by have := h2 y hy; omega) (.inl rfl)⟩
  · rintro ⟨i, hi, h1, rfl⟩
    obtain ⟨a, b, c⟩ := leastL_spec (getI n.domains i).peers i
    have key : ∀ m, inL n.domains m → (getI n.domains m).peers ≠ [] → meshI n m = m → HeadP n m := fun m hm hp he => ⟨hp, fun k hk => by
      have h1 := (leastL_spec (getI n.domains m).peers m).2.1 k hk
      have h2 := (peer_sym hr hm hk).2.1
      have : leastL m (getI n.domains m).peers = m := he
      omega⟩
    rcases c with e | h
    · have e : meshI n i = i := e
      rw [e]; exact key i hi h1 e
    · have h : meshI n i ∈ (getI n.domains i).peers := h
      obtain ⟨q1, q2, q3⟩ := peer_sym hr hi h
      exact key _ q1 (List.ne_nil_of_mem q3) (full_mesh hr hf hi h)

/-! ### Counting -/
/-- The tops when all domains ahead of a place are joined to their meshes. -/
noncomputable def TJ (n : Api_Net) (T : Int → Int) : Nat → Int → Int
  | 0 => T
  | k + 1 => if (getI n.domains (k : Int)).peers = [] then TJ n T k else joinT (TJ n T k) (k : Int) ((n.domains.length : Int) + meshI n (k : Int))
theorem TJ_least (hr : RightP n) {T : Int → Int} (ht : LeastT (EM n 0) T ((2 * n.domains.length : Nat) : Int)) : ∀ k : Nat, k ≤ n.domains.length → LeastT (EM n (k : Int)) (TJ n T k) ((2 * n.domains.length : Nat) : Int) := by
  intro k
  induction k with
  | zero => intro _; exact ht
  | succ k ih =>
    intro hk
    have h := ih (by omega)
    have hi : inL n.domains (k : Int) := ⟨by omega, by omega⟩
    have hm := meshI_in hr hi
    have step : ∀ x y, EM n (((k + 1 : Nat)) : Int) x y ↔ EM n (k : Int) x y ∨ (x = (k : Int) ∧ (getI n.domains (k : Int)).peers ≠ [] ∧ y = (n.domains.length : Int) + meshI n (k : Int)) := fun x y => by
      unfold EM
      constructor
      · rintro (g | ⟨a, b, c, d⟩)
        · exact .inl (.inl g)
        · by_cases e : x = (k : Int)
          · subst e; exact .inr ⟨rfl, c, d⟩
          · exact .inl (.inr ⟨a, by omega, c, d⟩)
      · rintro ((g | ⟨a, b, c, d⟩) | ⟨rfl, c, d⟩)
        · exact .inl g
        · exact .inr ⟨a, by omega, c, d⟩
        · exact .inr ⟨hi, by omega, c, d⟩
    show LeastT _ (if (getI n.domains (k : Int)).peers = [] then TJ n T k else joinT (TJ n T k) (k : Int) ((n.domains.length : Int) + meshI n (k : Int))) _
    by_cases hp : (getI n.domains (k : Int)).peers = []
    · rw [if_pos hp]
      exact h.congrE fun x y => by rw [step]; exact ⟨.inl, fun g => g.elim id (fun q => absurd hp q.2.1)⟩
    · rw [if_neg hp]
      have hj := h.join (a := (k : Int)) (b := (n.domains.length : Int) + meshI n (k : Int)) (fun x y g => by
        rcases g with g | g
        · have := ER_in hr g
          have h1 := this.1.1; have h2 := this.1.2; have h3 := this.2.1; have h4 := this.2.2
          exact ⟨⟨by omega, by omega⟩, by omega, by omega⟩
        · exact MJ_in hr g) (by omega) (by omega) (by omega) (by omega)
      refine hj.congrE fun x y => ?_
      rw [step]
      exact or_congr Iff.rfl ⟨fun ⟨a, b⟩ => ⟨a, hp, b⟩, fun ⟨a, _, b⟩ => ⟨a, b⟩⟩
/-- A domain has peers. -/
def EndP (n : Api_Net) (x : Int) : Prop := (getI n.domains x).peers ≠ []
theorem cntI_succ (P : Int → Prop) (k : Nat) [Decidable (P (k : Int))] : cntI P (k + 1) = cntI P k + if P (k : Int) then 1 else 0 := by
  by_cases h : P (k : Int) <;> simp [cntI, h]
/-- How many domains have peers, ahead of a place. -/
theorem roots_all (hr : RightP n) {T : Int → Int} (ht : LeastT (EM n 0) T ((2 * n.domains.length : Nat) : Int)) : ∀ k : Nat, k ≤ n.domains.length →
    (cntI (fun x => T x = x) (2 * n.domains.length) ≤ cntI (fun x => TJ n T k x = x) (2 * n.domains.length) + cntI (EndP n) k) ∧
    ((∀ j, 0 ≤ j → j < (k : Int) → ¬ LoopAt n j) ↔ cntI (fun x => T x = x) (2 * n.domains.length) = cntI (fun x => TJ n T k x = x) (2 * n.domains.length) + cntI (EndP n) k) := by
  intro k
  induction k with
  | zero =>
    intro _
    refine ⟨by simp [TJ, cntI], ⟨fun _ => by simp [TJ, cntI], fun _ j a b => by omega⟩⟩
  | succ k ih =>
    intro hk
    obtain ⟨i1, i2⟩ := ih (by omega)
    have hi : inL n.domains (k : Int) := ⟨by omega, by omega⟩
    have hm := meshI_in hr hi
    have hl := TJ_least hr ht k (by omega)
    have ec : cntI (EndP n) (k + 1) = cntI (EndP n) k + if EndP n (k : Int) then 1 else 0 := cntI_succ _ _
    have split_ : (∀ j, 0 ≤ j → j < ((k + 1 : Nat) : Int) → ¬ LoopAt n j) ↔ (∀ j, 0 ≤ j → j < (k : Int) → ¬ LoopAt n j) ∧ ¬ LoopAt n (k : Int) := by
      constructor
      · exact fun h => ⟨fun j a b => h j a (by omega), h _ (by omega) (by omega)⟩
      · rintro ⟨h1, h2⟩ j a b
        by_cases e : j = (k : Int)
        · subst e; exact h2
        · exact h1 j a (by omega)
    rw [split_, ec]
    show _ ≤ cntI (fun x => (if (getI n.domains (k : Int)).peers = [] then TJ n T k else joinT (TJ n T k) (k : Int) ((n.domains.length : Int) + meshI n (k : Int))) x = x) _ + _ ∧ (_ ↔ _ = cntI (fun x => (if (getI n.domains (k : Int)).peers = [] then TJ n T k else joinT (TJ n T k) (k : Int) ((n.domains.length : Int) + meshI n (k : Int))) x = x) _ + _)
    by_cases hp : (getI n.domains (k : Int)).peers = []
    · have hno : ¬ LoopAt n (k : Int) := fun h => h.1 hp
      have hE : ¬ EndP n (k : Int) := fun h => h hp
      simp only [hp, hE, if_true, if_false, Nat.add_zero]
      exact ⟨i1, by rw [← i2]; exact ⟨fun h => h.1, fun h => ⟨h, hno⟩⟩⟩
    · have hj := roots_join hl (a := (k : Int)) (b := (n.domains.length : Int) + meshI n (k : Int)) (by omega) (by omega) (by omega) (by omega)
      have hcn := hl.iff (x := (k : Int)) (y := (n.domains.length : Int) + meshI n (k : Int)) (by omega) (by omega) (by omega) (by omega)
      have hE : EndP n (k : Int) := hp
      simp only [hp, hE, if_false, if_true]
      by_cases hc : TJ n T k (k : Int) = TJ n T k ((n.domains.length : Int) + meshI n (k : Int))
      · have hlo : LoopAt n (k : Int) := ⟨hp, hcn.1 hc⟩
        rw [if_pos hc] at hj
        refine ⟨by omega, ⟨fun h => absurd hlo h.2, fun h => ?_⟩⟩
        omega
      · have hlo : ¬ LoopAt n (k : Int) := fun h => hc (hcn.2 h.2)
        rw [if_neg hc] at hj
        refine ⟨by omega, ⟨fun h => ?_, fun h => ⟨i2.2 (by omega), hlo⟩⟩⟩
        have := i2.1 h.1
        omega
/-- The parts by all, told by the joined trees. -/
theorem few_count (hr : RightP n) (hf : FullP n) {T U : Int → Int} (ht : LeastT (EM n 0) T ((2 * n.domains.length : Nat) : Int)) (hu : LeastT (EA n) U n.domains.length) :
    (∀ j, 0 ≤ j → j < (n.domains.length : Int) → ¬ LoopAt n j) ↔ cntI (fun x => T x = x) n.domains.length + cntI (HeadP n) n.domains.length = cntI (fun x => U x = x) n.domains.length + cntI (EndP n) n.domains.length := by
  have hro := (roots_all hr ht n.domains.length (Nat.le_refl _)).2
  have hF := TJ_least hr ht n.domains.length (Nat.le_refl _)
  rw [hro]
  generalize TJ n T n.domains.length = F at *
  have two : 2 * n.domains.length = n.domains.length + n.domains.length := by omega
  -- what hangs together in the joined trees
  have hup : ∀ {x y}, Conn (EA n) x y → Conn (EM n n.domains.length) x y := fun c => c.sub fun x y g => by
    rcases g with g | g
    · exact .edge (.inl g)
    · obtain ⟨gx, gy⟩ := EP_in hr g
      have s := peer_sym hr gx g.2
      have e1 : EM n n.domains.length x (n.domains.length + meshI n x) := .inr ⟨gx, gx.2, List.ne_nil_of_mem g.2, rfl⟩
      have e2 : EM n n.domains.length y (n.domains.length + meshI n y) := .inr ⟨gy, gy.2, List.ne_nil_of_mem s.2.2, rfl⟩
      rw [full_mesh hr hf gx g.2] at e2
      exact (Conn.edge e1).trans (Conn.edge e2).symm
  let φ : Int → Int := fun x => if x < (n.domains.length : Int) then U x else if ∃ i, inL n.domains i ∧ (getI n.domains i).peers ≠ [] ∧ meshI n i = x - n.domains.length then U (x - n.domains.length) else x
  have hmesh : ∀ {i}, inL n.domains i → Conn (EA n) i (meshI n i) := fun {i} hi => by
    obtain ⟨_, _, c⟩ := leastL_spec (getI n.domains i).peers i
    rcases c with e | h
    · show Conn (EA n) i (leastL i (getI n.domains i).peers); rw [e]; exact .refl _
    · exact .edge (.inr ⟨hi, h⟩)
  have hdown : ∀ {x y}, Conn (EM n n.domains.length) x y → φ x = φ y := fun c => Conn.inv (T := φ) (fun x y g => by
    rcases g with g | ⟨gx, _, gp, rfl⟩
    · obtain ⟨gx, gy⟩ := ER_in hr g
      simp only [φ, gx.2, gy.2, if_true]
      exact hu.same x y gx.1 gx.2 gy.1 gy.2 (.edge (.inl g))
    · have hm := meshI_in hr gx
      have c1 : ¬ (n.domains.length : Int) + meshI n x < n.domains.length := by omega
      have e : (n.domains.length : Int) + meshI n x - n.domains.length = meshI n x := by omega
      simp only [φ, gx.2, c1, e, if_true, if_false]
      rw [if_pos ⟨x, gx, gp, rfl⟩]
      exact hu.same x _ gx.1 gx.2 hm.1 (by have := gx.2; omega) (hmesh gx)) c
  have hFU : ∀ x, 0 ≤ x → x < (n.domains.length : Int) → (F x = x ↔ U x = x) := fun x x0 x1 => by
    have f0 := hF.lo x x0 (by omega); have f1 := hF.le x x0 (by omega); have fc := hF.conn x x0 (by omega)
    have u0 := hu.lo x x0 x1; have u1 := hu.le x x0 x1; have uc := hup (hu.conn x x0 x1)
    constructor
    · intro e
      have := hF.same x (U x) x0 (by omega) u0 (by omega) uc
      have := hF.le (U x) u0 (by omega)
      omega
    · intro e
      have h1 := hdown fc
      have c2 : F x < (n.domains.length : Int) := by omega
      simp only [φ, x1, c2, if_true] at h1
      have := hu.le (F x) f0 c2
      omega
  have hTT : ∀ x, 0 ≤ x → x < (n.domains.length : Int) → (T (n.domains.length + x) = n.domains.length + x) := fun x x0 x1 => by
    have tc := ht.conn ((n.domains.length : Int) + x) (by omega) (by omega)
    have tl := ht.le ((n.domains.length : Int) + x) (by omega) (by omega)
    have := Conn.inv (T := fun y : Int => if y < (n.domains.length : Int) then (-1 : Int) else y) (fun u v g => by
      rcases g with g | g
      · obtain ⟨gx, gy⟩ := ER_in hr g
        simp only [gx.2, gy.2, if_true]
      · have := g.1.1; have := g.2.1; omega) tc
    have c1 : ¬ (n.domains.length : Int) + x < n.domains.length := by omega
    simp only [c1, if_false] at this
    split at this
    · omega
    · exact this.symm
  have hFM : ∀ x, 0 ≤ x → x < (n.domains.length : Int) → (F (n.domains.length + x) = n.domains.length + x ↔ ¬ HeadP n x) := fun x x0 x1 => by
    rw [head_iff hr hf ⟨x0, x1⟩]
    constructor
    · rintro e ⟨i, hi, hp, hm⟩
      have c : Conn (EM n n.domains.length) i (n.domains.length + x) := .edge (.inr ⟨hi, hi.2, hp, by rw [hm]⟩)
      have h1 := hF.same i _ hi.1 (by have := hi.2; omega) (by omega) (by omega) c
      have h2 := hF.le i hi.1 (by have := hi.2; omega)
      have := hi.2
      omega
    · intro h
      have fc := hF.conn ((n.domains.length : Int) + x) (by omega) (by omega)
      have f1 := hF.le ((n.domains.length : Int) + x) (by omega) (by omega)
      have f0 := hF.lo ((n.domains.length : Int) + x) (by omega) (by omega)
      have h1 := hdown fc
      have c1 : ¬ (n.domains.length : Int) + x < n.domains.length := by omega
      have e : (n.domains.length : Int) + x - n.domains.length = x := by omega
      simp only [φ, c1, e, if_false] at h1
      rw [if_neg h] at h1
      by_cases c2 : F (n.domains.length + x) < (n.domains.length : Int)
      · rw [if_pos c2] at h1
        have := hu.le _ f0 c2; omega
      · rw [if_neg c2] at h1
        split at h1
        · rename_i q
          have := hu.le (F (n.domains.length + x) - n.domains.length) (by omega) (by omega)
          omega
        · exact h1.symm
  rw [two, cntI_split, cntI_split, cntI_congr (P := fun x => F x = x) (Q := fun x => U x = x) hFU, cntI_congr (P := fun x => F (n.domains.length + x) = n.domains.length + x) (Q := fun x => ¬ HeadP n x) hFM,
    cntI_congr (P := fun x => T (n.domains.length + x) = n.domains.length + x) (Q := fun _ => True) (fun x a b => by simp [hTT x a b]), cntI_true]
  have := @cntI_not (HeadP n) n.domains.length
  omega

theorem compsFew (n : Api_Net) (_ : n.Ok) : palinglaw21_CompsFew n = some true := by
  simp only [palinglaw21_CompsFew, works21, Great_spec, bind_ite, Option.bind_some, dif1, dif2, dif3, dif4, dif5, dif6, dif7, dnot, ibeq, ibne, decide_eq_true_eq, if_not2, ge_iff_le, gt_iff_lt, fst_ret, Bool.false_eq_true, decide_false]
  by_cases hg : BndN n 200 100
  case neg => simp [hg]
  have hs := hg.sm
  have hd := hg.domains
  by_cases hr : RightP n
  case neg => simp [hg, names_Right_spec hs, hr]
  have hpl : ∀ {i}, inL n.domains i → (getI n.domains i).peers.length ≤ 100 := fun h => hg.peers _ (getI_mem h)
  -- lists of unlike lengths
  obtain ⟨q, eq1, hq⟩ := loopM_rule (f := palinglaw21_CompsFew_L1 n) (fun i => 0 ≤ i ∧ i ≤ n.domains.length) (fun r : Bool ⊕ Unit => r = .inl true ∨ r = .inr ()) (fun i => (n.domains.length - i).toNat) (s := (0 : Int)) (fun i hI => by
    by_cases c : i < (n.domains.length : Int)
    · have hi : inL n.domains i := ⟨hI.1, c⟩
      have hw := wr64 (n := i + 1) (by omega) (by omega)
      have hp := hpl hi
      obtain ⟨q, e, hq⟩ := loopM_rule (f := palinglaw21_CompsFew_L2 n i (getI n.domains i)) (fun j => 0 ≤ j ∧ j ≤ (getI n.domains i).peers.length) (fun r : Bool ⊕ Unit => r = .inl true ∨ r = .inr ()) (fun j => ((getI n.domains i).peers.length - j).toNat) (s := (0 : Int)) (fun j hJ => by
        by_cases c2 : j < ((getI n.domains i).peers.length : Int)
        · have hj : inL (getI n.domains i).peers j := ⟨hJ.1, c2⟩
          have hw := wr64 (n := j + 1) (by omega) (by omega)
          have hk : inL n.domains (getI (getI n.domains i).peers j) := (EP_in hr ⟨hi, getI_mem hj⟩).2
          have b1 : ¬ getI (getI n.domains i).peers j < 0 := by have := hk.1; omega
          have b2 : ¬ (n.domains.length : Int) ≤ getI (getI n.domains i).peers j := by have := hk.2; omega
          by_cases d : (getI n.domains (getI (getI n.domains i).peers j)).peers.length = (getI n.domains i).peers.length
          · have d' : ((getI n.domains (getI (getI n.domains i).peers j)).peers.length : Int) = (getI n.domains i).peers.length := by omega
            exact ⟨.inl (j + 1), by simp [palinglaw21_CompsFew_L2, c2, nth_getI hj, b1, b2, nth_getI hk, d', hw], ⟨by omega, by omega⟩, by omega⟩
          · have d' : ¬ ((getI n.domains (getI (getI n.domains i).peers j)).peers.length : Int) = (getI n.domains i).peers.length := by omega
            exact ⟨.inr (.inl true), by simp [palinglaw21_CompsFew_L2, c2, nth_getI hj, b1, b2, nth_getI hk, d'], .inl rfl⟩
        · exact ⟨.inr (.inr ()), by simp [palinglaw21_CompsFew_L2, c2], .inr rfl⟩) ⟨by omega, by omega⟩ (by omega)
      rcases hq with rfl | rfl
      · exact ⟨.inr (.inl true), by simp [palinglaw21_CompsFew_L1, c, nth_getI hi, e], .inl rfl⟩
      · exact ⟨.inl (i + 1), by simp [palinglaw21_CompsFew_L1, c, nth_getI hi, e, hw], ⟨by omega, by omega⟩, by omega⟩
    · exact ⟨.inr (.inr ()), by simp [palinglaw21_CompsFew_L1, c], .inr rfl⟩) ⟨by omega, by omega⟩ (by omega)
  rcases hq with rfl | rfl
  · simp [hg, names_Right_spec hs, hr, eq1]
  obtain ⟨T, ht, e1⟩ := comps_Links_spec hg hr
  obtain ⟨U, hu, e2⟩ := comps_All_spec hg hr
  -- counts
  have L6 : ∀ {i : Int} (hi : inL n.domains i) {l34 l37 : List Int} {r38 : Int × Bool} {v44 v45 v55 v63 : Int}, loopM (fun s : Bool × Int => match s with | (v66, v67) => palinglaw21_CompsFew_L6 n l34 l37 r38 v44 v45 i (getI n.domains i) v55 v63 v66 v67) (decide (((getI n.domains i).peers.length : Int) > 0), 0) = some (decide (HeadP n i)) := by
    intro i hi l34 l37 r38 v44 v45 v55 v63
    have hp := hpl hi
    have := loop_fold (f := fun s : Bool × Int => match s with | (v66, v67) => palinglaw21_CompsFew_L6 n l34 l37 r38 v44 v45 i (getI n.domains i) v55 v63 v66 v67) (getI n.domains i).peers (fun s j => (s, j)) (fun _ y m => m && decide (i < y)) (decide (((getI n.domains i).peers.length : Int) > 0)) (out := id) (by omega) (fun _ _ => True) trivial (fun j y s hj hlt _ => by
      have hw := wr64 (n := (j : Int) + 1) (by omega) (by omega)
      have c : (j : Int) < ((getI n.domains i).peers.length : Int) := by omega
      have hq : nth (getI n.domains i).peers (j : Int) = some y := by rw [nth_nat]; exact hj
      refine ⟨?_, trivial⟩
      simp only [palinglaw21_CompsFew_L6, c, hq, hw, decide_true, if_true, Option.bind_some]
      cases s <;> simp) (fun s _ => by simp [palinglaw21_CompsFew_L6])
    rw [this]
    have key : ∀ (l : List Int) (b : Bool), l.foldl (fun m y => m && decide (i < y)) b = (b && decide (∀ y ∈ l, i < y)) := by
      intro l
      induction l with
      | nil => intro b; simp
      | cons y l ih =>
        intro b
        rw [List.foldl_cons, ih]
        by_cases h1 : i < y <;> simp [h1]
    simp only [id]
    rw [zipIdx_foldl (fun y m => m && decide (i < y)), key]
    unfold HeadP
    cases hcs : (getI n.domains i).peers with
    | nil => simp
    | cons a l =>
      have : ((a :: l).length : Int) > 0 := by simp [Int.add_pos_of_nonneg_of_pos]
      simp
  have hcount := loopM_rule (f := fun s : Int × Int × Int × Int × Int => match s with | (v42, v43, v44, v45, v46) => palinglaw21_CompsFew_L3 n (mkL n.domains.length T) (mkL n.domains.length U) (loopR n) v42 v43 v44 v45 v46)
    (fun s => ∃ k : Nat, s.2.2.2.2 = (k : Int) ∧ k ≤ n.domains.length ∧ s.1 = (cntI (fun x => T x = x) k : Nat) ∧ s.2.1 = (cntI (fun x => U x = x) k : Nat) ∧ s.2.2.1 = (cntI (EndP n) k : Nat) ∧ s.2.2.2.1 = (cntI (HeadP n) k : Nat))
    (fun r => r = (((cntI (fun x => T x = x) n.domains.length : Nat) : Int), ((cntI (fun x => U x = x) n.domains.length : Nat) : Int), ((cntI (EndP n) n.domains.length : Nat) : Int), ((cntI (HeadP n) n.domains.length : Nat) : Int))) (fun s => (n.domains.length - s.2.2.2.2).toNat) (s := (0, 0, 0, 0, 0)) (fun s hI => by
      obtain ⟨c1, c2, c3, c4, i⟩ := s
      obtain ⟨k, hk, hkn, h1, h2, h3, h4⟩ := hI
      simp only at hk h1 h2 h3 h4 ⊢
      subst hk; subst h1; subst h2; subst h3; subst h4
      have b1 := @cntI_le (fun x => T x = x) k
      have b2 := @cntI_le (fun x => U x = x) k
      have b3 := @cntI_le (EndP n) k
      have b4 := @cntI_le (HeadP n) k
      by_cases c : (k : Int) < (n.domains.length : Int)
      · have hi : inL n.domains (k : Int) := ⟨by omega, c⟩
        have hw := wr64 (n := (k : Int) + 1) (by omega) (by omega)
        have w1 := wr64 (n := ((cntI (fun x => T x = x) k : Nat) : Int) + 1) (by omega) (by omega)
        have w2 := wr64 (n := ((cntI (fun x => U x = x) k : Nat) : Int) + 1) (by omega) (by omega)
        have w3 := wr64 (n := ((cntI (EndP n) k : Nat) : Int) + 1) (by omega) (by omega)
        have w4 := wr64 (n := ((cntI (HeadP n) k : Nat) : Int) + 1) (by omega) (by omega)
        have gi : ∀ {V : Int → Int}, (mkL n.domains.length V)[((k : Int)).toNat]? = some (V (k : Int)) := fun {V} => by rw [getI_get? (mkL_inL.2 ⟨hi.1, hi.2⟩), mkL_get (mkL_inL.2 ⟨hi.1, hi.2⟩)]
        have li : ∀ {V : Int → Int}, lin (mkL n.domains.length V) (k : Int) = true := fun {V} => lin_true (mkL_inL.2 ⟨hi.1, hi.2⟩)
        have s1 : cntI (fun x => T x = x) (k + 1) = cntI (fun x => T x = x) k + if T (k : Int) = (k : Int) then 1 else 0 := cntI_succ _ _
        have s2 : cntI (fun x => U x = x) (k + 1) = cntI (fun x => U x = x) k + if U (k : Int) = (k : Int) then 1 else 0 := cntI_succ _ _
        have s3 : cntI (EndP n) (k + 1) = cntI (EndP n) k + if EndP n (k : Int) then 1 else 0 := cntI_succ _ _
        have s4 : cntI (HeadP n) (k + 1) = cntI (HeadP n) k + if HeadP n (k : Int) then 1 else 0 := cntI_succ _ _
        have j4 : ∀ {v43 v44 v45 : Int} {r38 : Int × Bool} {x48 : Api_Domain}, palinglaw21_CompsFew_J4 n (mkL n.domains.length T) (mkL n.domains.length U) r38 ((cntI (fun x => T x = x) k : Nat) : Int) v43 v44 v45 (k : Int) x48 = some ((cntI (fun x => T x = x) (k + 1) : Nat) : Int) := by
          intro v43 v44 v45 r38 x48
          simp only [palinglaw21_CompsFew_J4, li, gi, w1, if_true, Option.bind_some, ibeq, s1]
          by_cases d : T (k : Int) = (k : Int) <;> simp [d]
        have j5 : ∀ {v44 v45 v55 : Int} {r38 : Int × Bool} {x48 : Api_Domain}, palinglaw21_CompsFew_J5 n (mkL n.domains.length T) (mkL n.domains.length U) r38 ((cntI (fun x => U x = x) k : Nat) : Int) v44 v45 (k : Int) x48 v55 = some ((cntI (fun x => U x = x) (k + 1) : Nat) : Int) := by
          intro v44 v45 v55 r38 x48
          simp only [palinglaw21_CompsFew_J5, li, gi, w2, if_true, Option.bind_some, ibeq, s2]
          by_cases d : U (k : Int) = (k : Int) <;> simp [d]
        have hpe : decide (((getI n.domains (k : Int)).peers.length : Int) > 0) = decide ((getI n.domains (k : Int)).peers ≠ []) := by
          cases (getI n.domains (k : Int)).peers <;> simp
        have hL6 := L6 hi (l34 := mkL n.domains.length T) (l37 := mkL n.domains.length U) (r38 := loopR n) (v44 := ((cntI (EndP n) k : Nat) : Int)) (v45 := ((cntI (HeadP n) k : Nat) : Int)) (v55 := ((cntI (fun x => T x = x) (k + 1) : Nat) : Int)) (v63 := ((cntI (fun x => U x = x) (k + 1) : Nat) : Int))
        rw [hpe] at hL6
        refine ⟨.inl (((cntI (fun x => T x = x) (k + 1) : Nat) : Int), ((cntI (fun x => U x = x) (k + 1) : Nat) : Int), ((cntI (EndP n) (k + 1) : Nat) : Int), ((cntI (HeadP n) (k + 1) : Nat) : Int), (k : Int) + 1), ?_, ⟨k + 1, by simp, by omega, rfl, rfl, rfl, rfl⟩, by simp only; omega⟩
        simp only [palinglaw21_CompsFew_L3, c, nth_getI hi, j4, j5, hw, w3, w4, hpe, decide_true, if_true, Option.bind_some, s3, s4]
        by_cases d1 : (getI n.domains (k : Int)).peers = []
        · have d3 : ¬ EndP n (k : Int) := fun h => h d1
          have d2 : ¬ HeadP n (k : Int) := fun h => h.1 d1
          rw [hL6]
          simp only [d1, d2, d3, ne_eq, not_true_eq_false, if_false, Nat.add_zero, Option.bind_some, decide_false, Bool.false_eq_true]
        · have d3 : EndP n (k : Int) := d1
          by_cases d2 : HeadP n (k : Int)
          · rw [hL6]; simp [d1, d2, d3]
          · rw [hL6]; simp [d1, d2, d3]
      · have : k = n.domains.length := by omega
        subst this
        exact ⟨.inr (((cntI (fun x => T x = x) n.domains.length : Nat) : Int), ((cntI (fun x => U x = x) n.domains.length : Nat) : Int), ((cntI (EndP n) n.domains.length : Nat) : Int), ((cntI (HeadP n) n.domains.length : Nat) : Int)), by simp only [palinglaw21_CompsFew_L3, c, decide_false, Bool.false_eq_true, if_false], rfl⟩) ⟨0, rfl, by omega, rfl, rfl, rfl, rfl⟩ (by simp only; omega)
  obtain ⟨r, e3, rfl⟩ := hcount
  have b1 := @cntI_le (fun x => T x = x) n.domains.length
  have b2 := @cntI_le (fun x => U x = x) n.domains.length
  have b3 := @cntI_le (EndP n) n.domains.length
  have b4 := @cntI_le (HeadP n) n.domains.length
  have w1 := wr64 (n := ((cntI (fun x => T x = x) n.domains.length : Nat) : Int) + ((cntI (HeadP n) n.domains.length : Nat) : Int)) (by omega) (by omega)
  have w2 := wr64 (n := ((cntI (fun x => T x = x) n.domains.length : Nat) : Int) + ((cntI (HeadP n) n.domains.length : Nat) : Int) - ((cntI (EndP n) n.domains.length : Nat) : Int)) (by omega) (by omega)
  by_cases hf : FullP n
  case neg => simp [hg, names_Right_spec hs, hr, eq1, e1, e2, comps_Loop_spec hg hr, mkL_len, e3, full_spec hg hr, hf]
  -- the trees of twice as many
  obtain ⟨f, _, hF⟩ := linked_spec hg hr (N := 2 * n.domains.length) (by omega) (by omega) (n3 := 2 * n.domains.length) fok_alone
  have hF : FOK (EM n 0) (2 * n.domains.length) f := hF.congr fun x y => by
    unfold EM
    rw [← EL_iff_ER hr]
    exact ⟨fun g => g.elim False.elim .inl, fun g => g.elim .inr (fun h => by have := h.1.1; have := h.2.1; omega)⟩
  obtain ⟨V, _, hv⟩ := hF.lab
  have hvt : ∀ x, 0 ≤ x → x < (n.domains.length : Int) → (V x = x ↔ T x = x) := fun x x0 x1 => by
    have hv2 : LeastT (EM n 0) V n.domains.length := ⟨fun x a b => hv.lo x a (by omega), fun x a b => hv.le x a (by omega), fun x a b => hv.conn x a (by omega), fun x y a b c d => hv.same x y a (by omega) c (by omega)⟩
    have : V x = T x := hv2.uniq ht (fun u w => Conn.congr fun p q => ⟨fun g => g.elim id (fun h => by have := h.1.1; have := h.2.1; omega), .inl⟩) x0 x1
    rw [this]
  have hc := few_count hr hf hv hu
  rw [cntI_congr hvt] at hc
  have hloop : (loopR n).2 = true ↔ ¬ ∀ j, 0 ≤ j → j < (n.domains.length : Int) → ¬ LoopAt n j := by
    unfold loopR
    by_cases h : 0 ≤ fstI (mkL n.domains.length fun x => x) (LoopAt n)
    · rw [if_pos h]
      have h1 := fstI_inL.1 h
      have h2 := fstI_is h
      rw [mkL_get h1] at h2
      exact ⟨fun _ q => q _ h (mkL_inL.1 h1).2 h2, fun _ => rfl⟩
    · rw [if_neg h]
      have h1 := fstI_none.1 (by omega : fstI (mkL n.domains.length fun x => x) (LoopAt n) < 0)
      refine ⟨fun q => (by cases q), fun q => absurd (fun j a b => ?_) q⟩
      have := h1 j (mkL_inL.2 ⟨a, b⟩)
      rwa [mkL_get (mkL_inL.2 ⟨a, b⟩)] at this
  have fin : (decide (((cntI (fun x => U x = x) n.domains.length : Nat) : Int) = ((cntI (fun x => T x = x) n.domains.length : Nat) : Int) + ((cntI (HeadP n) n.domains.length : Nat) : Int) - ((cntI (EndP n) n.domains.length : Nat) : Int)) == (!(loopR n).2)) = true := by
    by_cases hl : ∀ j, 0 ≤ j → j < (n.domains.length : Int) → ¬ LoopAt n j
    · have h1 := hc.1 hl
      have h2 : (loopR n).2 = false := by
        cases h : (loopR n).2 with
        | false => rfl
        | true => exact absurd hl (hloop.1 h)
      rw [h2, decide_eq_true (by omega)]; rfl
    · have h1 : ¬ _ := fun g => hl (hc.2 g)
      have h2 : (loopR n).2 = true := hloop.2 hl
      rw [h2, decide_eq_false (by omega)]; rfl
  simp [hg, names_Right_spec hs, hr, eq1, e1, e2, comps_Loop_spec hg hr, mkL_len, e3, full_spec hg hr, hf, w1, w2]
  simpa using fin
end
end Go.Eng
