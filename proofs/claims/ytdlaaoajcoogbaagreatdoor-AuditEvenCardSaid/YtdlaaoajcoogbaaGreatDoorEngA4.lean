/- Chapter 47 (audit): even nets have no odd links: AuditEven. -/
import Derived.Test.YtdlaaoajcoogbaaGreatDoorEngA3
set_option linter.unusedVariables false
set_option linter.unusedSectionVars false
set_option linter.unusedSimpArgs false
namespace Go.Eng
open Go Classical
attribute [local congr] ite_cg
theorem loop_boolo {ρ : Type} {f : Bool × Int → Option ((Bool × Int) ⊕ ρ)} (N : Nat) (P : Nat → Prop) (out : Bool → ρ) (hN : N ≤ 1000000) (h : ∀ (i : Nat) (b : Bool), i < N → f (b, (i : Int)) = some (.inl (b && decide (P i), ((i + 1 : Nat) : Int)))) (he : ∀ b, f (b, (N : Int)) = some (.inr (out b))) :
    ∃ b, loopM f (true, 0) = some (out b) ∧ (b = true ↔ ∀ i, i < N → P i) := by
  have e := loopM_trace (f := f) (r := out (decide (∀ i, i < N → P i))) (fun i => (decide (∀ j, j < i → P j), (i : Int))) N (by omega) (fun i hi => by
    rw [h i _ hi]
    have : (decide (∀ j, j < i → P j) && decide (P i)) = decide (∀ j, j < i + 1 → P j) := by
      rw [← Bool.decide_and]
      exact decide_eq_decide.2 ⟨fun q j hj => by
        by_cases e : j = i
        · rw [e]; exact q.2
        · exact q.1 j (by omega), fun q => ⟨fun j hj => q j (by omega), q i (by omega)⟩⟩
    rw [this]) (he _)
  refine ⟨_, ?_, decide_eq_true_iff⟩
  simpa using e
theorem loop_cnt2 {α : Type} [Inhabited α] {f : Int × Int × Int → Option ((Int × Int × Int) ⊕ (Int × Int))} (l : List α) (P Q : α → Prop) (u0 v0 : Nat) (hl : l.length ≤ 1000000) (hu : u0 ≤ 1000000) (hv : v0 ≤ 1000000)
    (h : ∀ (i : Nat) (u v : Int), i < l.length → 0 ≤ u → u ≤ 2000000 → 0 ≤ v → v ≤ 2000000 → f (u, v, (i : Int)) = some (.inl (if P (getI l (i : Int)) then u + 1 else u, if Q (getI l (i : Int)) then v + 1 else v, ((i + 1 : Nat) : Int)))) (he : ∀ u v, f (u, v, (l.length : Int)) = some (.inr (u, v))) :
    loopM f ((u0 : Int), (v0 : Int), 0) = some (((u0 + cntA l P : Nat) : Int), ((v0 + cntA l Q : Nat) : Int)) := by
  have e := loopM_trace (f := f) (r := (((u0 + cntA l P : Nat) : Int), ((v0 + cntA l Q : Nat) : Int))) (fun i => (((u0 + cntA (l.take i) P : Nat) : Int), ((v0 + cntA (l.take i) Q : Nat) : Int), (i : Int))) l.length (by omega) (fun i hi => by
    have hc := cntA_le (l := l.take i) (P := P)
    have hd := cntA_le (l := l.take i) (P := Q)
    rw [List.length_take] at hc hd
    rw [h i _ _ hi (by omega) (by omega) (by omega) (by omega)]
    have il : inL l (i : Int) := ⟨by omega, by omega⟩
    have hst : l.take (i + 1) = l.take i ++ [getI l (i : Int)] := by
      have := getI_get? il
      simp only [Int.toNat_natCast] at this
      rw [List.take_add_one, this]; rfl
    have one : ∀ R : α → Prop, cntA [getI l (i : Int)] R = if R (getI l (i : Int)) then 1 else 0 := fun R => by
      unfold cntA
      by_cases c : R (getI l (i : Int)) <;> simp [c]
    rw [hst, cntA_app, cntA_app, one, one]
    simp only [Option.some.injEq, Sum.inl.injEq, Prod.mk.injEq]
    refine ⟨?_, ?_, trivial⟩
    · split <;> omega
    · split <;> omega) (by rw [List.take_length]; exact he _ _)
  simpa [cntA] using e
theorem cat_cnt {α β : Type} [Inhabited α] {l : List α} {P : α → Prop} {y : α → β} : (cat (fun j => if P (getI l j) then ([] : List β) else [y (getI l j)]) l.length).length = cntA l (fun x => ¬ P x) := by
  have key : ∀ k, k ≤ l.length → (cat (fun j => if P (getI l j) then ([] : List β) else [y (getI l j)]) k).length = cntA (l.take k) (fun x => ¬ P x) := by
    intro k
    induction k with
    | zero => intro _; simp [cat, cntA]
    | succ k ih =>
      intro hk
      have il : inL l (k : Int) := ⟨by omega, by omega⟩
      have hst : l.take (k + 1) = l.take k ++ [getI l (k : Int)] := by
        have := getI_get? il
        simp only [Int.toNat_natCast] at this
        rw [List.take_add_one, this]; rfl
      rw [cat_succ, List.length_append, ih (by omega), hst, cntA_app]
      congr 1
      unfold cntA
      by_cases c : P (getI l (k : Int)) <;> simp [c]
  have := key l.length (Nat.le_refl _)
  rwa [List.take_length] at this
theorem equal47_spec {a b : List Int} (ha : a.length ≤ 1000000) : palinglaw47_equal a b = some (decide (a = b)) := by
  unfold palinglaw47_equal
  by_cases hl : a.length = b.length
  case neg =>
    rw [if_pos (by simp; omega), decide_eq_false (fun e => hl (by rw [e]))]
  rw [if_neg (by simp; omega)]
  rw [loop_each (f := palinglaw47_equal_L1 a b) a (fun i x => x = getI b i) (.inl () : Unit ⊕ Unit) (.inr ()) (by unfold Few; omega) (fun i h0 h1 h2 => by
    have ib : inL b i := ⟨h2.1, by have := h2.2; omega⟩
    unfold palinglaw47_equal_L1
    rw [if_pos (decide_eq_true h1), nth_getI h2, Option.bind_some, nth_getI ib, Option.bind_some, wr64 (by omega) (by omega)]
    by_cases c : getI a i = getI b i
    · rw [if_neg (by simpa using c), if_pos c]
    · rw [if_pos (by simpa using c), if_neg c]) (by unfold palinglaw47_equal_L1; rw [if_neg (by simp)])]
  have hq : (EachP a fun i x => x = getI b i) ↔ a = b := ⟨fun h => list_eqI.2 ⟨hl, h⟩, fun h => (list_eqI.1 h).2⟩
  by_cases c : EachP a fun i x => x = getI b i
  · rw [if_pos c, decide_eq_true (hq.1 c)]; rfl
  · rw [if_neg c, decide_eq_false (fun e => c (hq.2 e))]; rfl
section
variable {n : Api_Net}
def EvenP (n : Api_Net) : Prop := ∀ i : Nat, i < n.links.length → (getI n.ports (getI n.links (i : Int)).a).native = (getI n.ports (getI n.links (i : Int)).b).native ∧ (getI n.ports (getI n.links (i : Int)).a).tagged = (getI n.ports (getI n.links (i : Int)).b).tagged
def NoteV (n : Api_Net) (i v : Int) : Prop := ¬ (getI n.ports i).link < 0 ∧ v ≠ 0 ∧ ¬ (crossI n i v).2.2 = true
def CrosV (n : Api_Net) (i v : Int) : Prop := ¬ (getI n.ports i).link < 0 ∧ v ≠ 0 ∧ (crossI n i v).2.2 = true
noncomputable def crG (n : Api_Net) (i : Int) : List Unit := List.replicate (cntA ((getI n.ports i).native :: (getI n.ports i).tagged) (CrosV n i)) ()
section
variable (hs : SmN n) (hg : BndN n 200 100) (hr : RightP n) (ho : n.Ok)
include hs hg hr ho
theorem tag_pos {i : Int} (hi : inL n.ports i) : ∀ v ∈ (getI n.ports i).tagged, v ≠ 0 := by
  intro v hv
  rcases (hr.ports _ hi).2.2.2.1 with h | h
  · rw [h] at hv; cases hv
  · obtain ⟨j, hj, rfl⟩ := mem_getI hv
    have := (h.1 j hj).1; omega
theorem lo_cnt {i : Int} (hi : inL n.ports i) : (loG n i).length = cntA ((getI n.ports i).native :: (getI n.ports i).tagged) (NoteV n i) := by
  unfold loG
  split
  · rename_i hl
    rw [cntA_none (fun x hx h => h.1 hl)]; rfl
  · rename_i hl
    have e := cat_cnt (l := vlansP (getI n.ports i)) (P := fun v => (crossI n i v).2.2 = true) (y := fun v => (⟨2, (getI n.links (getI n.ports i).link).row, i, v⟩ : Audit_Note))
    have e2 : (cat (fun j => lopV n i (getI (vlansP (getI n.ports i)) j)) (vlansP (getI n.ports i)).length).length = cntA (vlansP (getI n.ports i)) (fun x => ¬ (crossI n i x).2.2 = true) := by
      rw [← e]
      unfold lopV
      congr 1
      congr 1
      funext j
      by_cases c : (crossI n i (getI (vlansP (getI n.ports i)) j)).2.2 = true
      · rw [if_pos c, if_pos c]
      · rw [if_neg c, if_neg c]
    rw [e2]
    have ht := tag_pos hs hg hr ho hi
    have h2 : cntA (getI n.ports i).tagged (fun x => ¬ (crossI n i x).2.2 = true) = cntA (getI n.ports i).tagged (NoteV n i) := cntA_congr fun x hx => ⟨fun h => ⟨hl, ht x hx, h⟩, fun h => h.2.2⟩
    have e3 : (getI n.ports i).native :: (getI n.ports i).tagged = [(getI n.ports i).native] ++ (getI n.ports i).tagged := rfl
    unfold vlansP
    split
    · rename_i h0
      rw [e3, cntA_app, cntA_none (l := [(getI n.ports i).native]) (fun x hx h => by rw [List.mem_singleton] at hx; rw [hx] at h; exact h.2.1 h0), h2]; omega
    · rename_i h0
      rw [e3, cntA_app, cntA_app, h2]
      congr 1
      exact cntA_congr fun x hx => by
        rw [List.mem_singleton] at hx; subst hx
        exact ⟨fun h => ⟨hl, h0, h⟩, fun h => h.2.2⟩
theorem even_L2 {l : List Audit_Note} {v : Bool} : ∃ c : Nat, loopM (fun s : Int × Int × Int => match s with | (v34, v35, v36) => palinglaw47_AuditEven_L2 n l v v34 v35 v36) (0, 0, 0) = some ((c : Int), (((cat (loG n) n.ports.length).length : Nat) : Int)) := by
  have f2 := hr.few.2.1
  refine ⟨(cat (crG n) n.ports.length).length, ?_⟩
  have lcr : ∀ i : Nat, i < n.ports.length → (crG n (i : Int)).length ≤ 17 := fun i hi => by
    have ht := port_tags hr (i := (i : Int)) ⟨by omega, by omega⟩
    have := cntA_le (l := (getI n.ports (i : Int)).native :: (getI n.ports (i : Int)).tagged) (P := CrosV n (i : Int))
    unfold crG
    rw [List.length_replicate]
    simp only [List.length_cons] at this; omega
  have e := loopM_trace (f := fun s : Int × Int × Int => match s with | (v34, v35, v36) => palinglaw47_AuditEven_L2 n l v v34 v35 v36) (r := ((((cat (crG n) n.ports.length).length : Nat) : Int), (((cat (loG n) n.ports.length).length : Nat) : Int))) (fun i => ((((cat (crG n) i).length : Nat) : Int), (((cat (loG n) i).length : Nat) : Int), (i : Int))) n.ports.length (by omega) (fun i hi => by
    have il : inL n.ports (i : Int) := ⟨by omega, by omega⟩
    have ht := port_tags hr il
    have b1 := cat_len (g := crG n) (B := 17) (N := i) (fun j hj => lcr j (by omega))
    have b2 := cat_len (g := loG n) (B := 17) (N := i) (fun j hj => loG_len hr ⟨by omega, by omega⟩)
    have hL : ([(getI n.ports (i : Int)).native] ++ (getI n.ports (i : Int)).tagged) = (getI n.ports (i : Int)).native :: (getI n.ports (i : Int)).tagged := rfl
    show palinglaw47_AuditEven_L2 n l v _ _ (i : Int) = _
    unfold palinglaw47_AuditEven_L2
    rw [if_pos (decide_eq_true (by omega)), nth_getI il, Option.bind_some, hL, if_pos (roomy_few (by simp; omega))]
    rw [loop_cnt2 (f := fun s : Int × Int × Int => match s with | (v41, v42, v43) => palinglaw47_AuditEven_L3 n l v (i : Int) (getI n.ports (i : Int)) v41 v42 v43) ((getI n.ports (i : Int)).native :: (getI n.ports (i : Int)).tagged) (CrosV n (i : Int)) (NoteV n (i : Int)) (cat (crG n) i).length (cat (loG n) i).length (by simp; omega) (by omega) (by omega) (fun j u w hj u0 u1 w0 w1 => by
      have ij : inL ((getI n.ports (i : Int)).native :: (getI n.ports (i : Int)).tagged) (j : Int) := ⟨by omega, by omega⟩
      show palinglaw47_AuditEven_L3 n l v (i : Int) (getI n.ports (i : Int)) u w (j : Int) = _
      unfold palinglaw47_AuditEven_L3
      rw [hL, if_pos (decide_eq_true (by omega)), if_pos (by rw [lin_dec]; exact decide_eq_true ij), getI_get? ij, Option.bind_some, wr64 (n := (j : Int) + 1) (by omega) (by simp only [List.length_cons] at hj; omega), wr64 (n := u + 1) (by omega) (by omega), wr64 (n := w + 1) (by omega) (by omega)]
      generalize getI ((getI n.ports (i : Int)).native :: (getI n.ports (i : Int)).tagged) (j : Int) = x
      by_cases c1 : (getI n.ports (i : Int)).link < 0
      · rw [if_pos (decide_eq_true c1), if_neg (fun h : CrosV n (i : Int) x => h.1 c1), if_neg (fun h : NoteV n (i : Int) x => h.1 c1)]; rfl
      rw [if_neg (by simpa using c1)]
      by_cases c2 : x = 0
      · rw [if_pos (by simpa using c2), if_neg (fun h : CrosV n (i : Int) x => h.2.1 c2), if_neg (fun h : NoteV n (i : Int) x => h.2.1 c2)]; rfl
      rw [if_neg (by simpa using c2), links_Cross_spec hs, Option.bind_some]
      by_cases c3 : (crossI n (i : Int) x).2.2 = true
      · rw [if_pos c3, if_pos (show CrosV n (i : Int) x from ⟨c1, c2, c3⟩), if_neg (fun h : NoteV n (i : Int) x => h.2.2 c3)]; rfl
      · rw [if_neg c3, if_neg (fun h : CrosV n (i : Int) x => c3 h.2.2), if_pos (show NoteV n (i : Int) x from ⟨c1, c2, c3⟩)]; rfl) (fun u w => by
      show palinglaw47_AuditEven_L3 n l v (i : Int) (getI n.ports (i : Int)) u w _ = _
      unfold palinglaw47_AuditEven_L3
      rw [hL, if_neg (by simp)]), Option.bind_some]
    simp only
    rw [wr64 (by omega) (by omega), cat_succ, cat_succ, List.length_append, List.length_append, lo_cnt hs hg hr ho il]
    have : (crG n (i : Int)).length = cntA ((getI n.ports (i : Int)).native :: (getI n.ports (i : Int)).tagged) (CrosV n (i : Int)) := by unfold crG; rw [List.length_replicate]
    rw [this]; rfl) (by
    show palinglaw47_AuditEven_L2 n l v _ _ (n.ports.length : Int) = _
    unfold palinglaw47_AuditEven_L2
    rw [if_neg (by simp)])
  simpa [cat_zero] using e
theorem even_cross (he : EvenP n) {i : Int} (hi : inL n.ports i) (hl : 0 ≤ (getI n.ports i).link) {v : Int} (hv : v ∈ vlansP (getI n.ports i)) : (crossI n i v).2.2 = true := by
  have hk := hr.link hi hl
  have hL := hr.links _ hk.1
  have heq : othI n i = if (getI n.links (getI n.ports i).link).a = i then (getI n.links (getI n.ports i).link).b else (getI n.links (getI n.ports i).link).a := by
    unfold othI; rw [if_pos ⟨hr, hi, hl⟩]
  have h0 : 0 ≤ othI n i := by
    rw [heq]
    split
    · exact hL.2.1.1
    · exact hL.1.1
  have hq := he (getI n.ports i).link.toNat (by have := hk.1.1; have := hk.1.2; omega)
  rw [show (((getI n.ports i).link.toNat : Nat) : Int) = (getI n.ports i).link by omega] at hq
  have hsame : (getI n.ports (othI n i)).native = (getI n.ports i).native ∧ (getI n.ports (othI n i)).tagged = (getI n.ports i).tagged := by
    rcases (othI_othP h0).ends with ⟨e1, e2⟩ | ⟨e1, e2⟩
    · rw [← e1, ← e2] at hq; exact ⟨hq.1.symm, hq.2.symm⟩
    · rw [← e1, ← e2] at hq; exact hq
  have hm : MemP (getI n.ports i) v := by
    unfold vlansP at hv
    split at hv
    · exact ⟨tag_pos hs hg hr ho hi v hv, .inr hv⟩
    · rename_i h9
      rcases List.mem_cons.1 hv with h | h
      · exact ⟨by rw [h]; exact h9, .inl h⟩
      · exact ⟨tag_pos hs hg hr ho hi v h, .inr h⟩
  have ht : toI n i (othI n i) v ≠ 0 := by
    unfold toI
    split
    · rename_i e; rw [hsame.1, ← e]; exact hm.1
    · rename_i e
      have : v ∈ (getI n.ports (othI n i)).tagged := by
        rw [hsame.2]; exact hm.2.resolve_left e
      rw [if_pos this]; exact hm.1
  unfold crossI
  rw [if_pos ⟨h0, hm, ht⟩]
theorem even_lo (he : EvenP n) : (cat (loG n) n.ports.length).length = 0 := by
  rw [List.length_eq_zero_iff]
  apply List.eq_nil_iff_forall_not_mem.2
  intro x hx
  obtain ⟨i, hi, hx⟩ := mem_cat.1 hx
  have h := k_lo hx
  exact h.2.2.2.1 (even_cross hs hg hr ho he ⟨by omega, by omega⟩ h.2.2.2.2 h.2.2.1)
theorem even_sh (he : EvenP n) : (cat (shG n) n.links.length).length = 0 := by
  rw [List.length_eq_zero_iff]
  apply List.eq_nil_iff_forall_not_mem.2
  intro x hx
  obtain ⟨i, hi, hx⟩ := mem_cat.1 hx
  unfold shG at hx
  split at hx
  · rename_i h
    exact h.2.2 (he i hi).1
  · cases hx
omit hs hg hr ho in
theorem cnt_lo : cntA (allN n) (fun x => x.kind = 2) = (cat (loG n) n.ports.length).length := by
  unfold allN
  simp only [cntA_app]
  rw [cntA_none (l := cat (shG n) n.links.length) (fun x h => by rw [m_sh h]; omega), cntA_all (l := cat (loG n) n.ports.length) (fun x h => m_lo h), cntA_none (l := cat (lnG n) n.domains.length) (fun x h => by rw [m_ln h]; omega), cntA_none (l := cat (siG n) n.domains.length) (fun x h => by rw [m_si h]; omega),
    cntA_none (l := cat (unG n) n.vrfs.length) (fun x h => by rw [m_un h]; omega), cntA_none (l := cat (piG n) n.statics.length) (fun x h => by rw [m_pi h]; omega), cntA_none (l := cat (baG n) n.devices.length) (fun x h => by rw [m_ba h]; omega), cntA_none (l := cat (leG n) n.irbs.length) (fun x h => by rw [m_le h]; omega), cntA_none (l := cat (trG n) n.ports.length) (fun x h => by rw [m_tr h]; omega)]
  omega
omit hs hg hr ho in
theorem cnt_sh : cntA (allN n) (fun x => x.kind = 1) = (cat (shG n) n.links.length).length := by
  unfold allN
  simp only [cntA_app]
  rw [cntA_all (l := cat (shG n) n.links.length) (fun x h => m_sh h), cntA_none (l := cat (loG n) n.ports.length) (fun x h => by rw [m_lo h]; omega), cntA_none (l := cat (lnG n) n.domains.length) (fun x h => by rw [m_ln h]; omega), cntA_none (l := cat (siG n) n.domains.length) (fun x h => by rw [m_si h]; omega),
    cntA_none (l := cat (unG n) n.vrfs.length) (fun x h => by rw [m_un h]; omega), cntA_none (l := cat (piG n) n.statics.length) (fun x h => by rw [m_pi h]; omega), cntA_none (l := cat (baG n) n.devices.length) (fun x h => by rw [m_ba h]; omega), cntA_none (l := cat (leG n) n.irbs.length) (fun x h => by rw [m_le h]; omega), cntA_none (l := cat (trG n) n.ports.length) (fun x h => by rw [m_tr h]; omega)]
  omega
omit hs hg hr ho in
theorem lo_in {x : Audit_Note} (h : x ∈ allN n) (hk : x.kind = 2) : ¬ (crossI n x.a x.b).2.2 = true := by
  unfold allN at h
  simp only [List.mem_append] at h
  rcases h with (((((((h | h) | h) | h) | h) | h) | h) | h) | h
  · rw [m_sh h] at hk; omega
  · obtain ⟨i, hi, h⟩ := mem_cat.1 h
    have q := k_lo h
    rw [q.2.1]; exact q.2.2.2.1
  · rw [m_ln h] at hk; omega
  · rw [m_si h] at hk; omega
  · rw [m_un h] at hk; omega
  · rw [m_pi h] at hk; omega
  · rw [m_ba h] at hk; omega
  · rw [m_le h] at hk; omega
  · rw [m_tr h] at hk; omega
end
end
theorem auditEven (n : Api_Net) (ho : n.Ok) : palinglaw47_AuditEven n = some true := by
  unfold palinglaw47_AuditEven
  rw [works47, Option.bind_some, if_neg (by simp), Great_spec, Option.bind_some]
  by_cases hg : BndN n 200 100
  case neg => rw [if_pos (by simpa using hg)]
  have hs := hg.sm
  rw [if_neg (by simpa using hg)]
  by_cases hr : RightP n
  case neg => rw [audit_All_wrong hs hr, Option.bind_some]; rfl
  obtain ⟨b1, b2, b3, b4, b5, b6, b7, b8, b9⟩ := allN_lens hr
  have hlen : (allN n).length ≤ 100000 := by unfold allN; simp only [List.length_append]; omega
  have f1 := hr.few.2.2.1
  rw [audit_All_right hs hg hr ho, Option.bind_some]
  simp only
  rw [if_neg (by simp)]
  obtain ⟨b, eb, hb⟩ := loop_boolo (f := fun s : Bool × Int => match s with | (v13, v14) => palinglaw47_AuditEven_L1 n (allN n) v13 v14) n.links.length (fun i => (getI n.ports (getI n.links (i : Int)).a).native = (getI n.ports (getI n.links (i : Int)).b).native ∧ (getI n.ports (getI n.links (i : Int)).a).tagged = (getI n.ports (getI n.links (i : Int)).b).tagged) (fun b => (Sum.inr b : Unit ⊕ Bool)) (by omega) (fun i b hi => by
    have il : inL n.links (i : Int) := ⟨by omega, by omega⟩
    have hL := hr.links _ il
    have a1 := hL.1.1
    have a2 := hL.1.2
    have a3 := hL.2.1.1
    have a4 := hL.2.1.2
    have ht := port_tags hr hL.1
    show palinglaw47_AuditEven_L1 n (allN n) b (i : Int) = _
    unfold palinglaw47_AuditEven_L1
    rw [if_pos (decide_eq_true (by omega)), nth_getI il, Option.bind_some, if_neg (by rw [decide_eq_true_eq]; omega), if_neg (by rw [decide_eq_true_eq]; omega), if_neg (by rw [decide_eq_true_eq]; omega), if_neg (by rw [decide_eq_true_eq]; omega), nth_getI hL.1, Option.bind_some, nth_getI hL.2.1, Option.bind_some, equal47_spec (by omega), Option.bind_some, wr64 (by omega) (by omega)]
    cases b with
    | false => simp
    | true =>
      by_cases c1 : (getI n.ports (getI n.links (i : Int)).a).native = (getI n.ports (getI n.links (i : Int)).b).native
      · simp [c1]
      · simp [c1]) (fun b => by
    show palinglaw47_AuditEven_L1 n (allN n) b (n.links.length : Int) = _
    unfold palinglaw47_AuditEven_L1
    rw [if_neg (by simp)])
  rw [eb, Option.bind_some]
  try simp only
  obtain ⟨c, ec⟩ := even_L2 hs hg hr ho (l := allN n) (v := b)
  rw [ec, Option.bind_some]
  try simp only
  rw [loop_pass (f := palinglaw47_AuditEven_L4 n (allN n) b (c : Int) (((cat (loG n) n.ports.length).length : Nat) : Int)) (allN n) (Sum.inr () : Unit ⊕ Unit) (by unfold Few; omega) (fun j h0 h1 hj => by
    unfold palinglaw47_AuditEven_L4
    rw [if_pos (decide_eq_true h1), if_pos (by rw [lin_dec]; exact decide_eq_true hj), getI_get? hj, Option.bind_some, wr64 (by omega) (by omega)]
    by_cases c : (getI (allN n) j).kind = 2
    · rw [if_neg (by simpa using c), links_Cross_spec hs, Option.bind_some, if_neg (lo_in (getI_mem hj) c)]
    · rw [if_pos (by simpa using c)]) (by unfold palinglaw47_AuditEven_L4; rw [if_neg (by simp)]), Option.bind_some]
  try simp only
  have hge : ((c : Int) ≥ 0) := by omega
  rw [audit_Count_spec (by omega), Option.bind_some, cnt_lo, if_pos (by simp)]
  cases b with
  | false => rw [if_pos (by simp), decide_eq_true hge]
  | true =>
    have he : EvenP n := hb.1 rfl
    rw [if_neg (by simp), even_lo hs hg hr ho he, if_pos (by rfl), audit_Count_spec (by omega), Option.bind_some, cnt_sh, even_sh hs hg hr ho he, if_pos (by rfl), decide_eq_true hge]
end Go.Eng
