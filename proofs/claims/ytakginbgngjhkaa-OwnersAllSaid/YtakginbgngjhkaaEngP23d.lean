/- Plain laws of chapter 23 (owners): what is assigned may be: OwnersAll. -/
import Derived.Test.YtakginbgngjhkaaEngP23c
set_option linter.unusedVariables false
set_option linter.unusedSectionVars false
set_option linter.unusedSimpArgs false
namespace Go.Eng
open Go Classical
attribute [local congr] ite_cg
theorem getI_getElem {l : List Int} {i : Int} (h : inL l i) : ∃ hlt : i.toNat < l.length, l[i.toNat] = getI l i := List.getElem?_eq_some_iff.1 (getI_get? h)
theorem count_setI {l : List Int} {i a b : Int} (h : inL l i) : (l.set i.toNat a).count b + (if getI l i = b then 1 else 0) = l.count b + (if a = b then 1 else 0) := by
  obtain ⟨hlt, hg⟩ := getI_getElem h
  have h1 := List.count_set (a := a) (b := b) hlt
  have h2 : (if getI l i = b then 1 else 0) ≤ l.count b := by
    split
    · rename_i e
      exact List.count_pos_iff.2 (e ▸ getI_mem h)
    · omega
  rw [hg] at h1
  have e1 : (if (getI l i == b) = true then 1 else 0) = (if getI l i = b then 1 else 0) := by simp
  have e2 : (if (a == b) = true then 1 else 0) = (if a = b then 1 else 0) := by simp
  rw [e1, e2] at h1
  omega
section
variable {n : Api_Net}
/-- What ports noted for one tenant are. -/
theorem claimF_ok (i : Int) (hi : 0 ≤ i) : ∀ (ps : List (ByteArray × ByteArray)) (l l' : List Int), l.length = n.ports.length → claimF n i ps l = (l', 0) →
    (∀ p, inL n.ports p → getI l p ≠ -1 → getI l' p = getI l p) ∧ (∀ p, inL n.ports p → getI l' p = getI l p ∨ (getI l p = -1 ∧ getI l' p = i ∧ (getI n.ports p).link < 0)) ∧
    (∀ q ∈ ps, inL n.ports (portI n (devI n q.1) q.2) ∧ getI l' (portI n (devI n q.1) q.2) = i) ∧ l'.count i = l.count i + ps.length ∧ l'.count (-1) + ps.length = l.count (-1) ∧ ∀ j, j ≠ i → j ≠ -1 → l'.count j = l.count j := by
  intro ps
  induction ps with
  | nil =>
    intro l l' hl h
    simp only [claimF, Prod.mk.injEq] at h
    obtain ⟨rfl, _⟩ := h
    exact ⟨fun _ _ _ => rfl, fun _ _ => .inl rfl, fun q hq => (by cases hq), (by simp), (by simp), fun _ _ _ => rfl⟩
  | cons q r ih =>
    intro l l' hl h
    simp only [claimF] at h
    by_cases c1 : portI n (devI n q.1) q.2 < 0
    · rw [if_pos c1] at h; simp at h
    rw [if_neg c1] at h
    by_cases c2 : 0 ≤ (getI n.ports (portI n (devI n q.1) q.2)).link ∨ getI l (portI n (devI n q.1) q.2) ≠ -1
    · rw [if_pos c2] at h; simp at h
    rw [if_neg c2] at h
    have pin := (portI_in (n := n) (d := devI n q.1) (s := q.2) (by omega)).1
    have c3 : getI l (portI n (devI n q.1) q.2) = -1 := Classical.byContradiction fun g => c2 (.inr g)
    have c4 : (getI n.ports (portI n (devI n q.1) q.2)).link < 0 := by
      have : ¬ 0 ≤ (getI n.ports (portI n (devI n q.1) q.2)).link := fun g => c2 (.inl g)
      omega
    generalize hat : portI n (devI n q.1) q.2 = at_ at *
    have lin_ : inL l at_ := ⟨pin.1, by have := pin.2; omega⟩
    obtain ⟨h1, h2, h3, h4, h5, h6⟩ := ih _ _ (by simpa using hl) h
    have hset : ∀ p, inL n.ports p → getI (l.set at_.toNat i) p = if p = at_ then i else getI l p := fun p hp => getI_set lin_ ⟨hp.1, by have := hp.2; omega⟩
    have cn := fun b => count_setI (a := i) (b := b) lin_
    simp only [c3] at cn
    refine ⟨fun p hp hn => ?_, fun p hp => ?_, fun q' hq' => ?_, ?_, ?_, fun j j1 j2 => ?_⟩
    · have e : p ≠ at_ := fun e => hn (by rw [e]; exact c3)
      have := h1 p hp (by rw [hset p hp, if_neg e]; exact hn)
      rw [this, hset p hp, if_neg e]
    · by_cases e : p = at_
      · subst e
        have := h1 p hp (by rw [hset p hp, if_pos rfl]; omega)
        rw [hset p hp, if_pos rfl] at this
        exact .inr ⟨c3, this, c4⟩
      · have := h2 p hp
        rw [hset p hp, if_neg e] at this
        exact this
    · rcases List.mem_cons.1 hq' with rfl | hq'
      · rw [hat]
        have := h1 at_ pin (by rw [hset at_ pin, if_pos rfl]; omega)
        rw [hset at_ pin, if_pos rfl] at this
        exact ⟨pin, this⟩
      · exact h3 q' hq'
    · have := cn i
      simp at this
      have : ¬ (-1 : Int) = i := by omega
      simp_all; omega
    · have := cn (-1)
      have e : ¬ i = -1 := by omega
      simp [e] at this
      simp; omega
    · have := cn j
      have e1 : ¬ (-1 : Int) = j := fun e => j2 e.symm
      have e2 : ¬ i = j := fun e => j1 e.symm
      simp [e1, e2] at this
      rw [h6 j j1 j2, this]

/-- How many ports tenants name. -/
def sumD (l : List Api_Tenant) : Nat := (l.map fun t => t.devs.length).sum
theorem sumD_app {a b : List Api_Tenant} : sumD (a ++ b) = sumD a + sumD b := by simp [sumD]
/-- What is noted when some tenants have their ports. -/
structure AsI (n : Api_Net) (pre : List Api_Tenant) (l : List Int) : Prop where
  len : l.length = n.ports.length
  few : pre.length ≤ 10
  ten : ∀ t ∈ pre, TenP t
  rng : ∀ p, inL n.ports p → getI l p = -1 ∨ (0 ≤ getI l p ∧ getI l p < pre.length ∧ (getI n.ports p).link < 0)
  nm : ∀ (i : Nat) t, pre[i]? = some t → ∀ q ∈ pairsT t, inL n.ports (portI n (devI n q.1) q.2) ∧ getI l (portI n (devI n q.1) q.2) = i
  cnt : ∀ (i : Nat) t, pre[i]? = some t → l.count (i : Int) = t.devs.length
  sum : l.count (-1) + sumD pre = n.ports.length
theorem count_big {l : List Int} {k : Int} (h : ∀ x ∈ l, x = -1 ∨ x < k) (hk : 0 ≤ k) : l.count k = 0 := by
  rw [List.count_eq_zero]
  intro hm
  rcases h _ hm with e | e <;> omega
theorem AsI.next {pre : List Api_Tenant} {l l' : List Int} (h : AsI n pre l) {t : Api_Tenant} (ht : TenP t) (hp : pre.length < 10) (hc : claimF n pre.length (pairsT t) l = (l', 0)) : AsI n (pre ++ [t]) l' := by
  obtain ⟨h1, h2, h3, h4, h5, h6⟩ := claimF_ok (pre.length : Int) (by omega) (pairsT t) l l' h.len hc
  have hlen : l'.length = n.ports.length := by have := claimF_len (n := n) (pre.length : Int) (pairsT t) l; rw [hc] at this; rw [this]; exact h.len
  have hpl : (pairsT t).length = t.devs.length := by unfold pairsT; simp; have := ht.2.1; omega
  have hin : ∀ x ∈ l, x = -1 ∨ x < (pre.length : Int) := fun x hx => by
    obtain ⟨p, hp, rfl⟩ := mem_getI hx
    rcases h.rng p ⟨hp.1, by have := hp.2; have := h.len; omega⟩ with e | e
    · exact .inl e
    · exact .inr e.2.1
  have hc0 := count_big hin (by omega)
  have hgl : (pre ++ [t]).length = pre.length + 1 := by simp
  have get : ∀ (i : Nat) u, (pre ++ [t])[i]? = some u → (i < pre.length ∧ pre[i]? = some u) ∨ (i = pre.length ∧ u = t) := fun i u hu => by
    rcases Nat.lt_trichotomy i pre.length with g | g | g
    · rw [List.getElem?_append_left g] at hu; exact .inl ⟨g, hu⟩
    · subst g; simp at hu; exact .inr ⟨rfl, hu.symm⟩
    · rw [List.getElem?_eq_none (by simp; omega)] at hu; cases hu
  refine ⟨hlen, by simp; omega, fun u hu => ?_, fun p hp => ?_, fun i u hu q hq => ?_, fun i u hu => ?_, ?_⟩
  · rcases List.mem_append.1 hu with hu | hu
    · exact h.ten u hu
    · rw [List.mem_singleton] at hu; rw [hu]; exact ht
  · rw [hgl]
    rcases h2 p hp with e | ⟨_, e2, e3⟩
    · rw [e]
      rcases h.rng p hp with g | g
      · exact .inl g
      · exact .inr ⟨g.1, by omega, g.2.2⟩
    · rw [e2]; exact .inr ⟨by omega, by omega, e3⟩
  · rcases get i u hu with ⟨g, hu⟩ | ⟨rfl, rfl⟩
    · obtain ⟨a, b⟩ := h.nm i u hu q hq
      refine ⟨a, ?_⟩
      rw [h1 _ a (by rw [b]; omega), b]
    · exact h3 q hq
  · rcases get i u hu with ⟨g, hu⟩ | ⟨rfl, rfl⟩
    · rw [h6 _ (by omega) (by omega)]; exact h.cnt i u hu
    · rw [h4, hc0, hpl]; omega
  · rw [sumD_app]
    have := h.sum
    have e : sumD [t] = t.devs.length := by simp [sumD]
    omega
theorem AsI.start : AsI n [] (List.replicate n.ports.length (-1)) := by
  refine ⟨by simp, by simp, fun t h => (by cases h), fun p hp => .inl ?_, fun i t h => (by simp at h), fun i t h => (by simp at h), by simp [sumD]⟩
  have hin : inL (List.replicate n.ports.length (-1 : Int)) p := ⟨hp.1, by have := hp.2; simpa using this⟩
  have := getI_mem hin
  exact List.eq_of_mem_replicate this
theorem assignF_ok : ∀ (r pre : List Api_Tenant) (l l' : List Int), AsI n pre l → assignF n pre r l = .inr l' → AsI n (pre ++ r) l' := by
  intro r
  induction r with
  | nil => intro pre l l' h e; simp only [assignF] at e; injection e with e; subst e; simpa using h
  | cons t r ih =>
    intro pre l l' h e
    simp only [assignF] at e
    split at e
    · cases e
    rename_i c1
    split at e
    · cases e
    split at e
    · cases e
    rename_i c3
    have ht : TenP t := Classical.byContradiction fun q => c1 (.inl q)
    have hp : pre.length < 10 := by
      have : ¬ 10 ≤ pre.length := fun q => c1 (.inr q)
      omega
    have c3' : (claimF n pre.length (pairsT t) l).2 = 0 := Classical.byContradiction fun q => c3 q
    have := ih (pre ++ [t]) _ _ (h.next ht hp (by rw [← c3'])) e
    simpa using this
theorem ofL_len {l : List Int} {t : Int} : (ofL l t).length = l.count t := by
  unfold ofL gatherI
  have key : ∀ (l : List Int) (k : Nat), ((l.zipIdx k).filterMap fun q => if q.1 = t then some ((q.2 : Nat) : Int) else none).length = l.count t := by
    intro l
    induction l with
    | nil => intro k; rfl
    | cons x l ih =>
      intro k
      rw [List.zipIdx_cons, List.filterMap_cons, List.count_cons]
      by_cases h : x = t
      · simp [h, ih]
      · simp [h, ih]
  refine Eq.trans (congrArg (fun f => (List.filterMap f l.zipIdx).length) (funext fun q => ?_)) (key l 0)
  by_cases h : q.1 = t <;> simp [h]
theorem zip_mem {t : Api_Tenant} (ht : t.devs.length = t.ports.length) {k : Int} (hk : inL t.devs k) : (getI t.devs k, getI t.ports k) ∈ pairsT t := by
  have h0 := hk.1; have h1 := hk.2
  have := pairsT_get (t := t) (k := k.toNat) (by omega) ht
  rw [show ((k.toNat : Nat) : Int) = k from by omega] at this
  exact List.mem_of_getElem? this

theorem ownersAll (n : Api_Net) (ls : List Api_Tenant) (_ : n.Ok) (_ : okL Api_Tenant.Ok ls) : palinglaw23_OwnersAll n ls = some true := by
  simp only [palinglaw23_OwnersAll, works23, Great_spec, Great14_spec, bind_ite, Option.bind_some, dif1, dif2, dif3, dif4, dif5, dif6, dif7, dnot, ibeq, ibne, decide_eq_true_eq, if_not2, ge_iff_le, gt_iff_lt, fst_ret, Bool.false_eq_true, decide_false]
  by_cases hg : BndN n 200 100
  case neg => simp [hg]
  by_cases hb : BndT ls
  case neg => simp [hg, hb]
  have hs := hg.sm
  have hp := hg.ports
  by_cases hr : RightP n
  case neg => simp [hg, hb, owners_Assign_spec hs (by omega) hb, assignR, hr]
  simp only [hg, hb, owners_Assign_spec hs (by omega) hb, not_true_eq_false, decide_false, Bool.not_true, Bool.false_eq_true, if_false, Option.bind_some]
  unfold assignR
  rw [if_pos hr]
  cases hA : assignF n [] ls (List.replicate n.ports.length (-1)) with
  | inl q =>
    -- what is wrong is not 0
    have hne : ∀ (r pre : List Api_Tenant) (l : List Int) q, assignF n pre r l = .inl q → q.2 ≠ 0 := by
      intro r
      induction r with
      | nil => intro pre l q h; simp [assignF] at h
      | cons t r ih =>
        intro pre l q h
        simp only [assignF] at h
        split at h
        · injection h with h; rw [← h]; simp
        split at h
        · injection h with h; rw [← h]; simp
        split at h
        · rename_i c; injection h with h; rw [← h]; exact c
        · exact ih _ _ _ h
    have := hne _ _ _ _ hA
    simp [this]
  | inr l =>
    by_cases hf : 0 ≤ fstI (mkL n.ports.length fun x => x) (FreeP n l)
    · simp [hf]
    have hI := assignF_ok ls [] _ _ AsI.start hA
    rw [List.nil_append] at hI
    have hlen := hI.len
    have hfree : ∀ p, inL n.ports p → ¬ FreeP n l p := fun p hp => by
      have := fstI_none.1 (by omega : fstI (mkL n.ports.length fun x => x) (FreeP n l) < 0) p (mkL_inL.2 ⟨hp.1, hp.2⟩)
      rwa [mkL_get (mkL_inL.2 ⟨hp.1, hp.2⟩)] at this
    have hlf : Few l := by unfold Few; omega
    have hfew := hI.few
    have hOwn : OwnP n l := ⟨hlen, hr, fun p hp => by
      have pp : inL n.ports p := ⟨hp.1, by have := hp.2; omega⟩
      have hfr := hfree p pp
      rcases hI.rng p pp with e | ⟨e1, e2, e3⟩
      · refine ⟨fun _ => e, fun h => absurd ⟨h, e⟩ hfr⟩
      · exact ⟨fun h => by omega, fun _ => ⟨e1, by omega⟩⟩⟩
    simp only [hf, if_false]
    have lne : ((l.length : Int) != (n.ports.length : Int)) = false := by rw [ibne]; exact decide_eq_false (by omega)
    simp only [owners_Right_spec hs hlf, hOwn, lne, decide_true, Bool.not_true, Bool.false_eq_true, if_false, Option.bind_some, bne_self_eq_false]
    -- tenants
    obtain ⟨r, e1, h1⟩ := loopM_rule (f := fun s : Int × Int => match s with | (v24, v25) => palinglaw23_OwnersAll_L1 n ls l v24 v25)
      (fun s => ∃ k : Nat, s.2 = (k : Int) ∧ k ≤ ls.length ∧ s.1 = ((sumD (ls.take k) : Nat) : Int)) (fun r : Unit ⊕ Int => r = .inr ((sumD ls : Nat) : Int)) (fun s => (ls.length - s.2).toNat) (s := (0, 0)) (fun s hI2 => by
        obtain ⟨m, v⟩ := s
        obtain ⟨k, hk, hkn, hm⟩ := hI2
        simp only at hk hm ⊢
        subst hk; subst hm
        have hls := hb.1
        have hsum := hI.sum
        by_cases c : (k : Int) < (ls.length : Int)
        · have ik : inL ls (k : Int) := ⟨by omega, c⟩
          have hg2 := getI_get? ik
          simp only [Int.toNat_natCast] at hg2
          have hT := hI.ten _ (getI_mem ik)
          have hsk : sumD (ls.take (k + 1)) = sumD (ls.take k) + (getI ls (k : Int)).devs.length := by
            rw [List.take_add_one, hg2, Option.toList_some, sumD_app]; simp [sumD]
          have hle : sumD (ls.take (k + 1)) ≤ sumD ls := by
            have := congrArg sumD (List.take_append_drop (k + 1) ls)
            rw [sumD_app] at this; omega
          have hw := wr64 (n := (k : Int) + 1) (by omega) (by omega)
          obtain ⟨r2, e2, h2⟩ := loopM_rule (f := fun s : Int × Int => match s with | (v29, v30) => palinglaw23_OwnersAll_L2 n ls l (k : Int) (getI ls (k : Int)) v29 v30)
            (fun s => 0 ≤ s.2 ∧ s.2 ≤ (getI ls (k : Int)).devs.length ∧ s.1 = ((sumD (ls.take k) : Nat) : Int) + s.2) (fun r : Unit ⊕ Int => r = .inr ((sumD (ls.take (k + 1)) : Nat) : Int)) (fun s => ((getI ls (k : Int)).devs.length - s.2).toNat) (s := (((sumD (ls.take k) : Nat) : Int), 0)) (fun s hI3 => by
              obtain ⟨m, j⟩ := s
              obtain ⟨j0, j1, hm⟩ := hI3
              simp only at j0 j1 hm ⊢
              subst hm
              have heq := hT.2.1
              by_cases c2 : j < ((getI ls (k : Int)).devs.length : Int)
              · have hj : inL (getI ls (k : Int)).devs j := ⟨j0, c2⟩
                have hjp : inL (getI ls (k : Int)).ports j := ⟨j0, by omega⟩
                have c3 : j < ((getI ls (k : Int)).ports.length : Int) := by omega
                have hw := wr64 (n := j + 1) (by omega) (by omega)
                have hw2 := wr64 (n := ((sumD (ls.take k) : Nat) : Int) + j + 1) (by omega) (by omega)
                obtain ⟨a, b⟩ := hI.nm k _ hg2 _ (zip_mem heq hj)
                simp only at a b
                have al : inL l (portI n (devI n (getI (getI ls (k : Int)).devs j)) (getI (getI ls (k : Int)).ports j)) := ⟨a.1, by have := a.2; omega⟩
                have b1 : ¬ portI n (devI n (getI (getI ls (k : Int)).devs j)) (getI (getI ls (k : Int)).ports j) < 0 := by have := a.1; omega
                have b2 : ¬ portI n (devI n (getI (getI ls (k : Int)).devs j)) (getI (getI ls (k : Int)).ports j) ≥ (l.length : Int) := by have := al.2; omega
                have b3 : (getI l (portI n (devI n (getI (getI ls (k : Int)).devs j)) (getI (getI ls (k : Int)).ports j)) != (k : Int)) = false := by rw [b]; simp
                refine ⟨.inl (((sumD (ls.take k) : Nat) : Int) + j + 1, j + 1), ?_, ⟨by simp only; omega, by simp only; omega, by simp only; omega⟩, by simp only; omega⟩
                simp only [palinglaw23_OwnersAll_L2, c2, c3, nth_getI hj, nth_getI hjp, names_Device_spec hs, names_Port_spec hs, hr, b1, b2, nth_getI al, b3, hw, hw2, decide_true, decide_false, Bool.false_eq_true, if_true, if_false, Option.bind_some]
              · have : j = (getI ls (k : Int)).devs.length := by omega
                refine ⟨.inr (.inr (((sumD (ls.take k) : Nat) : Int) + j)), by simp only [palinglaw23_OwnersAll_L2, c2, decide_false, Bool.false_eq_true, if_false], ?_⟩
                rw [hsk, this]; simp) ⟨by simp, by simp only; omega, by simp⟩ (by simp only; omega)
          subst h2
          have hof := ofL_len (l := l) (t := (k : Int))
          rw [hI.cnt k _ hg2] at hof
          have b4 : (((ofL l (k : Int)).length : Int) != ((getI ls (k : Int)).devs.length : Int)) = false := by rw [hof]; simp
          refine ⟨.inl (((sumD (ls.take (k + 1)) : Nat) : Int), (k : Int) + 1), ?_, ⟨k + 1, by simp, by omega, rfl⟩, by simp only; omega⟩
          simp only [palinglaw23_OwnersAll_L1, c, nth_getI ik, e2, owners_Of_spec hlf, b4, hw, decide_true, Bool.false_eq_true, if_true, if_false, Option.bind_some]
        · have : k = ls.length := by omega
          subst this
          refine ⟨.inr (.inr ((sumD (ls.take ls.length) : Nat) : Int)), by simp only [palinglaw23_OwnersAll_L1, c, decide_false, Bool.false_eq_true, if_false], ?_⟩
          rw [List.take_of_length_le (Nat.le_refl _)]) ⟨0, rfl, by omega, by simp [sumD]⟩ (by simp only; omega)
    subst h1
    rw [e1]
    simp only [Option.bind_some]
    rw [loop_pass (f := palinglaw23_OwnersAll_L3 n l ((sumD ls : Nat) : Int)) n.ports (Sum.inr () : Unit ⊕ Unit) (by unfold Few; omega) (fun i i0 i1 hi => by
      have hw := wr64 (n := i + 1) (by omega) (by omega)
      have il : inL l i := ⟨i0, by omega⟩
      have b : ((getI l i == -1) == decide ((getI n.ports i).link ≥ 0)) = true := by
        rw [ibeq]
        rcases hI.rng i hi with e | ⟨e1, e2, e3⟩
        · have : (getI n.ports i).link ≥ 0 := by
            have : ¬ (getI n.ports i).link < 0 := fun h => hfree i hi ⟨h, e⟩
            omega
          rw [decide_eq_true e, decide_eq_true this]; rfl
        · have h1 : ¬ getI l i = -1 := by omega
          have h2 : ¬ (getI n.ports i).link ≥ 0 := by omega
          rw [decide_eq_false h1, decide_eq_false h2]; rfl
      simp only [palinglaw23_OwnersAll_L3, i1, nth_getI hi, nth_getI il, b, hw, decide_true, Bool.not_true, Bool.false_eq_true, if_true, if_false, Option.bind_some]) (by simp [palinglaw23_OwnersAll_L3])]
    have hof := ofL_len (l := l) (t := -1)
    have hsum := hI.sum
    have hw := wr64 (n := ((sumD ls : Nat) : Int) + ((ofL l (-1)).length : Int)) (by omega) (by omega)
    simp only [owners_Of_spec hlf, hw, Option.bind_some, ibeq]
    simp only [if_true]
    rw [if_pos (by omega)]
    exact congrArg some (decide_eq_true (by omega))
end
end Go.Eng
