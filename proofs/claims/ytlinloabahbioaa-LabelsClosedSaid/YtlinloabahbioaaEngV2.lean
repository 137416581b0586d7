/- Plain laws of chapter 42 (labels): what the program's labels say. -/
import Derived.Test.YtlinloabahbioaaEngV1
set_option linter.unusedVariables false
set_option linter.unusedSectionVars false
set_option linter.unusedSimpArgs false
namespace Go.Eng
open Go Classical
attribute [local congr] ite_cg

section
variable {n : Api_Net} {of : List Int}
abbrev DerN (n : Api_Net) (of : List Int) : Bool → Int → Nat → Prop := Der (hopD n) (leadD n) (seedP n of)
/-- Labels say what spreads. -/
structure AllF (n : Api_Net) (of : List Int) (b : List Labels_Label) : Prop where
  ok : AllOk (hopD n) (leadD n) (seedP n of) n.domains.length b
  closed : ∀ d, 0 ≤ d → d < (n.domains.length : Int) → ClosedAt (hopD n) (leadD n) b d
  plain : ∀ d, inL n.domains d → ∀ t, tb (getI b d).plain t = true ↔ DerN n of false d t
  led : ∀ d, inL n.domains d → ∀ t, tb (getI b d).led t = true ↔ DerN n of true d t
theorem owner_ok (ho : OwnP n of) {p : Int} (hp : inL n.ports p) : inL of p ∧ (getI of p = -1 ∨ 0 ≤ getI of p ∧ getI of p < 10) := by
  have hi : inL of p := ⟨hp.1, by have := hp.2; have := ho.1; omega⟩
  have := ho.2.2 p hi
  refine ⟨hi, ?_⟩
  by_cases c : 0 ≤ (getI n.ports p).link
  · exact .inl (this.1 c)
  · exact .inr (this.2 (by omega))
theorem seed_in (hg : BndN n 200 100) (ho : OwnP n of) {d : Int} (hd : inL n.domains d) {u v : List (List Int)} {z all : List Labels_Label} {q : List Labels_queued} (hz : AllOk (hopD n) (leadD n) (seedP n of) n.domains.length z) (hz0 : 0 ≤ pot z)
    (hG : Grown (hopD n) (leadD n) (seedP n of) n.domains.length z [] all q) (hq : (q.length : Int) ≤ pot all) :
    ∃ b r, loopM (fun s : (List Labels_Label) × (List Labels_queued) × Int => match s with | (l17, l18, v19) => labels_All_L2 n of u v d (membersL n d) l17 l18 v19) (all, q, 0) = some (b, r) ∧ Grown (hopD n) (leadD n) (seedP n of) n.domains.length z [] b r ∧ (r.length : Int) ≤ pot b ∧ (∀ x, inL n.domains x → subL (getI all x) (getI b x)) ∧
      ∀ p ∈ membersL n d, ∀ t : Nat, getI of p = (t : Int) → tb (getI b d).plain t = true := by
  have hml : (membersL n d).length ≤ 200 := Nat.le_trans membersL_len hg.ports
  have hdl := hg.domains
  obtain ⟨⟨b, r⟩, e, h1, h2, h3, h4⟩ := loopM_rule (f := fun s : (List Labels_Label) × (List Labels_queued) × Int => match s with | (l17, l18, v19) => labels_All_L2 n of u v d (membersL n d) l17 l18 v19)
    (fun s => 0 ≤ s.2.2 ∧ s.2.2 ≤ (membersL n d).length ∧ Grown (hopD n) (leadD n) (seedP n of) n.domains.length z [] s.1 s.2.1 ∧ (s.2.1.length : Int) ≤ pot s.1 ∧ (∀ x, inL n.domains x → subL (getI all x) (getI s.1 x)) ∧ ∀ j, inL (membersL n d) j → j < s.2.2 → ∀ t : Nat, getI of (getI (membersL n d) j) = (t : Int) → tb (getI s.1 d).plain t = true)
    (fun r => Grown (hopD n) (leadD n) (seedP n of) n.domains.length z [] r.1 r.2 ∧ (r.2.length : Int) ≤ pot r.1 ∧ (∀ x, inL n.domains x → subL (getI all x) (getI r.1 x)) ∧ ∀ p ∈ membersL n d, ∀ t : Nat, getI of p = (t : Int) → tb (getI r.1 d).plain t = true)
    (fun s => ((membersL n d).length - s.2.2).toNat) (s := (all, q, 0)) (fun s hI => by
      obtain ⟨b, r, j⟩ := s
      obtain ⟨j0, j1, hB, hP, hM, hK⟩ := hI
      simp only at j0 j1 hB hP hM hK ⊢
      have hbl := hB.ok.1
      have hpl := pot_le hB.ok
      have hdb : inL b d := ⟨hd.1, by have := hd.2; omega⟩
      by_cases c : j < ((membersL n d).length : Int)
      · have hj : inL (membersL n d) j := ⟨j0, c⟩
        have hmem := getI_mem hj
        obtain ⟨hio, hval⟩ := owner_ok ho (membersL_in hmem)
        have hw := wr64 (n := j + 1) (by omega) (by omega)
        by_cases hv : 0 ≤ getI of (getI (membersL n d) j)
        · obtain ⟨t, ht⟩ : ∃ t : Nat, getI of (getI (membersL n d) j) = (t : Int) := ⟨(getI of (getI (membersL n d) j)).toNat, by omega⟩
          have ht10 : t < 10 := by omega
          have hlab : LbOk (hopD n) (leadD n) (seedP n of) d ⟨((2 ^ t : Nat) : Int), 0⟩ := ⟨Int.natCast_nonneg _, pow_1024 ht10, by simp only; omega, by simp only; omega, fun t' h' => by
            have h' : tb ((2 ^ t : Nat) : Int) t' = true := h'
            rw [tb_pow, decide_eq_true_eq] at h'
            subst h'
            exact .seed ⟨hd, _, hmem, ht⟩, fun t' h' => (by
            have h' : tb 0 t' = true := h'
            rw [tb_zero] at h'; cases h')⟩
          obtain ⟨g1, g2⟩ := growF_ok (q := r) hB.ok hdb hlab
          have hgp := g1.pot
          have hpw : wr_i64 (1 * 2 ^ (min (Int.toNat (t : Int)) 64)) = ((2 ^ t : Nat) : Int) := by
            have : min (Int.toNat (t : Int)) 64 = t := by omega
            rw [this, Int.one_mul]
            have h1 := pow_1024 ht10
            have h2 : (2 : Int) ^ t = ((2 ^ t : Nat) : Int) := by simp
            rw [h2]
            have h3 : 0 ≤ ((2 ^ t : Nat) : Int) := Int.natCast_nonneg _
            generalize ((2 ^ t : Nat) : Int) = P at *
            exact wr64 (by omega) (by omega)
          refine ⟨.inl ((growF b r d ⟨((2 ^ t : Nat) : Int), 0⟩).1, (growF b r d ⟨((2 ^ t : Nat) : Int), 0⟩).2, j + 1), ?_, ⟨by simp only; omega, by simp only; omega, hB.trans hz g1, by simp only; omega, fun x hx => (hM x hx).trans (g1.mono x ⟨hx.1, by have := hx.2; omega⟩), fun i hi hij t' ht' => ?_⟩, by simp only; omega⟩
          · simp only [labels_All_L2]
            rw [if_pos (by simpa using c), if_pos (linT hj), getI_get? hj, Option.bind_some, nth_getI hio, Option.bind_some, if_pos (by simpa using hv), Option.bind_some, if_pos (by simpa using hv), ht, hpw, grow_spec hdb (by omega), Option.bind_some, hw]
          · simp only at hij ⊢
            by_cases e : i = j
            · subst e
              rw [ht] at ht'
              have : t = t' := by omega
              subst this
              exact g2.1 t (by show tb ((2 ^ t : Nat) : Int) t = true; rw [tb_pow]; simp)
            · exact (g1.mono d hdb).1 t' (hK i hi (by omega) t' ht')
        · refine ⟨.inl (b, r, j + 1), ?_, ⟨by simp only; omega, by simp only; omega, hB, hP, hM, fun i hi hij t' ht' => ?_⟩, by simp only; omega⟩
          · simp only [labels_All_L2]
            rw [if_pos (by simpa using c), if_pos (linT hj), getI_get? hj, Option.bind_some, nth_getI hio, Option.bind_some, if_neg (by simpa using hv), hw]
          · simp only at hij
            by_cases e : i = j
            · subst e; omega
            · exact hK i hi (by omega) t' ht'
      · have : j = (membersL n d).length := by omega
        subst this
        refine ⟨.inr (b, r), by simp only [labels_All_L2]; rw [if_neg (by simp)], hB, hP, hM, fun p hp t ht => ?_⟩
        obtain ⟨i, hi, rfl⟩ := mem_getI hp
        exact hK i hi hi.2 t ht) ⟨by simp, by simp, hG, hq, fun x _ => subL.refl, fun j hj h => by have := hj.1; simp only at h; omega⟩ (by simp only; omega)
  exact ⟨b, r, e, h1, h2, h3, h4⟩
theorem labels_All_no (hs : SmN n) (hf : Few of) (h : ¬ OwnP n of) : labels_All n of = some ([], 0, false) := by
  simp only [labels_All, owners_Right_spec hs hf, Option.bind_some, decide_eq_false h, Bool.not_false, if_true]
theorem labels_All_spec (hn : n.Ok) (hg : BndN n 200 100) (hf : Few of) (ho : OwnP n of) : ∃ b, labels_All n of = some (b, n.domains.length, true) ∧ AllF n of b := by
  have hs := hg.sm
  have hr := ho.2.1
  have hdl := hg.domains
  have hz : AllOk (hopD n) (leadD n) (seedP n of) n.domains.length (List.replicate n.domains.length (⟨0, 0⟩ : Labels_Label)) := by
    refine ⟨by simp, fun d hd => ?_⟩
    rw [List.eq_of_mem_replicate (getI_mem hd)]
    exact ⟨by simp, by simp, by simp, by simp, fun t h => (by have h : tb 0 t = true := h; rw [tb_zero] at h; cases h), fun t h => (by have h : tb 0 t = true := h; rw [tb_zero] at h; cases h)⟩
  have hz0 : pot (List.replicate n.domains.length (⟨0, 0⟩ : Labels_Label)) = 0 := by
    unfold pot
    rw [List.map_replicate]
    have : ∀ k, (List.replicate k (valL ⟨0, 0⟩)).sum = 0 := fun k => by
      induction k with
      | zero => rfl
      | succ k ih => rw [List.replicate_succ, List.sum_cons, ih]; rfl
    exact this _
  have hzg : ∀ d, inL (List.replicate n.domains.length (⟨0, 0⟩ : Labels_Label)) d → getI (List.replicate n.domains.length (⟨0, 0⟩ : Labels_Label)) d = ⟨0, 0⟩ := fun d hd => List.eq_of_mem_replicate (getI_mem hd)
  generalize hzz : List.replicate n.domains.length (⟨0, 0⟩ : Labels_Label) = z at *
  obtain ⟨⟨b, r⟩, e, h1, h2, h3⟩ := loopM_rule (f := fun s : (List Labels_Label) × (List Labels_queued) × Int => match s with | (l10, l11, v12) => labels_All_L1 n of (mkG n.domains.length (hopD n)) (mkG n.domains.length (leadD n)) l10 l11 v12)
    (fun s => 0 ≤ s.2.2 ∧ s.2.2 ≤ n.domains.length ∧ Grown (hopD n) (leadD n) (seedP n of) n.domains.length z [] s.1 s.2.1 ∧ (s.2.1.length : Int) ≤ pot s.1 ∧ ∀ d t, seedP n of d t → d < s.2.2 → tb (getI s.1 d).plain t = true)
    (fun r => Grown (hopD n) (leadD n) (seedP n of) n.domains.length z [] r.1 r.2 ∧ (r.2.length : Int) ≤ pot r.1 ∧ ∀ d t, seedP n of d t → tb (getI r.1 d).plain t = true)
    (fun s => (n.domains.length - s.2.2).toNat) (s := (z, [], 0)) (fun s hI => by
      obtain ⟨b, r, j⟩ := s
      obtain ⟨j0, j1, hB, hP, hK⟩ := hI
      simp only at j0 j1 hB hP hK ⊢
      by_cases c : j < (n.domains.length : Int)
      · have hj : inL n.domains j := ⟨j0, c⟩
        obtain ⟨b', r', e1, k1, k2, k3, k4⟩ := seed_in hg ho hj (u := mkG n.domains.length (hopD n)) (v := mkG n.domains.length (leadD n)) hz (by omega) hB hP
        refine ⟨.inl (b', r', j + 1), ?_, ⟨by simp only; omega, by simp only; omega, k1, k2, fun d t hdt hlt => ?_⟩, by simp only; omega⟩
        · simp only [labels_All_L1]
          rw [if_pos (by simpa using c), names_Members_spec hs, if_pos ⟨hr, hj⟩, Option.bind_some]
          rw [e1, Option.bind_some, wr64 (by omega) (by omega)]
        · simp only at hlt ⊢
          by_cases e : d = j
          · subst e
            obtain ⟨_, p, hp, hpt⟩ := hdt
            exact k4 p hp t hpt
          · exact (k3 d hdt.1).1 t (hK d t hdt (by omega))
      · have : j = n.domains.length := by omega
        subst this
        refine ⟨.inr (b, r), by simp only [labels_All_L1]; rw [if_neg (by simp)], hB, hP, fun d t hdt => hK d t hdt hdt.1.2⟩) ⟨by simp, by simp, Grown.refl hz, by simp only [List.length_nil]; omega, fun d t hdt h => by have := hdt.1.1; simp only at h; omega⟩ (by simp only; omega)
  simp only at h1 h2 h3
  obtain ⟨ee, hre, ee1, ee2⟩ := h1.ext
  rw [List.nil_append] at hre
  subst hre
  obtain ⟨b', r', k, e2, g1, g2, g3⟩ := run_spec (S := seedP n of) (n := n) hdl hr (fun d => by
      by_cases hd : inL n.domains d
      · refine .inl ?_
        unfold hopD; rw [List.length_map]
        have := hopsI_len hg hd; omega
      · exact .inr hd) hg.irbs (a1 := n.devices) (a2 := n.ports) (a3 := n.links) (a4 := n.domains) (a5 := n.statics) (a6 := n.floods) (a7 := n.vrfs) (a8 := n.irbs) (n10 := n.domains.length) h1.ok h2 ee1 (fun d hd => by
      have hzd : inL z d := ⟨hd.1, by have := hd.2; have := h1.ok.1; have := hz.1; omega⟩
      rcases ee2 d hzd with h | h
      · exact .inl (h.trans (hzg d hzd))
      · exact .inr h)
  have hbl := h1.ok.1
  have hcl := closed_all (N := n.domains.length) (S := seedP n of) (hopD_in hr) (leadD_in hr) (fun d t h => h.1) g3 (fun d t h => (g2 d ⟨h.1.1, by have := h.1.2; omega⟩).1 t (h3 d t h))
  have hin : ∀ d, inL n.domains d → inL b' d := fun d hd => ⟨hd.1, by have := hd.2; have := g1.1; omega⟩
  refine ⟨b', ?_, g1, g3, fun d hd t => ⟨(g1.2 d (hin d hd)).sp t, fun h => by simpa using (hcl false d t h).2⟩, fun d hd t => ⟨(g1.2 d (hin d hd)).sl t, fun h => by simpa using (hcl true d t h).2⟩⟩
  simp only [labels_All, owners_Right_spec hs hf, Option.bind_some, decide_eq_true ho, Bool.not_true, Bool.false_eq_true, if_false, begin_spec hn hg hr, Int.toNat_natCast]
  rw [hzz, e, Option.bind_some]
  simp only
  rw [e2]; rfl
end
end Go.Eng
