/- Plain laws of chapter 23 (owners): how ports are assigned: OwnersAll. -/
import Derived.Test.YtakginbgngjhkaaEngP23b
import Derived.Test.YtakginbgngjhkaaEngP21d
set_option linter.unusedVariables false
set_option linter.unusedSectionVars false
set_option linter.unusedSimpArgs false
namespace Go.Eng
open Go Classical
attribute [local congr] ite_cg
section
variable {n : Api_Net}
/-- A tenant's ports noted, one after another; what is wrong, or 0. -/
noncomputable def claimF (n : Api_Net) (i : Int) : List (ByteArray × ByteArray) → List Int → List Int × Int
  | [], l => (l, 0)
  | q :: r, l => if portI n (devI n q.1) q.2 < 0 then (l, 31) else if 0 ≤ (getI n.ports (portI n (devI n q.1) q.2)).link ∨ getI l (portI n (devI n q.1) q.2) ≠ -1 then (l, 39)
    else claimF n i r (l.set (portI n (devI n q.1) q.2).toNat i)
noncomputable def pairsT (t : Api_Tenant) : List (ByteArray × ByteArray) := t.devs.zip t.ports
theorem pairsT_get {t : Api_Tenant} {k : Nat} (h : k < t.devs.length) (h2 : t.devs.length = t.ports.length) : (pairsT t)[k]? = some (getI t.devs (k : Int), getI t.ports (k : Int)) := by
  have a := getI_get? (l := t.devs) (i := (k : Int)) ⟨by omega, by omega⟩
  have b := getI_get? (l := t.ports) (i := (k : Int)) ⟨by omega, by omega⟩
  simp only [Int.toNat_natCast] at a b
  unfold pairsT
  rw [List.getElem?_zip_eq_some]
  exact ⟨a, b⟩
theorem claim_spec (hs : SmN n) (hr : RightP n) {t : Api_Tenant} (ht : t.devs.length = t.ports.length) (hd : t.devs.length ≤ 1000) {i : Int} {n3 : Nat} {l : List Int} (hl : l.length = n.ports.length) :
    owners_claim_own n l n3 i t = some (claimF n i (pairsT t) l) := by
  obtain ⟨r, e, h1⟩ := loopM_rule (f := fun s : (List Int) × Int => match s with | (l6, v7) => owners_claim_own_L1 n n3 i t l6 v7)
    (fun s => ∃ k : Nat, s.2 = (k : Int) ∧ k ≤ t.devs.length ∧ s.1.length = n.ports.length ∧ claimF n i (pairsT t) l = claimF n i ((pairsT t).drop k) s.1)
    (fun r => (match r with | Sum.inl (l29, v30) => (l29, v30) | Sum.inr l32 => (l32, (0 : Int))) = claimF n i (pairsT t) l) (fun s => (t.devs.length - s.2).toNat) (s := (l, 0)) (fun s hI => by
      obtain ⟨l1, v⟩ := s
      obtain ⟨k, hk, hkn, hlen, he⟩ := hI
      simp only at hk hlen he ⊢
      subst hk
      by_cases c : (k : Int) < (t.devs.length : Int)
      · have ik : inL t.devs (k : Int) := ⟨by omega, c⟩
        have ip : inL t.ports (k : Int) := ⟨by omega, by omega⟩
        have hw := wr64 (n := (k : Int) + 1) (by omega) (by omega)
        have hdrop : (pairsT t).drop k = (getI t.devs (k : Int), getI t.ports (k : Int)) :: (pairsT t).drop (k + 1) := by
          have hg := pairsT_get (t := t) (k := k) (by omega) ht
          obtain ⟨hlt, hg⟩ := List.getElem?_eq_some_iff.1 hg
          rw [List.drop_eq_getElem_cons hlt, hg]
        rw [hdrop] at he
        simp only [claimF] at he
        generalize hat : portI n (devI n (getI t.devs (k : Int))) (getI t.ports (k : Int)) = at_ at he
        by_cases d1 : at_ < 0
        · rw [if_pos d1] at he
          exact ⟨.inr (.inl (l1, 31)), by simp only [owners_claim_own_L1, c, nth_getI ik, nth_getI ip, names_Device_spec hs, names_Port_spec hs, hr, hat, d1, decide_true, if_true, Option.bind_some], he.symm⟩
        · rw [if_neg d1] at he
          have pin : inL n.ports at_ := by rw [← hat]; exact (portI_in (by rw [hat]; omega)).1
          have lin' : inL l1 at_ := ⟨pin.1, by have := pin.2; omega⟩
          by_cases d2 : 0 ≤ (getI n.ports at_).link
          · rw [if_pos (.inl d2)] at he
            exact ⟨.inr (.inl (l1, 39)), by simp only [owners_claim_own_L1, c, nth_getI ik, nth_getI ip, names_Device_spec hs, names_Port_spec hs, hr, hat, d1, d2, nth_getI pin, ge_iff_le, decide_true, decide_false, Bool.false_eq_true, if_true, if_false, Option.bind_some], he.symm⟩
          · by_cases d3 : getI l1 at_ = -1
            · rw [if_neg (fun h => h.elim d2 (fun q => q d3))] at he
              refine ⟨.inl (l1.set at_.toNat i, (k : Int) + 1), ?_, ⟨k + 1, by simp, by omega, by simpa using hlen, he⟩, by simp only; omega⟩
              have d3' : (getI l1 at_ != -1) = false := by rw [d3]; rfl
              simp only [owners_claim_own_L1, c, nth_getI ik, nth_getI ip, names_Device_spec hs, names_Port_spec hs, hr, hat, d1, d2, nth_getI pin, lin_true lin', getI_get? lin', d3', hw, ge_iff_le, decide_true, decide_false, Bool.false_eq_true, if_true, if_false, Option.bind_some]
            · rw [if_pos (.inr d3)] at he
              have d3' : (getI l1 at_ != -1) = true := by simpa using d3
              exact ⟨.inr (.inl (l1, 39)), by simp only [owners_claim_own_L1, c, nth_getI ik, nth_getI ip, names_Device_spec hs, names_Port_spec hs, hr, hat, d1, d2, nth_getI pin, lin_true lin', getI_get? lin', d3', ge_iff_le, decide_true, decide_false, Bool.false_eq_true, if_true, if_false, Option.bind_some], he.symm⟩
      · have : k = t.devs.length := by omega
        subst this
        refine ⟨.inr (.inr l1), by simp only [owners_claim_own_L1, c, decide_false, Bool.false_eq_true, if_false], ?_⟩
        rw [he, List.drop_of_length_le (by unfold pairsT; simp; omega)]
        rfl) ⟨0, rfl, by omega, hl, by simp⟩ (by simp only; omega)
  simp only [owners_claim_own, e, Option.bind_some]
  rw [← h1]
  rcases r with r | r <;> rfl

/-- All tenants' ports noted: the row in which something is wrong, and what; or the owners. -/
noncomputable def assignF (n : Api_Net) : List Api_Tenant → List Api_Tenant → List Int → (Int × Int) ⊕ List Int
  | _, [], l => .inr l
  | pre, t :: r, l => if ¬ TenP t ∨ 10 ≤ pre.length then .inl (t.row, 2) else if ∃ x ∈ pre, x.name = t.name then .inl (t.row, 30)
    else if (claimF n pre.length (pairsT t) l).2 ≠ 0 then .inl (t.row, (claimF n pre.length (pairsT t) l).2) else assignF n (pre ++ [t]) r (claimF n pre.length (pairsT t) l).1
theorem claimF_len (i : Int) : ∀ (ps : List (ByteArray × ByteArray)) (l : List Int), (claimF n i ps l).1.length = l.length := by
  intro ps
  induction ps with
  | nil => intro l; rfl
  | cons q r ih =>
    intro l
    simp only [claimF]
    split
    · rfl
    split
    · rfl
    · rw [ih]; simp
theorem twice_spec {l : List Api_Tenant} {t : Api_Tenant} (hl : Few l) : slices_ContainsFunc_Tenant_Assign_1 l t = some (decide (∃ x ∈ l, x.name = t.name)) := by
  unfold slices_ContainsFunc_Tenant_Assign_1 slices_IndexFunc_Tenant_Assign_1
  rw [loop_first l (fun x => x.name = t.name) hl (fun i h0 h1 h2 => by
    have h3 : l.length ≤ 1000000 := hl
    have hw := wr64 (n := i + 1) (by omega) (by omega)
    simp only [slices_IndexFunc_Tenant_Assign_1_L1, owners_Assign_1, seqB_dec, h1, nth_getI h2, hw, decide_true, if_true, Option.bind_some]
    by_cases c : (getI l i).name = t.name <;> simp [c]) (by simp [slices_IndexFunc_Tenant_Assign_1_L1])]
  simp only [bind_ite, Option.bind_some, dif1, dif2, dif3, dif4, dif5, dif6, dif7, dnot, ibeq, ibne, decide_eq_true_eq, if_not2, ge_iff_le, gt_iff_lt, fst_ret, Bool.false_eq_true, decide_false]
  have := fstI_none_mem (l := l) (P := fun x => x.name = t.name)
  by_cases h : 0 ≤ fstI l (fun x => x.name = t.name)
  · have h2 : ∃ x ∈ l, x.name = t.name := by
      apply Classical.byContradiction
      intro hn
      have := this.2 (fun x hx e => hn ⟨x, hx, e⟩); omega
    simp [h, h2]
  · have h2 : ¬ ∃ x ∈ l, x.name = t.name := fun ⟨s, q1, q2⟩ => this.1 (by omega) s q1 q2
    simp [h, h2]
/-- The first port for a host that nobody owns. -/
def FreeP (n : Api_Net) (l : List Int) (i : Int) : Prop := (getI n.ports i).link < 0 ∧ getI l i = -1
noncomputable def assignR (n : Api_Net) (ls : List Api_Tenant) : List Int × Int × Int × Int :=
  if RightP n then match assignF n [] ls (List.replicate n.ports.length (-1)) with
    | .inl (row, e) => ([], 2, row, e)
    | .inr l => if 0 ≤ fstI (mkL n.ports.length fun x => x) (FreeP n l) then ([], 1, (getI n.ports (fstI (mkL n.ports.length fun x => x) (FreeP n l))).row, 39) else (l, 0, 0, 0)
  else ([], 0, 0, 2)
theorem assignF_len : ∀ (r pre : List Api_Tenant) (l l' : List Int), assignF n pre r l = .inr l' → l'.length = l.length := by
  intro r
  induction r with
  | nil => intro pre l l' h; simp only [assignF] at h; injection h with h; rw [h]
  | cons t r ih =>
    intro pre l l' h
    simp only [assignF] at h
    split at h
    · cases h
    split at h
    · cases h
    split at h
    · cases h
    · rw [ih _ _ _ h, claimF_len]
theorem drop_cons_getI {α : Type} [Inhabited α] {l : List α} {k : Nat} (h : k < l.length) : l.drop k = getI l (k : Int) :: l.drop (k + 1) := by
  have hg := getI_get? (l := l) (i := (k : Int)) ⟨by omega, by omega⟩
  simp only [Int.toNat_natCast] at hg
  obtain ⟨hlt, hg⟩ := List.getElem?_eq_some_iff.1 hg
  rw [List.drop_eq_getElem_cons hlt, hg]
theorem owners_Assign_spec (hs : SmN n) (hp : n.ports.length ≤ 1000) {ls : List Api_Tenant} (hb : BndT ls) : owners_Assign n ls = some (assignR n ls) := by
  unfold owners_Assign assignR
  by_cases hr : RightP n
  case neg => simp [names_Right_spec hs, hr]
  have hls := hb.1
  obtain ⟨r, e, h1⟩ := loopM_rule (f := fun s : (List Int) × Int => match s with | (l10, v11) => owners_Assign_L1 n ls n.ports.length l10 v11)
    (fun s => ∃ k : Nat, s.2 = (k : Int) ∧ k ≤ ls.length ∧ s.1.length = n.ports.length ∧ assignF n [] ls (List.replicate n.ports.length (-1)) = assignF n (ls.take k) (ls.drop k) s.1)
    (fun r => r = assignF n [] ls (List.replicate n.ports.length (-1))) (fun s => (ls.length - s.2).toNat) (s := (List.replicate n.ports.length (-1), 0)) (fun s hI => by
      obtain ⟨l1, v⟩ := s
      obtain ⟨k, hk, hkn, hlen, he⟩ := hI
      simp only at hk hlen he ⊢
      subst hk
      by_cases c : (k : Int) < (ls.length : Int)
      · have ik : inL ls (k : Int) := ⟨by omega, c⟩
        have hw := wr64 (n := (k : Int) + 1) (by omega) (by omega)
        have hT := hb.2 _ (getI_mem ik)
        have htl : (ls.take k).length = k := by simp; omega
        rw [drop_cons_getI (by omega)] at he
        simp only [assignF, htl] at he
        have hJ : owners_Assign_J2 n ls n.ports.length l1 (k : Int) (getI ls (k : Int)) = some (decide (¬ TenP (getI ls (k : Int)) ∨ 10 ≤ k)) := by
          simp only [owners_Assign_J2, policy_Right_spec hT, Option.bind_some]
          by_cases d : TenP (getI ls (k : Int))
          · simp [d]; omega
          · simp [d]
        by_cases d1 : ¬ TenP (getI ls (k : Int)) ∨ 10 ≤ k
        · rw [if_pos d1] at he
          refine ⟨.inr (.inl ((getI ls (k : Int)).row, 2)), ?_, he.symm⟩
          simp only [owners_Assign_L1, c, nth_getI ik, hJ, d1, decide_true, if_true, Option.bind_some]; rfl
        · rw [if_neg d1] at he
          have hten : TenP (getI ls (k : Int)) := Classical.byContradiction fun q => d1 (.inl q)
          have hsl : slok ls.length 0 (k : Int) = true := by rw [slok_dec]; exact decide_eq_true ⟨by omega, by omega, by omega⟩
          have hft : Few (List.drop (Int.toNat 0) (List.take (Int.toNat (k : Int)) ls)) := by unfold Few; simp; omega
          have htw : slices_ContainsFunc_Tenant_Assign_1 (List.drop (Int.toNat 0) (List.take (Int.toNat (k : Int)) ls)) (getI ls (k : Int)) = some (decide (∃ x ∈ ls.take k, x.name = (getI ls (k : Int)).name)) := by
            rw [twice_spec hft]; simp
          by_cases d2 : ∃ x ∈ ls.take k, x.name = (getI ls (k : Int)).name
          · rw [if_pos d2] at he
            refine ⟨.inr (.inl ((getI ls (k : Int)).row, 30)), ?_, he.symm⟩
            simp only [owners_Assign_L1, c, nth_getI ik, hJ, d1, hsl, htw, d2, decide_true, decide_false, Bool.false_eq_true, if_true, if_false, Option.bind_some]; rfl
          · rw [if_neg d2] at he
            have hcl := claim_spec hs hr (t := getI ls (k : Int)) hten.2.1 (by have := hten.2.2.2.1; omega) (i := (k : Int)) (n3 := n.ports.length) hlen
            by_cases d3 : (claimF n (k : Int) (pairsT (getI ls (k : Int))) l1).2 = 0
            · rw [if_neg (fun q => q d3)] at he
              have d3' : ((claimF n (k : Int) (pairsT (getI ls (k : Int))) l1).2 != 0) = false := by rw [d3]; rfl
              refine ⟨.inl ((claimF n (k : Int) (pairsT (getI ls (k : Int))) l1).1, (k : Int) + 1), ?_, ⟨k + 1, by simp, by omega, by simp only; rw [claimF_len]; exact hlen, ?_⟩, by simp only; omega⟩
              · simp only [owners_Assign_L1, c, nth_getI ik, hJ, d1, hsl, htw, d2, hcl, d3', hw, decide_true, decide_false, Bool.false_eq_true, if_true, if_false, Option.bind_some]
              · rw [he]
                have : ls.take (k + 1) = ls.take k ++ [getI ls (k : Int)] := by
                  have hg := getI_get? ik
                  simp only [Int.toNat_natCast] at hg
                  rw [List.take_add_one, hg]; rfl
                simp only [this]
            · rw [if_pos d3] at he
              have d3' : ((claimF n (k : Int) (pairsT (getI ls (k : Int))) l1).2 != 0) = true := by simpa using d3
              refine ⟨.inr (.inl ((getI ls (k : Int)).row, (claimF n (k : Int) (pairsT (getI ls (k : Int))) l1).2)), ?_, he.symm⟩
              simp only [owners_Assign_L1, c, nth_getI ik, hJ, d1, hsl, htw, d2, hcl, d3', decide_true, decide_false, Bool.false_eq_true, if_true, if_false, Option.bind_some]
      · have : k = ls.length := by omega
        subst this
        refine ⟨.inr (.inr l1), by simp only [owners_Assign_L1, c, decide_false, Bool.false_eq_true, if_false], ?_⟩
        rw [he, List.drop_of_length_le (Nat.le_refl _)]
        rfl) ⟨0, rfl, by omega, by simp, by simp⟩ (by simp only; omega)
  subst h1
  simp only [names_Right_spec hs, hr, Repeat_spec hp, e, decide_true, Bool.not_true, Bool.false_eq_true, if_false, if_true, Option.bind_some]
  cases hA : assignF n [] ls (List.replicate n.ports.length (-1)) with
  | inl q => rfl
  | inr l =>
    have hlen : l.length = n.ports.length := by rw [assignF_len _ _ _ _ hA]; simp
    simp only
    obtain ⟨i, e3, h3⟩ := loopM_rule (f := owners_Assign_L3 n n.ports.length l) (fun i => 0 ≤ i ∧ i ≤ n.ports.length ∧ ∀ j, 0 ≤ j → j < i → ¬ FreeP n l j)
      (fun i => (0 ≤ i ∧ i < n.ports.length ∧ fstI (mkL n.ports.length fun x => x) (FreeP n l) = i) ∨ (i = n.ports.length ∧ ¬ 0 ≤ fstI (mkL n.ports.length fun x => x) (FreeP n l))) (fun i => (n.ports.length - i).toNat) (s := (0 : Int)) (fun i hI => by
        obtain ⟨i0, i1, hno⟩ := hI
        by_cases c : i < (n.ports.length : Int)
        · have ip : inL n.ports i := ⟨i0, c⟩
          have il : inL l i := ⟨i0, by omega⟩
          have hw := wr64 (n := i + 1) (by omega) (by omega)
          by_cases d : FreeP n l i
          · refine ⟨.inr i, ?_, .inl ⟨i0, c, fst_ix i0 c d hno⟩⟩
            have d2' : (getI l i == -1) = true := by rw [d.2]; rfl
            simp only [owners_Assign_L3, c, nth_getI ip, d.1, lin_true il, getI_get? il, d2', decide_true, if_true, Option.bind_some]
          · refine ⟨.inl (i + 1), ?_, ⟨by omega, by omega, fun j a b => ?_⟩, by omega⟩
            · by_cases d1 : (getI n.ports i).link < 0
              · have d2' : (getI l i == -1) = false := by
                  have : ¬ getI l i = -1 := fun q => d ⟨d1, q⟩
                  simpa using this
                simp only [owners_Assign_L3, c, nth_getI ip, d1, lin_true il, getI_get? il, d2', hw, decide_true, Bool.false_eq_true, if_true, if_false, Option.bind_some]
              · simp only [owners_Assign_L3, c, nth_getI ip, d1, hw, decide_true, decide_false, Bool.false_eq_true, if_true, if_false, Option.bind_some]
            · by_cases ej : j = i
              · subst ej; exact d
              · exact hno j a (by omega)
        · have : i = n.ports.length := by omega
          subst this
          exact ⟨.inr _, by simp only [owners_Assign_L3, c, decide_false, Bool.false_eq_true, if_false], .inr ⟨rfl, fst_ix_none hno⟩⟩) ⟨by omega, by omega, fun j a b => by omega⟩ (by omega)
    rw [e3]
    simp only [Option.bind_some]
    rcases h3 with ⟨i0, i1, h3⟩ | ⟨rfl, h3⟩
    · have ip : inL n.ports i := ⟨i0, i1⟩
      simp only [i1, nth_getI ip, h3, i0, decide_true, if_true, Option.bind_some]
    · have c : ¬ (n.ports.length : Int) < (n.ports.length : Int) := by omega
      simp only [c, h3, decide_false, Bool.false_eq_true, if_false]
end
end Go.Eng
