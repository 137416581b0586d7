/- Plain laws of chapter 23 (owners): what is assigned, by the document: OwnersAssigns. -/
import Derived.Test.YtakginbgngjhkaaEngP23f
import Derived.Test.YtakginbgngjhkaaEngPEi
set_option linter.unusedVariables false
set_option linter.unusedSectionVars false
set_option linter.unusedSimpArgs false
namespace Go.Eng
open Go Classical
attribute [local congr] ite_cg
section
variable {n : Api_Net}
theorem link_or (hr : RightP n) {i : Int} (hi : inL n.ports i) : (getI n.ports i).link = -1 ∨ 0 ≤ (getI n.ports i).link := by
  rcases (hr.ports i hi).2.2.2.2.2.2.2.2 with e | e
  · exact .inl e
  · exact .inr e.1.1
theorem port_nodev (hr : RightP n) {d : Int} {s : ByteArray} (hd : d < 0) : portI n d s < 0 := by
  apply Classical.byContradiction
  intro h
  obtain ⟨h1, h2, _⟩ := portI_in (n := n) (d := d) (s := s) (by omega)
  have := (hr.ports _ h1).1.1
  omega
theorem rclaim_spec (hs : SmN n) (hr : RightP n) {ls : List Api_Tenant} {i : Int} (hi : inL ls i) {t : Api_Tenant} (hti : getI ls i = t) (ht : t.devs.length = t.ports.length) (hd : t.devs.length ≤ 1000) {n3 : Nat} {l : List Int} (hl : l.length = n.ports.length) :
    ((loopM (fun s : (List Int) × Int => match s with | (l21, v22) => palingref23_tenant_ownx_L2 n n3 ls i l21 v22) (l, 0)).bind fun r62 => match r62 with
        | Sum.inl (l57, v58) => some (l57, v58)
        | Sum.inr l60 => some (l60, 0)) = some (claimF n i (pairsT t) l) := by
  obtain ⟨r, e, h1⟩ := loopM_rule (f := fun s : (List Int) × Int => match s with | (l6, v7) => palingref23_tenant_ownx_L2 n n3 ls i l6 v7)
    (fun s => ∃ k : Nat, s.2 = (k : Int) ∧ k ≤ t.devs.length ∧ s.1.length = n.ports.length ∧ claimF n i (pairsT t) l = claimF n i ((pairsT t).drop k) s.1)
    (fun r => (match r with | Sum.inl (l29, v30) => (l29, v30) | Sum.inr l32 => (l32, (0 : Int))) = claimF n i (pairsT t) l) (fun s => (t.devs.length - s.2).toNat) (s := (l, 0)) (fun s hI => by
      obtain ⟨l1, v⟩ := s
      obtain ⟨k, hk, hkn, hlen, he⟩ := hI
      simp only at hk hlen he ⊢
      subst hk
      by_cases c : (k : Int) < (t.devs.length : Int)
      · have ik : inL t.devs (k : Int) := ⟨by omega, c⟩
        have ip : inL t.ports (k : Int) := ⟨by omega, by omega⟩
        have hw := wr64 (n := (k : Int) + 1) (by omega) (by omega)
        have hdrop : (pairsT t).drop k = (getI t.devs (k : Int), getI t.ports (k : Int)) :: (pairsT t).drop (k + 1) := by
          have hg := pairsT_get (t := t) (k := k) (by omega) ht
          obtain ⟨hlt, hg⟩ := List.getElem?_eq_some_iff.1 hg
          rw [List.drop_eq_getElem_cons hlt, hg]
        rw [hdrop] at he
        simp only [claimF] at he
        generalize hat : portI n (devI n (getI t.devs (k : Int))) (getI t.ports (k : Int)) = at_ at he
        by_cases d0 : devI n (getI t.devs (k : Int)) < 0
        · have d1 : at_ < 0 := by rw [← hat]; exact port_nodev hr d0
          rw [if_pos d1] at he
          exact ⟨.inr (.inl (l1, 31)), by simp only [palingref23_tenant_ownx_L2, nth_getI hi, hti, c, nth_getI ik, nth_getI ip, rDevice_spec hs, d0, decide_true, if_true, Option.bind_some], he.symm⟩
        by_cases d1 : at_ < 0
        · rw [if_pos d1] at he
          exact ⟨.inr (.inl (l1, 31)), by simp only [palingref23_tenant_ownx_L2, nth_getI hi, hti, c, nth_getI ik, nth_getI ip, rDevice_spec hs, rPort_spec hs, hat, d0, d1, decide_true, decide_false, Bool.false_eq_true, if_true, if_false, Option.bind_some], he.symm⟩
        · rw [if_neg d1] at he
          have pin : inL n.ports at_ := by rw [← hat]; exact (portI_in (by rw [hat]; omega)).1
          have lin' : inL l1 at_ := ⟨pin.1, by have := pin.2; omega⟩
          by_cases d2 : 0 ≤ (getI n.ports at_).link
          · rw [if_pos (.inl d2)] at he
            have d2' : ((getI n.ports at_).link != -1) = true := by
              have : ¬ (getI n.ports at_).link = -1 := by omega
              simpa using this
            exact ⟨.inr (.inl (l1, 39)), by simp only [palingref23_tenant_ownx_L2, nth_getI hi, hti, c, nth_getI ik, nth_getI ip, rDevice_spec hs, rPort_spec hs, hat, d0, d1, d2', nth_getI pin, decide_true, decide_false, Bool.false_eq_true, if_true, if_false, Option.bind_some], he.symm⟩
          · have d2' : ((getI n.ports at_).link != -1) = false := by
              rcases link_or hr pin with q | q
              · rw [q]; rfl
              · exact absurd q d2
            by_cases d3 : getI l1 at_ = -1
            · rw [if_neg (fun h => h.elim d2 (fun q => q d3))] at he
              refine ⟨.inl (l1.set at_.toNat i, (k : Int) + 1), ?_, ⟨k + 1, by simp, by omega, by simpa using hlen, he⟩, by simp only; omega⟩
              have d3' : (getI l1 at_ != -1) = false := by rw [d3]; rfl
              simp only [palingref23_tenant_ownx_L2, nth_getI hi, hti, c, nth_getI ik, nth_getI ip, rDevice_spec hs, rPort_spec hs, hat, d0, d1, d2', nth_getI pin, lin_true lin', getI_get? lin', d3', hw, decide_true, decide_false, Bool.false_eq_true, if_true, if_false, Option.bind_some]
            · rw [if_pos (.inr d3)] at he
              have d3' : (getI l1 at_ != -1) = true := by simpa using d3
              exact ⟨.inr (.inl (l1, 39)), by simp only [palingref23_tenant_ownx_L2, nth_getI hi, hti, c, nth_getI ik, nth_getI ip, rDevice_spec hs, rPort_spec hs, hat, d0, d1, d2', nth_getI pin, lin_true lin', getI_get? lin', d3', decide_true, decide_false, Bool.false_eq_true, if_true, if_false, Option.bind_some], he.symm⟩
      · have : k = t.devs.length := by omega
        subst this
        refine ⟨.inr (.inr l1), by simp only [palingref23_tenant_ownx_L2, nth_getI hi, hti, c, decide_false, Bool.false_eq_true, if_false, Option.bind_some], ?_⟩
        rw [he, List.drop_of_length_le (by unfold pairsT; simp; omega)]
        rfl) ⟨0, rfl, by omega, hl, by simp⟩ (by simp only; omega)
  rw [e, Option.bind_some]
  rw [← h1]
  rcases r with r | r <;> rfl
theorem rtwice_spec {ls : List Api_Tenant} (hl : ls.length ≤ 40) {k : Nat} (hk : k < ls.length) {n3 : Nat} {l : List Int} : loopM (palingref23_tenant_ownx_L1 n l n3 ls (k : Int)) 0 = some (if ∃ x ∈ ls.take k, x.name = (getI ls (k : Int)).name then .inl () else .inr ()) := by
  have htl : (ls.take k).length = k := by simp; omega
  have hik : inL ls (k : Int) := ⟨by omega, by omega⟩
  have e := loop_each (f := palingref23_tenant_ownx_L1 n l n3 ls (k : Int)) (ls.take k) (fun _ x => ¬ x.name = (getI ls (k : Int)).name) (Sum.inl () : Unit ⊕ Unit) (Sum.inr ()) (by unfold Few; omega) (fun i i0 i1 hi => by
    have hii : inL ls i := ⟨i0, by omega⟩
    have hg : getI (ls.take k) i = getI ls i := by
      unfold getI
      rw [List.getElem?_take, if_pos (by omega)]
    have hw := wr64 (n := i + 1) (by omega) (by omega)
    have c : i < (k : Int) := by omega
    simp only [palingref23_tenant_ownx_L1, c, nth_getI hii, nth_getI hik, seqB_dec, hg, hw, decide_true, if_true, Option.bind_some]
    by_cases d : (getI ls i).name = (getI ls (k : Int)).name <;> simp [d]) (by
    rw [htl]
    simp [palingref23_tenant_ownx_L1])
  rw [e]
  by_cases h : ∃ x ∈ ls.take k, x.name = (getI ls (k : Int)).name
  · rw [if_pos h, if_neg (fun q => by obtain ⟨x, hx, e⟩ := h; exact eachP_mem.1 q x hx e)]
  · rw [if_neg h, if_pos (eachP_mem.2 fun x hx e => h ⟨x, hx, e⟩)]
theorem rnone_spec (hp : n.ports.length ≤ 1000) {ls : List Api_Tenant} : loopM (fun s : (List Int) × Int => match s with | (l6, v7) => palingref23_Assign_L1 n ls l6 v7) ([], 0) = some (List.replicate n.ports.length (-1)) := by
  exact loopM_trace (f := fun s : (List Int) × Int => match s with | (l6, v7) => palingref23_Assign_L1 n ls l6 v7) (fun i => (List.replicate i (-1 : Int), (i : Int))) n.ports.length (by omega) (fun i hi => by
    have hw := wr64 (n := (i : Int) + 1) (by omega) (by omega)
    have c : (i : Int) < (n.ports.length : Int) := by omega
    have hro : roomy 8 (List.replicate i (-1 : Int) ++ [-1]) = true := roomy_few (by simp; omega)
    show palingref23_Assign_L1 n ls _ _ = _
    unfold palingref23_Assign_L1
    rw [if_pos (decide_eq_true c), if_pos hro, hw, List.replicate_succ']
    rfl) (by
    show palingref23_Assign_L1 n ls _ _ = _
    unfold palingref23_Assign_L1
    rw [if_neg (by simp)])
theorem rAssign_spec (hs : SmN n) (hp : n.ports.length ≤ 1000) {ls : List Api_Tenant} (hb : BndT ls) : palingref23_Assign n ls = some (assignR n ls) := by
  unfold palingref23_Assign assignR
  by_cases hr : RightP n
  case neg => simp [rRight_spec hs, hr]
  have hls := hb.1
  generalize hn3 : (List.replicate n.ports.length (-1 : Int)) = l17
  have hl17 : l17.length = n.ports.length := by rw [← hn3]; simp
  obtain ⟨r, e, h1⟩ := loopM_rule (f := fun s : (List Int) × Int => match s with | (l10, v11) => palingref23_Assign_L2 n ls l17 l10 v11)
    (fun s => ∃ k : Nat, s.2 = (k : Int) ∧ k ≤ ls.length ∧ s.1.length = n.ports.length ∧ assignF n [] ls l17 = assignF n (ls.take k) (ls.drop k) s.1)
    (fun r => r = assignF n [] ls l17) (fun s => (ls.length - s.2).toNat) (s := (l17, 0)) (fun s hI => by
      obtain ⟨l1, v⟩ := s
      obtain ⟨k, hk, hkn, hlen, he⟩ := hI
      simp only at hk hlen he ⊢
      subst hk
      by_cases c : (k : Int) < (ls.length : Int)
      · have ik : inL ls (k : Int) := ⟨by omega, c⟩
        have hw := wr64 (n := (k : Int) + 1) (by omega) (by omega)
        have hT := hb.2 _ (getI_mem ik)
        have htl : (ls.take k).length = k := by simp; omega
        rw [drop_cons_getI (by omega)] at he
        simp only [assignF, htl] at he
        have htw := rtwice_spec (n := n) hls (k := k) (by omega) (n3 := l17.length) (l := l1)
        by_cases d1 : ¬ TenP (getI ls (k : Int)) ∨ 10 ≤ k
        · rw [if_pos d1] at he
          refine ⟨.inr (.inl ((getI ls (k : Int)).row, 2)), ?_, he.symm⟩
          have hx : palingref23_tenant_ownx n l1 l17.length ls (k : Int) = some (l1, 2) := by
            unfold palingref23_tenant_ownx
            rw [nth_getI ik, Option.bind_some, r14Right_spec hT, Option.bind_some]
            by_cases d : TenP (getI ls (k : Int))
            · have : 10 ≤ k := d1.resolve_left (fun q => q d)
              rw [if_neg (by simpa using d), if_pos (decide_eq_true (by omega))]
            · rw [if_pos (by simpa using d)]
          simp only [palingref23_Assign_L2, c, hx, nth_getI ik, decide_true, if_true, Option.bind_some]; rfl
        · rw [if_neg d1] at he
          have hten : TenP (getI ls (k : Int)) := Classical.byContradiction fun q => d1 (.inl q)
          have hk9 : ¬ (k : Int) > 9 := fun q => d1 (.inr (by omega))
          by_cases d2 : ∃ x ∈ ls.take k, x.name = (getI ls (k : Int)).name
          · rw [if_pos d2] at he
            refine ⟨.inr (.inl ((getI ls (k : Int)).row, 30)), ?_, he.symm⟩
            have hx : palingref23_tenant_ownx n l1 l17.length ls (k : Int) = some (l1, 30) := by
              unfold palingref23_tenant_ownx
              rw [nth_getI ik, Option.bind_some, r14Right_spec hT, Option.bind_some, if_neg (by simpa using hten), if_neg (by simpa using hk9), htw, if_pos d2]
              rfl
            simp only [palingref23_Assign_L2, c, hx, nth_getI ik, decide_true, if_true, Option.bind_some]; rfl
          · rw [if_neg d2] at he
            have hcl := rclaim_spec hs hr ik rfl hten.2.1 (by have := hten.2.2.2.1; omega) (n3 := l17.length) hlen
            have hx : palingref23_tenant_ownx n l1 l17.length ls (k : Int) = some (claimF n (k : Int) (pairsT (getI ls (k : Int))) l1) := by
              unfold palingref23_tenant_ownx
              rw [nth_getI ik, Option.bind_some, r14Right_spec hT, Option.bind_some, if_neg (by simpa using hten), if_neg (by simpa using hk9), htw, if_neg d2]
              exact hcl
            by_cases d3 : (claimF n (k : Int) (pairsT (getI ls (k : Int))) l1).2 = 0
            · rw [if_neg (fun q => q d3)] at he
              have d3' : ((claimF n (k : Int) (pairsT (getI ls (k : Int))) l1).2 != 0) = false := by rw [d3]; rfl
              refine ⟨.inl ((claimF n (k : Int) (pairsT (getI ls (k : Int))) l1).1, (k : Int) + 1), ?_, ⟨k + 1, by simp, by omega, by simp only; rw [claimF_len]; exact hlen, ?_⟩, by simp only; omega⟩
              · simp only [palingref23_Assign_L2, c, hx, d3', hw, decide_true, Bool.false_eq_true, if_true, if_false, Option.bind_some]
              · rw [he]
                have : ls.take (k + 1) = ls.take k ++ [getI ls (k : Int)] := by
                  have hg := getI_get? ik
                  simp only [Int.toNat_natCast] at hg
                  rw [List.take_add_one, hg]; rfl
                simp only [this]
            · rw [if_pos d3] at he
              have d3' : ((claimF n (k : Int) (pairsT (getI ls (k : Int))) l1).2 != 0) = true := by simpa using d3
              refine ⟨.inr (.inl ((getI ls (k : Int)).row, (claimF n (k : Int) (pairsT (getI ls (k : Int))) l1).2)), ?_, he.symm⟩
              simp only [palingref23_Assign_L2, c, hx, d3', nth_getI ik, decide_true, if_true, Option.bind_some]
      · have : k = ls.length := by omega
        subst this
        refine ⟨.inr (.inr l1), by simp only [palingref23_Assign_L2, c, decide_false, Bool.false_eq_true, if_false], ?_⟩
        rw [he, List.drop_of_length_le (Nat.le_refl _)]
        rfl) ⟨0, rfl, by omega, hl17, by simp⟩ (by simp only; omega)
  subst h1
  have hrn := rnone_spec (n := n) hp (ls := ls)
  rw [hn3] at hrn
  rw [rRight_spec hs, Option.bind_some, if_neg (by simpa using hr), if_pos hr, hrn]
  simp only [Option.bind_some, e]
  cases hA : assignF n [] ls l17 with
  | inl q => rfl
  | inr l =>
    have hlen : l.length = n.ports.length := by rw [assignF_len _ _ _ _ hA]; exact hl17
    simp only
    obtain ⟨r3, e3, h3⟩ := loopM_rule (f := palingref23_Assign_L3 n l17 l) (fun i => 0 ≤ i ∧ i ≤ n.ports.length ∧ ∀ j, 0 ≤ j → j < i → ¬ FreeP n l j)
      (fun r3 => r3 = if 0 ≤ fstI (mkL n.ports.length fun x => x) (FreeP n l) then .inl (getI n.ports (fstI (mkL n.ports.length fun x => x) (FreeP n l))).row else .inr ()) (fun i => (n.ports.length - i).toNat) (s := (0 : Int)) (fun i hI => by
        obtain ⟨i0, i1, hno⟩ := hI
        by_cases c : i < (n.ports.length : Int)
        · have ip : inL n.ports i := ⟨i0, c⟩
          have il : inL l i := ⟨i0, by omega⟩
          have hw := wr64 (n := i + 1) (by omega) (by omega)
          by_cases d : FreeP n l i
          · have hfx := fst_ix i0 c d hno
            refine ⟨.inr (.inl (getI n.ports i).row), ?_, by rw [hfx, if_pos i0]⟩
            have d1' : ((getI n.ports i).link == -1) = true := by
              rcases link_or hr ip with q | q
              · rw [q]; rfl
              · have := d.1; omega
            have d2' : (getI l i == -1) = true := by rw [d.2]; rfl
            simp only [palingref23_Assign_L3, c, nth_getI ip, d1', lin_true il, getI_get? il, d2', decide_true, if_true, Option.bind_some]
          · refine ⟨.inl (i + 1), ?_, ⟨by omega, by omega, fun j a b => ?_⟩, by omega⟩
            · by_cases d1 : (getI n.ports i).link = -1
              · have d2' : (getI l i == -1) = false := by
                  have : ¬ getI l i = -1 := fun q => d ⟨by omega, q⟩
                  simpa using this
                have d1' : ((getI n.ports i).link == -1) = true := by simpa using d1
                simp only [palingref23_Assign_L3, c, nth_getI ip, d1', lin_true il, getI_get? il, d2', hw, decide_true, Bool.false_eq_true, if_true, if_false, Option.bind_some]
              · have d1' : ((getI n.ports i).link == -1) = false := by simpa using d1
                simp only [palingref23_Assign_L3, c, nth_getI ip, d1', hw, decide_true, Bool.false_eq_true, if_true, if_false, Option.bind_some]
            · by_cases e : j = i
              · rw [e]; exact d
              · exact hno j a (by omega)
        · have hni : ¬ 0 ≤ fstI (mkL n.ports.length fun x => x) (FreeP n l) := fun h => by
            have h2 := mkL_inL.1 (fstI_inL.1 h)
            have h3 := fstI_is h
            rw [mkL_get (fstI_inL.1 h)] at h3
            exact hno _ h2.1 (by omega) h3
          exact ⟨.inr (.inr ()), by simp only [palingref23_Assign_L3, c, decide_false, Bool.false_eq_true, if_false], by rw [if_neg hni]⟩) ⟨by omega, by omega, fun j a b => by omega⟩ (by omega)
    rw [e3, h3]
    simp only [Option.bind_some]
    by_cases hfx : 0 ≤ fstI (mkL n.ports.length fun x => x) (FreeP n l)
    · rw [if_pos hfx, if_pos hfx]
    · rw [if_neg hfx, if_neg hfx]
theorem ownersAssigns (n : Api_Net) (ls : List Api_Tenant) (_ : n.Ok) (_ : okL Api_Tenant.Ok ls) : palinglaw23_OwnersAssigns n ls = some true := by
  unfold palinglaw23_OwnersAssigns
  rw [works23, Great_spec, Option.bind_some]
  by_cases hg : BndN n 200 100
  case neg => rw [if_pos (by simpa using hg)]; rfl
  rw [if_neg (by simpa using hg), Great14_spec, Option.bind_some]
  by_cases hb : BndT ls
  case neg => rw [if_pos (by simpa using hb)]; rfl
  rw [if_neg (by simpa using hb)]
  have hs := hg.sm
  have hp := hg.ports
  rw [owners_Assign_spec hs (by omega) hb, rAssign_spec hs (by omega) hb]
  have hf : Few (assignR n ls).1 := by
    unfold assignR
    split
    · cases hA : assignF n [] ls (List.replicate n.ports.length (-1)) with
      | inl q => exact few_nil
      | inr l =>
        have hlen : l.length = n.ports.length := by rw [assignF_len _ _ _ _ hA]; simp
        simp only
        split
        · exact few_nil
        · unfold Few; simp only; omega
    · exact few_nil
  have hi : palingref03_Ints (assignR n ls).1 (assignR n ls).1 = some true := by rw [rInts_spec hf]; simp
  simp only [Option.bind_some]
  rw [hi]
  simp only [Option.bind_some, beq_self_eq_true, if_true]
end
end Go.Eng
