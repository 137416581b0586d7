/- Plain laws of chapter 14 (policy): a tenant's row, by the document. -/
import Derived.Test.YtakginbgngjhkaaEngP23e
set_option linter.unusedVariables false
set_option linter.unusedSectionVars false
set_option linter.unusedSimpArgs false
namespace Go.Eng
open Go Classical
attribute [local congr] ite_cg
theorem pairs_all {t : Api_Tenant} (ht : t.devs.length = t.ports.length) : (∀ q ∈ pairsT t, NameP q.1 ∧ NameP q.2) ↔ (∀ s ∈ t.devs, NameP s) ∧ (∀ s ∈ t.ports, NameP s) := by
  constructor
  · intro h
    refine ⟨fun s hs => ?_, fun s hs => ?_⟩
    · obtain ⟨k, hk, rfl⟩ := mem_getI hs
      have h0 := hk.1; have h1 := hk.2
      have hg := pairsT_get (t := t) (k := k.toNat) (by omega) ht
      rw [show ((k.toNat : Nat) : Int) = k from by omega] at hg
      exact (h _ (List.mem_of_getElem? hg)).1
    · obtain ⟨k, hk, rfl⟩ := mem_getI hs
      have h0 := hk.1; have h1 := hk.2
      have hg := pairsT_get (t := t) (k := k.toNat) (by omega) ht
      rw [show ((k.toNat : Nat) : Int) = k from by omega] at hg
      exact (h _ (List.mem_of_getElem? hg)).2
  · intro h q hq
    have := List.of_mem_zip hq
    exact ⟨h.1 _ this.1, h.2 _ this.2⟩
theorem row_loop (T x8 : ByteArray) (row : Int) {t : Api_Tenant} (ht : t.devs.length = t.ports.length) (hd : t.devs.length ≤ 16) (h1 : ∀ s ∈ t.devs, s.size ≤ 300) (h2 : ∀ s ∈ t.ports, s.size ≤ 300) :
    loopM (fun s : (List ByteArray) × (List ByteArray) × Int => match s with | (l15, l16, v17) => palingref14_Row_L1 (T :: t.name :: wordsT t) row x8 l15 l16 v17) ([], [], 2) =
      some (if ∀ q ∈ pairsT t, NameP q.1 ∧ NameP q.2 then .inr (t.devs, t.ports) else .inl ()) := by
  have hl : (pairsT t).length = t.devs.length := by unfold pairsT; rw [List.length_zip]; omega
  have hwl : (T :: t.name :: wordsT t).length = t.devs.length + 2 := by unfold wordsT; simp [hl]
  obtain ⟨r, e, hr⟩ := loopM_rule (f := fun s : (List ByteArray) × (List ByteArray) × Int => match s with | (l15, l16, v17) => palingref14_Row_L1 (T :: t.name :: wordsT t) row x8 l15 l16 v17)
    (fun s => ∃ k : Nat, s.2.2 = (k : Int) + 2 ∧ k ≤ t.devs.length ∧ s.1 = t.devs.take k ∧ s.2.1 = t.ports.take k ∧ ∀ q ∈ (pairsT t).take k, NameP q.1 ∧ NameP q.2)
    (fun r => r = if ∀ q ∈ pairsT t, NameP q.1 ∧ NameP q.2 then .inr (t.devs, t.ports) else .inl ()) (fun s => ((t.devs.length : Int) + 2 - s.2.2).toNat) (s := ([], [], 2)) (fun s hI => by
    obtain ⟨l1, l2, v⟩ := s
    obtain ⟨k, hk, hkn, e1, e2, hall⟩ := hI
    simp only at hk e1 e2
    subst hk; subst e1; subst e2
    by_cases c : k < t.devs.length
    · have ik : inL t.devs (k : Int) := ⟨by omega, by omega⟩
      have ip : inL t.ports (k : Int) := ⟨by omega, by omega⟩
      have hg := pairsT_get (t := t) (k := k) c ht
      have hin : inL (T :: t.name :: wordsT t) ((k : Int) + 2) := ⟨by omega, by omega⟩
      have hget : getI (T :: t.name :: wordsT t) ((k : Int) + 2) = wordS (getI t.devs (k : Int)) (getI t.ports (k : Int)) := by
        unfold getI
        rw [show ((k : Int) + 2).toNat = k + 1 + 1 from by omega, List.getElem?_cons_succ, List.getElem?_cons_succ]
        unfold wordsT
        rw [List.getElem?_map, hg]
        rfl
      have cl : (k : Int) + 2 < ((T :: t.name :: wordsT t).length : Int) := by omega
      have s1 := h1 _ (getI_mem ik)
      have s2 := h2 _ (getI_mem ip)
      have hsz := wordS_size (a := getI t.devs (k : Int)) (b := getI t.ports (k : Int))
      obtain ⟨d, hdot, d0, d1, hcase⟩ := row_step s1 s2
      have hwd := wr64 (n := d + 1) (by omega) (by omega)
      have hwk := wr64 (n := (k : Int) + 2 + 1) (by omega) (by omega)
      have hne : (d == ((wordS (getI t.devs (k : Int)) (getI t.ports (k : Int))).size : Int)) = false := by
        have : ¬ d = ((wordS (getI t.devs (k : Int)) (getI t.ports (k : Int))).size : Int) := by omega
        simpa using this
      have sl1 : slok (wordS (getI t.devs (k : Int)) (getI t.ports (k : Int))).size 0 d = true := by rw [slok_dec]; exact decide_eq_true (by omega)
      have sl2 : slok (wordS (getI t.devs (k : Int)) (getI t.ports (k : Int))).size (d + 1) ((wordS (getI t.devs (k : Int)) (getI t.ports (k : Int))).size : Int) = true := by rw [slok_dec]; exact decide_eq_true (by omega)
      have n1 := r03Name_spec (s := (wordS (getI t.devs (k : Int)) (getI t.ports (k : Int))).extract (Int.toNat 0) d.toNat) (by rw [ByteArray.size_extract]; omega)
      have n2 := r03Name_spec (s := (wordS (getI t.devs (k : Int)) (getI t.ports (k : Int))).extract (d + 1).toNat (Int.toNat ((wordS (getI t.devs (k : Int)) (getI t.ports (k : Int))).size : Int))) (by rw [ByteArray.size_extract]; omega)
      have hz : Int.toNat 0 = 0 := rfl
      have hsn : Int.toNat ((wordS (getI t.devs (k : Int)) (getI t.ports (k : Int))).size : Int) = (wordS (getI t.devs (k : Int)) (getI t.ports (k : Int))).size := by omega
      have hstep : ∀ q, palingref14_Row_L1 (T :: t.name :: wordsT t) row x8 (t.devs.take k) (t.ports.take k) ((k : Int) + 2) = some q → ∃ q', (match ((t.devs.take k, t.ports.take k, (k : Int) + 2) : (List ByteArray) × (List ByteArray) × Int) with | (l15, l16, v17) => palingref14_Row_L1 (T :: t.name :: wordsT t) row x8 l15 l16 v17) = some q' ∧ q' = q := fun q h => ⟨q, h, rfl⟩
      rcases hcase with ⟨na, nb, rfl⟩ | ⟨hn, hbad⟩
      · have p1 : (wordS (getI t.devs (k : Int)) (getI t.ports (k : Int))).extract (Int.toNat 0) (Int.toNat ((getI t.devs (k : Int)).size : Int)) = getI t.devs (k : Int) := by
          rw [hz, show Int.toNat ((getI t.devs (k : Int)).size : Int) = (getI t.devs (k : Int)).size from by omega]; exact wordS_pre
        have p2 : (wordS (getI t.devs (k : Int)) (getI t.ports (k : Int))).extract (Int.toNat (((getI t.devs (k : Int)).size : Int) + 1)) (Int.toNat ((wordS (getI t.devs (k : Int)) (getI t.ports (k : Int))).size : Int)) = getI t.ports (k : Int) := by
          rw [hsn, show Int.toNat (((getI t.devs (k : Int)).size : Int) + 1) = (getI t.devs (k : Int)).size + 1 from by omega]; exact wordS_suf
        rw [p1, decide_eq_true na] at n1
        rw [p2, decide_eq_true nb] at n2
        have r1 : roomy 16 (t.devs.take k ++ [getI t.devs (k : Int)]) = true := roomy_few (by rw [List.length_append, List.length_take]; have : ([getI t.devs (k : Int)] : List ByteArray).length = 1 := rfl; omega)
        have r2 : roomy 16 (t.ports.take k ++ [getI t.ports (k : Int)]) = true := roomy_few (by rw [List.length_append, List.length_take]; have : ([getI t.ports (k : Int)] : List ByteArray).length = 1 := rfl; omega)
        have hd1 : t.devs.take (k + 1) = t.devs.take k ++ [getI t.devs (k : Int)] := by
          have := getI_get? ik
          simp only [Int.toNat_natCast] at this
          rw [List.take_add_one, this]; rfl
        have hp1 : t.ports.take (k + 1) = t.ports.take k ++ [getI t.ports (k : Int)] := by
          have := getI_get? ip
          simp only [Int.toNat_natCast] at this
          rw [List.take_add_one, this]; rfl
        refine ⟨.inl (t.devs.take k ++ [getI t.devs (k : Int)], t.ports.take k ++ [getI t.ports (k : Int)], (k : Int) + 2 + 1), ?_, ⟨k + 1, by simp only; omega, by omega, hd1.symm, hp1.symm, fun q hq => ?_⟩, by simp only; omega⟩
        · show palingref14_Row_L1 _ _ _ _ _ _ = _
          unfold palingref14_Row_L1
          simp only [cl, nth_getI hin, hget, hdot, hne, sl1, sl2, hwd, n1, n2, p1, p2, r1, r2, hwk, decide_true, if_true, Option.bind_some, Bool.false_eq_true, if_false, Bool.not_true]
        · rw [List.take_add_one, hg] at hq
          rcases List.mem_append.1 hq with hq | hq
          · exact hall q hq
          · have : q = (getI t.devs (k : Int), getI t.ports (k : Int)) := by simpa using hq
            rw [this]; exact ⟨na, nb⟩
      · have hno : ¬ ∀ q ∈ pairsT t, NameP q.1 ∧ NameP q.2 := fun q => hn (q _ (List.mem_of_getElem? hg))
        refine ⟨.inr (.inl ()), ?_, by rw [if_neg hno]⟩
        show palingref14_Row_L1 _ _ _ _ _ _ = _
        unfold palingref14_Row_L1
        rw [← hz] at hbad
        rw [← hsn] at hbad
        simp only [cl, nth_getI hin, hget, hdot, hne, sl1, sl2, hwd, n1, n2, decide_true, if_true, Option.bind_some, Bool.false_eq_true, if_false]
        rcases hbad with hbad | hbad
        · rw [decide_eq_false hbad]; rfl
        · rw [decide_eq_false hbad]
          simp only [Bool.not_false, if_true]
          split <;> rfl
    · have : k = t.devs.length := by omega
      subst this
      have cl : ¬ (t.devs.length : Int) + 2 < ((T :: t.name :: wordsT t).length : Int) := by omega
      rw [List.take_of_length_le (by omega)] at hall
      refine ⟨.inr (.inr (t.devs, t.ports)), ?_, by rw [if_pos hall]⟩
      show palingref14_Row_L1 _ _ _ _ _ _ = _
      unfold palingref14_Row_L1
      rw [if_neg (by simpa using cl), List.take_of_length_le (by omega), List.take_of_length_le (by omega)]) ⟨0, by simp, by omega, by simp, by simp, fun q hq => by simp at hq⟩ (by simp only; omega)
  rw [e, hr]
theorem texts_self {l : List ByteArray} (hl : Few l) : palingref10_Texts l l = some true := by
  unfold palingref10_Texts
  rw [if_neg (by simp), loop_pass (f := palingref10_Texts_L1 l l) l (Sum.inr () : Unit ⊕ Unit) hl (fun i i0 i1 hi => by
    have hl' := hl
    have hw := wr64 (n := i + 1) (by omega) (by unfold Few at hl'; omega)
    simp [palingref10_Texts_L1, i1, nth_getI hi, hw, seqB]) (by simp [palingref10_Texts_L1])]
  rfl
theorem exact_self {t : Api_Tenant} (h1 : Few t.devs) (h2 : Few t.ports) : palingref14_Exact [t] [t] = some true := by
  have f1 : Few [t] := by unfold Few; simp
  have hS : palingref14_Same [t] [t] = some true := by
    unfold palingref14_Same
    rw [if_neg (by simp), loop_pass (f := palingref14_Same_L1 [t] [t]) [t] (Sum.inr () : Unit ⊕ Unit) f1 (fun i i0 i1 hi => by
      have hw := wr64 (n := i + 1) (by omega) (by simp at i1; omega)
      have hg : getI [t] i = t := by
        have : i = 0 := by simp at i1; omega
        subst this; rfl
      simp [palingref14_Same_L1, i1, nth_getI hi, hg, hw, seqB, texts_self h1, texts_self h2]
      simpa using i1) (by simp [palingref14_Same_L1])]
    rfl
  unfold palingref14_Exact
  rw [loop_pass (f := palingref14_Exact_L1 [t] [t]) [t] (Sum.inr () : Unit ⊕ Unit) f1 (fun i i0 i1 hi => by
    have hw := wr64 (n := i + 1) (by omega) (by simp at i1; omega)
    unfold palingref14_Exact_L1
    rw [if_pos (decide_eq_true i1), if_pos (decide_eq_true i1), nth_getI hi, Option.bind_some, Option.bind_some, if_neg (by simp), hw]) (by simp [palingref14_Exact_L1]), Option.bind_some]
  simp only [hS, Option.bind_some]
theorem r14Right_spec {t : Api_Tenant} (ht : TenOk t) : palingref14_Right t = some (decide (TenP t)) := by
  have hT : TenP t ↔ NameP t.name ∧ t.devs.length = t.ports.length ∧ 0 < t.devs.length ∧ t.devs.length ≤ 16 ∧ (∀ s ∈ t.devs, NameP s) ∧ (∀ s ∈ t.ports, NameP s) := Iff.rfl
  unfold palingref14_Right
  by_cases c1 : t.devs.length = t.ports.length
  case neg => rw [if_pos (by simp; omega), decide_eq_false (fun h => c1 (hT.1 h).2.1)]
  rw [if_neg (by simp; omega)]
  by_cases c2 : (t.devs.length : Int) > 16
  · rw [if_pos (decide_eq_true c2), decide_eq_false (fun h => by have := (hT.1 h).2.2.2.1; omega)]
  rw [if_neg (by simpa using c2), words_spec c1 (by omega) ht.dn ht.pn]
  have hl : (pairsT t).length = t.devs.length := by unfold pairsT; rw [List.length_zip]; omega
  have hwl : ((⟨#[116, 101, 110, 97, 110, 116]⟩ : ByteArray) :: t.name :: wordsT t).length = t.devs.length + 2 := by unfold wordsT; rw [List.length_cons, List.length_cons, List.length_map, hl]
  have hRow : palingref14_Row ((⟨#[116, 101, 110, 97, 110, 116]⟩ : ByteArray) :: t.name :: wordsT t) t.row = some (if TenP t then (t.devs, t.ports, t.row, t.name, 0) else if 0 < t.devs.length then ([], [], 0, (⟨#[]⟩ : ByteArray), 20) else ([], [], 0, (⟨#[]⟩ : ByteArray), 22)) := by
    unfold palingref14_Row
    have i0 : inL ((⟨#[116, 101, 110, 97, 110, 116]⟩ : ByteArray) :: t.name :: wordsT t) 0 := ⟨by omega, by omega⟩
    have i1 : inL ((⟨#[116, 101, 110, 97, 110, 116]⟩ : ByteArray) :: t.name :: wordsT t) 1 := ⟨by omega, by omega⟩
    have g0 : getI ((⟨#[116, 101, 110, 97, 110, 116]⟩ : ByteArray) :: t.name :: wordsT t) 0 = (⟨#[116, 101, 110, 97, 110, 116]⟩ : ByteArray) := rfl
    have g1 : getI ((⟨#[116, 101, 110, 97, 110, 116]⟩ : ByteArray) :: t.name :: wordsT t) 1 = t.name := rfl
    have hq : (!(seqB (⟨#[116, 101, 110, 97, 110, 116]⟩ : ByteArray) (⟨#[116, 101, 110, 97, 110, 116]⟩ : ByteArray))) = false := by unfold seqB; simp
    rw [nth_getI i0, Option.bind_some, g0, hq, nth_getI i1, g1, hwl]
    have hnm := ht.name
    by_cases c3 : 0 < t.devs.length
    case neg =>
      have : ¬ TenP t := fun h => c3 (hT.1 h).2.2.1
      rw [if_neg (by simp), if_pos (decide_eq_true (by omega)), if_neg this, if_neg c3]
    rw [if_neg (by simp), if_neg (by simp; omega), if_neg (by simp; omega), Option.bind_some, Option.bind_some, r03Name_spec (by omega), Option.bind_some]
    by_cases c4 : NameP t.name
    case neg =>
      have : ¬ TenP t := fun h => c4 (hT.1 h).1
      rw [if_pos (by simpa using c4), if_neg this, if_pos c3]
    rw [if_neg (by simpa using c4), row_loop _ _ _ c1 (by omega) ht.dn ht.pn]
    by_cases c5 : ∀ q ∈ pairsT t, NameP q.1 ∧ NameP q.2
    · have hn := (pairs_all c1).1 c5
      have hTt : TenP t := hT.2 ⟨c4, c1, c3, by omega, hn.1, hn.2⟩
      rw [if_pos c5, if_pos hTt]; rfl
    · have : ¬ TenP t := fun h => c5 ((pairs_all c1).2 ⟨(hT.1 h).2.2.2.2.1, (hT.1 h).2.2.2.2.2⟩)
      rw [if_neg c5, if_neg this, if_pos c3]; rfl
  simp only [Option.bind_some, hRow]
  by_cases hTt : TenP t
  · rw [if_pos hTt, decide_eq_true hTt]
    have := exact_self (t := t) (by have := ht.devs; unfold Few; omega) (by have := ht.ports; unfold Few; omega)
    show (if ((0 : Int) == 0) = true then (palingref14_Exact [t] [t]).bind fun r15 => some r15 else some false) = some true
    rw [this]; rfl
  · rw [if_neg hTt, decide_eq_false hTt]
    split <;> rfl
end Go.Eng
