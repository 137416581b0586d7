/- Chapter 47 (audit): what is noted, on the reference's side. -/
import Derived.Test.YtdlaaoajcoogbaaGreatDoorEngA0
set_option linter.unusedVariables false
set_option linter.unusedSectionVars false
set_option linter.unusedSimpArgs false
namespace Go.Eng
open Go Classical
attribute [local congr] ite_cg
def convN (x : Audit_Note) : Palingref47_Note := ⟨x.kind, x.row, x.a, x.b⟩
section
variable {n : Api_Net}
theorem rvlans_spec {p : Api_Port} (hp : p.tagged.length ≤ 1000) : palingref47_vlans p = some (vlansP p) := by
  unfold palingref47_vlans vlansP
  by_cases c : p.native = 0
  · rw [if_pos (by simpa using c), if_pos c]
  · rw [if_neg (by simpa using c), if_pos (roomy_few (by simp; omega)), if_neg c]; rfl
theorem mlen {α β : Type} {l : List α} {c : α → β} {B : Nat} (h : l.length ≤ B) : (l.map c).length ≤ B := by rw [List.length_map]; exact h
section
variable (hs : SmN n) (hg : BndN n 200 100) (hr : RightP n) (ho : n.Ok)
include hs hg hr ho
theorem rShifted_spec : palingref47_shifted n = some ((cat (shG n) n.links.length).map convN) := by
  have f1 := hr.few.2.2.1
  unfold palingref47_shifted
  rw [loop_cat (f := fun s : (List Palingref47_Note) × Int => match s with | (l2, v3) => palingref47_shifted_L1 n l2 v3) n.links.length (fun i => (shG n i).map convN) [] 1 (by omega) (fun i hi => mlen (by unfold shG; exact len1)) (by simp; omega) (fun i l hi hll => by
    have il : inL n.links (i : Int) := ⟨by omega, by omega⟩
    have hL := hr.links _ il
    have ha := (hr.ports _ hL.1).2.1
    have hb := (hr.ports _ hL.2.1).2.1
    show palingref47_shifted_L1 n l (i : Int) = _
    unfold palingref47_shifted_L1 palingref47_shifted_J2 shG
    rw [if_pos (decide_eq_true (by omega)), nth_getI il, Option.bind_some, nth_getI hL.1, Option.bind_some, Option.bind_some, nth_getI hL.2.1, Option.bind_some, wr64 (by omega) (by omega)]
    have ro : roomy 32 (l ++ [(⟨1, (getI n.links (i : Int)).row, (i : Int), (getI n.ports (getI n.links (i : Int)).a).native⟩ : Palingref47_Note)]) = true := roomy_few (by simp; omega)
    by_cases c1 : (getI n.ports (getI n.links (i : Int)).a).native = 0
    · simp [c1]
    have d1 : (getI n.ports (getI n.links (i : Int)).a).native > 0 := by omega
    by_cases c2 : (getI n.ports (getI n.links (i : Int)).b).native = 0
    · simp [c1, c2, d1]
    have d2 : (getI n.ports (getI n.links (i : Int)).b).native > 0 := by omega
    by_cases c3 : (getI n.ports (getI n.links (i : Int)).a).native = (getI n.ports (getI n.links (i : Int)).b).native
    · have d3 : (getI n.ports (getI n.links (i : Int)).b).native > 0 := d2
      simp [c2, c3, d3]
    · simp [c1, c2, c3, d1, d2, ro, convN]) (fun l => by
    show palingref47_shifted_L1 n l (n.links.length : Int) = _
    unfold palingref47_shifted_L1
    rw [if_neg (by simp)]), Option.bind_some, cat_map]
  rfl
theorem rLopsided_spec : palingref47_lopsided n = some ((cat (loG n) n.ports.length).map convN) := by
  have f2 := hr.few.2.1
  unfold palingref47_lopsided
  rw [loop_cat (f := fun s : (List Palingref47_Note) × Int => match s with | (l2, v3) => palingref47_lopsided_L1 n l2 v3) n.ports.length (fun i => (loG n i).map convN) [] 17 (by omega) (fun i hi => mlen (loG_len hr ⟨by omega, by omega⟩)) (by simp; omega) (fun i l hi hll => by
    have il : inL n.ports (i : Int) := ⟨by omega, by omega⟩
    have ht := port_tags hr il
    have hvl := vlansP_len (p := getI n.ports (i : Int))
    show palingref47_lopsided_L1 n l (i : Int) = _
    unfold palingref47_lopsided_L1 loG
    rw [if_pos (decide_eq_true (by omega)), nth_getI il, Option.bind_some, rvlans_spec (by omega), Option.bind_some, wr64 (by omega) (by omega)]
    simp only
    rcases port_link hr il with h1 | h1
    · have e := loopM_trace (f := fun s : (List Palingref47_Note) × Int => match s with | (l10, v11) => palingref47_lopsided_L2 n (i : Int) (getI n.ports (i : Int)) (vlansP (getI n.ports (i : Int))) l10 v11) (r := l) (fun _ => (l, 0)) 0 (by omega) (fun j hj => by omega) (by
        show palingref47_lopsided_L2 n (i : Int) (getI n.ports (i : Int)) (vlansP (getI n.ports (i : Int))) l 0 = _
        unfold palingref47_lopsided_L2
        split
        · rw [if_neg (by rw [h1]; simp)]
        · rfl)
      rw [e, Option.bind_some, if_pos (by omega), List.map_nil, List.append_nil]
      rfl
    · have h0 : ¬ (getI n.ports (i : Int)).link < 0 := by have := h1.1; omega
      rw [if_neg h0, cat_map]
      rw [loop_cat (f := fun s : (List Palingref47_Note) × Int => match s with | (l10, v11) => palingref47_lopsided_L2 n (i : Int) (getI n.ports (i : Int)) (vlansP (getI n.ports (i : Int))) l10 v11) (vlansP (getI n.ports (i : Int))).length (fun j => (lopV n (i : Int) (getI (vlansP (getI n.ports (i : Int))) j)).map convN) l 1 (by omega) (fun j hj => mlen (by unfold lopV; exact len1')) (by omega) (fun j l2 hj hl2 => by
        have ij : inL (vlansP (getI n.ports (i : Int))) (j : Int) := ⟨by omega, by omega⟩
        show palingref47_lopsided_L2 n (i : Int) (getI n.ports (i : Int)) (vlansP (getI n.ports (i : Int))) l2 (j : Int) = _
        unfold palingref47_lopsided_L2 lopV
        have hne : ((getI n.ports (i : Int)).link != (-1)) = true := by simp; omega
        rw [if_pos (decide_eq_true (by omega)), if_pos hne, nth_getI ij, Option.bind_some, rCross_spec hs hr, Option.bind_some, nth_getI h1, Option.bind_some, Option.bind_some, wr64 (by omega) (by omega)]
        by_cases c2 : (crossI n (i : Int) (getI (vlansP (getI n.ports (i : Int))) (j : Int))).2.2 = true
        · rw [if_neg (by simp [c2]), if_pos c2, List.map_nil, List.append_nil]; rfl
        · rw [if_pos (by simpa using c2), if_neg c2, if_pos (roomy_few (by simp; omega))]; rfl) (fun l2 => by
        show palingref47_lopsided_L2 n (i : Int) (getI n.ports (i : Int)) (vlansP (getI n.ports (i : Int))) l2 ((vlansP (getI n.ports (i : Int))).length : Int) = _
        unfold palingref47_lopsided_L2
        rw [if_neg (by simp)]), Option.bind_some]
      rfl) (fun l => by
    show palingref47_lopsided_L1 n l (n.ports.length : Int) = _
    unfold palingref47_lopsided_L1
    rw [if_neg (by simp)]), Option.bind_some, cat_map]
  rfl
theorem heard_spec {i : Int} (hi : inL n.domains i) : palingref47_heard n i = some (decide (¬ SilP n i)) := by
  have f1 := hr.few.2.2.2.1
  have hml : (mkL n.domains.length (DW domH (fullW n i))).length = n.domains.length := mkL_len
  unfold palingref47_heard SilP
  rw [rSteps_spec hg hr hi, Option.bind_some]
  simp only
  rw [loop_each (f := palingref47_heard_L1 n (mkL n.domains.length (DW domH (fullW n i))) n.domains.length) (mkL n.domains.length (DW domH (fullW n i))) (fun j x => ¬ (0 ≤ x ∧ 0 < (hostsI n j).length)) (.inl () : Unit ⊕ Unit) (.inr ()) (by unfold Few; omega) (fun j h0 h1 h2 => by
    unfold palingref47_heard_L1
    rw [if_pos (decide_eq_true (by omega)), if_pos (by rw [lin_dec]; exact decide_eq_true h2), getI_get? h2, Option.bind_some, wr64 (by omega) (by omega)]
    by_cases c : getI (mkL n.domains.length (DW domH (fullW n i))) j ≥ 0
    · rw [if_pos (decide_eq_true c), rHosts_spec hs hr, Option.bind_some]
      simp only
      by_cases c2 : 0 < (hostsI n j).length
      · rw [if_pos (by rw [decide_eq_true_eq]; omega), if_neg (fun q => q ⟨c, c2⟩)]
      · rw [if_neg (by rw [decide_eq_true_eq]; omega), if_pos (fun q => c2 q.2)]
    · rw [if_neg (by simpa using c), if_pos (fun q => c q.1)]) (by
    unfold palingref47_heard_L1
    rw [if_neg (by rw [hml]; simp)])]
  by_cases c : EachP (mkL n.domains.length (DW domH (fullW n i))) fun j x => ¬ (0 ≤ x ∧ 0 < (hostsI n j).length)
  · rw [if_pos c, decide_eq_false (fun q => q c)]; rfl
  · rw [if_neg c, decide_eq_true c]; rfl
theorem rDomains_spec : palingref47_domains n = some ((cat (lnG n) n.domains.length ++ cat (siG n) n.domains.length).map convN) := by
  have f1 := hr.few.2.2.2.1
  unfold palingref47_domains
  have e := loopM_trace (f := fun s : (List Palingref47_Note) × (List Palingref47_Note) × Int => match s with | (l2, l3, v4) => palingref47_domains_L1 n l2 l3 v4) (r := ((cat (lnG n) n.domains.length).map convN, (cat (siG n) n.domains.length).map convN)) (fun i => ((cat (lnG n) i).map convN, (cat (siG n) i).map convN, (i : Int))) n.domains.length (by omega) (fun i hi => by
    have il : inL n.domains (i : Int) := ⟨by omega, by omega⟩
    have b1 := mlen (c := convN) (cat_len (g := lnG n) (B := 1) (N := i) (fun i hi => by unfold lnG; exact len1))
    have b2 := mlen (c := convN) (cat_len (g := siG n) (B := 1) (N := i) (fun i hi => by unfold siG; exact len1))
    have hv : 0 ≤ (getI n.domains (i : Int)).vni := (hr.bare _ il).2.2.2.1
    show palingref47_domains_L1 n ((cat (lnG n) i).map convN) ((cat (siG n) i).map convN) (i : Int) = _
    rw [cat_succ, cat_succ, List.map_append, List.map_append]
    generalize (cat (lnG n) i).map convN = l2 at *
    generalize (cat (siG n) i).map convN = l3 at *
    have hJ : palingref47_domains_J2 n l2 l3 (i : Int) (getI n.domains (i : Int)) = some (l2 ++ (lnG n (i : Int)).map convN) := by
      unfold palingref47_domains_J2 lnG
      have ro : roomy 32 (l2 ++ [(⟨3, (getI n.domains (i : Int)).row, (i : Int), (getI n.domains (i : Int)).vni⟩ : Palingref47_Note)]) = true := roomy_few (by simp; omega)
      by_cases c1 : (getI n.domains (i : Int)).vni = 0
      · simp [c1]
      have d1 : (getI n.domains (i : Int)).vni > 0 := by omega
      by_cases c2 : (getI n.domains (i : Int)).peers = []
      · simp [c1, c2, d1, ro, convN]
      · simp [c1, c2, d1]
    unfold palingref47_domains_L1
    rw [if_pos (decide_eq_true (by omega)), nth_getI il, Option.bind_some, hJ, Option.bind_some, heard_spec hs hg hr ho il, Option.bind_some, wr64 (by omega) (by omega)]
    unfold siG
    by_cases c : SilP n (i : Int)
    · rw [if_pos (by simp [c]), if_pos c, if_pos (roomy_few (by simp; omega))]; rfl
    · rw [if_neg (by simp [c]), if_neg c, List.map_nil, List.append_nil]; rfl) (by
    show palingref47_domains_L1 n _ _ (n.domains.length : Int) = _
    unfold palingref47_domains_L1
    rw [if_neg (by simp)])
  have e' : loopM (fun s : (List Palingref47_Note) × (List Palingref47_Note) × Int => match s with | (l2, l3, v4) => palingref47_domains_L1 n l2 l3 v4) ([], [], 0) = some ((cat (lnG n) n.domains.length).map convN, (cat (siG n) n.domains.length).map convN) := e
  rw [e', Option.bind_some]
  obtain ⟨b1, b2, b3, b4, _⟩ := allN_lens hr
  simp only
  rw [if_pos (roomy_few (by simp only [List.length_append, List.length_map]; omega)), List.map_append]
theorem rUsed_spec {l : List Palingref47_Note} {i : Int} : ∃ b, loopM (fun s : Bool × Int => match s with | (v5, v6) => palingref47_records_L2 n l i v5 v6) (false, 0) = some b ∧ (b = true ↔ UsedQ n i) := by
  have hf := hs.irbs
  refine ⟨_, loop_any (f := fun s : Bool × Int => match s with | (v5, v6) => palingref47_records_L2 n l i v5 v6) n.irbs (fun _ x => x.vrf = i) (out := id) hs.irbs (fun j b h0 h1 h2 => by
    show palingref47_records_L2 n l i b j = _
    unfold palingref47_records_L2
    rw [if_pos (decide_eq_true h1), wr64 (by omega) (by unfold Few at hf; omega)]
    cases b with
    | true => simp
    | false =>
      rw [if_neg (by simp), nth_getI h2, Option.bind_some]
      by_cases c : (getI n.irbs j).vrf = i <;> simp [c]) (fun b => by
    show palingref47_records_L2 n l i b (n.irbs.length : Int) = _
    unfold palingref47_records_L2
    rw [if_neg (by simp)]; rfl), ?_⟩
  simp only [id, decide_eq_true_eq]
  exact Iff.rfl
theorem rBare_spec {l : List Palingref47_Note} {i : Int} : ∃ k : Nat, loopM (fun s : Int × Int => match s with | (v49, v50) => palingref47_records_L5 n l i v49 v50) (0, 0) = some (k : Int) ∧ (k = 0 ↔ ∀ j : Nat, j < n.ports.length → (getI n.ports (j : Int)).dev ≠ i) := by
  have f4 := hr.few.2.1
  refine ⟨_, loop_cnt (f := fun s : Int × Int => match s with | (v49, v50) => palingref47_records_L5 n l i v49 v50) n.ports (fun p => p.dev = i) (by omega) (fun j v hj v0 v1 => by
    have ij : inL n.ports (j : Int) := ⟨by omega, by omega⟩
    show palingref47_records_L5 n l i v (j : Int) = _
    unfold palingref47_records_L5
    rw [if_pos (decide_eq_true (by omega)), nth_getI ij, Option.bind_some, wr64 (by omega) (by omega), wr64 (by omega) (by omega)]
    by_cases c : (getI n.ports (j : Int)).dev = i
    · rw [if_pos (by simpa using c), if_pos c]; rfl
    · rw [if_neg (by simpa using c), if_neg c]; rfl) (fun v => by
    show palingref47_records_L5 n l i v (n.ports.length : Int) = _
    unfold palingref47_records_L5
    rw [if_neg (by simp)]), ?_⟩
  unfold cntA
  rw [List.length_eq_zero_iff, List.filter_eq_nil_iff]
  constructor
  · intro h j hj e
    have ij : inL n.ports (j : Int) := ⟨by omega, by omega⟩
    exact h _ (getI_mem ij) (by simpa using e)
  · intro h x hx
    obtain ⟨j, hj, rfl⟩ := mem_getI hx
    have := h j.toNat (by have := hj.1; have := hj.2; omega)
    rw [show ((j.toNat : Nat) : Int) = j by have := hj.1; omega] at this
    simpa using this
theorem rRecords_spec : palingref47_records n = some ((cat (unG n) n.vrfs.length ++ cat (piG n) n.statics.length ++ cat (baG n) n.devices.length).map convN) := by
  have f1 := hr.few.2.2.2.2.2.2.1
  have f2 := hr.few.2.2.2.2.1
  have f3 := hr.few.1
  obtain ⟨b1, b2, b3, b4, b5, b6, b7, b8, b9⟩ := allN_lens hr
  have c1 := mlen (c := convN) b5
  have c2 := mlen (c := convN) b6
  unfold palingref47_records
  rw [loop_cat (f := fun s : (List Palingref47_Note) × Int => match s with | (l2, v3) => palingref47_records_L1 n l2 v3) n.vrfs.length (fun i => (unG n i).map convN) [] 1 (by omega) (fun i hi => mlen (by unfold unG; exact len1')) (by simp; omega) (fun i l hi hll => by
    have il : inL n.vrfs (i : Int) := ⟨by omega, by omega⟩
    obtain ⟨b, eb, hb⟩ := rUsed_spec hs hg hr ho (l := l) (i := (i : Int))
    show palingref47_records_L1 n l (i : Int) = _
    unfold palingref47_records_L1 unG
    rw [if_pos (decide_eq_true (by omega)), eb, Option.bind_some, nth_getI il, Option.bind_some, Option.bind_some, wr64 (by omega) (by omega)]
    try simp only
    by_cases c : UsedQ n (i : Int)
    · rw [if_neg (by simp [hb.2 c]), if_pos c, List.map_nil, List.append_nil]; rfl
    · have : b = false := by
        cases b with
        | true => exact absurd (hb.1 rfl) c
        | false => rfl
      rw [if_pos (by simp [this]), if_neg c, if_pos (roomy_few (by simp; omega))]; rfl) (fun l => by
    show palingref47_records_L1 n l (n.vrfs.length : Int) = _
    unfold palingref47_records_L1
    rw [if_neg (by simp)]), Option.bind_some]
  try simp only
  rw [List.nil_append, ← cat_map (g := unG n) (c := convN)]
  rw [loop_cat (f := fun s : (List Palingref47_Note) × Int => match s with | (l27, v28) => palingref47_records_L3 n l27 v28) n.statics.length (fun i => (piG n i).map convN) ((cat (unG n) n.vrfs.length).map convN) 1 (by omega) (fun i hi => mlen (by unfold piG; exact len1)) (by omega) (fun i l hi hll => by
    have il : inL n.statics (i : Int) := ⟨by omega, by omega⟩
    have hS := hr.statics _ il
    have hlk := port_link hr hS.2.1
    show palingref47_records_L3 n l (i : Int) = _
    unfold palingref47_records_L3 piG
    rw [if_pos (decide_eq_true (by omega)), nth_getI il, Option.bind_some, nth_getI hS.2.1, Option.bind_some, Option.bind_some, Option.bind_some, wr64 (by omega) (by omega)]
    by_cases c : 0 ≤ (getI n.ports (getI n.statics (i : Int)).port).link
    · rw [if_pos (by simp; omega), if_pos c, if_pos (roomy_few (by simp; omega))]; rfl
    · have : (getI n.ports (getI n.statics (i : Int)).port).link = -1 := by
        rcases hlk with h | h
        · exact h
        · exact absurd h.1 c
      rw [if_neg (by rw [this]; simp), if_neg c, List.map_nil, List.append_nil]; rfl) (fun l => by
    show palingref47_records_L3 n l (n.statics.length : Int) = _
    unfold palingref47_records_L3
    rw [if_neg (by simp)]), Option.bind_some]
  try simp only
  rw [← cat_map (g := piG n) (c := convN), ← List.map_append]
  rw [loop_cat (f := fun s : (List Palingref47_Note) × Int => match s with | (l46, v47) => palingref47_records_L4 n l46 v47) n.devices.length (fun i => (baG n i).map convN) ((cat (unG n) n.vrfs.length ++ cat (piG n) n.statics.length).map convN) 1 (by omega) (fun i hi => mlen (by unfold baG; exact len1)) (by simp only [List.length_map, List.length_append]; omega) (fun i l hi hll => by
    have il : inL n.devices (i : Int) := ⟨by omega, by omega⟩
    obtain ⟨k, ek, hk⟩ := rBare_spec hs hg hr ho (l := l) (i := (i : Int))
    show palingref47_records_L4 n l (i : Int) = _
    unfold palingref47_records_L4 baG
    rw [if_pos (decide_eq_true (by omega)), ek, Option.bind_some, nth_getI il, Option.bind_some, wr64 (by omega) (by omega)]
    try simp only
    by_cases c : ∀ j : Nat, j < n.ports.length → (getI n.ports (j : Int)).dev ≠ (i : Int)
    · rw [if_pos (by simp [hk.2 c]), if_pos c, if_pos (roomy_few (by simp; omega))]; rfl
    · have : k ≠ 0 := fun q => c (hk.1 q)
      rw [if_neg (by simpa using this), if_neg c, List.map_nil, List.append_nil]; rfl) (fun l => by
    show palingref47_records_L4 n l (n.devices.length : Int) = _
    unfold palingref47_records_L4
    rw [if_neg (by simp)]), Option.bind_some, ← cat_map (g := baG n) (c := convN), ← List.map_append]
theorem rEdges_spec : palingref47_edges n = some ((cat (leG n) n.irbs.length ++ cat (trG n) n.ports.length).map convN) := by
  have f1 := hr.few.2.2.2.2.2.2.2
  have f2 := hr.few.2.1
  obtain ⟨b1, b2, b3, b4, b5, b6, b7, b8, b9⟩ := allN_lens hr
  have c1 := mlen (c := convN) b8
  unfold palingref47_edges
  rw [loop_cat (f := fun s : (List Palingref47_Note) × Int => match s with | (l2, v3) => palingref47_edges_L1 n l2 v3) n.irbs.length (fun i => (leG n i).map convN) [] 48 (by omega) (fun i hi => mlen (leG_len hr)) (by simp; omega) (fun i l hi hll => by
    have il : inL n.irbs (i : Int) := ⟨by omega, by omega⟩
    show palingref47_edges_L1 n l (i : Int) = _
    unfold palingref47_edges_L1 leG
    rw [if_pos (decide_eq_true (by omega)), cat_map]
    rw [loop_cat (f := fun s : (List Palingref47_Note) × Int => match s with | (l5, v6) => palingref47_edges_L2 n (i : Int) l5 v6) n.irbs.length (fun j => (leV n (i : Int) j).map convN) l 1 (by omega) (fun j hj => mlen (by unfold leV; exact len1)) (by omega) (fun j l2 hj hl2 => by
      have ij : inL n.irbs (j : Int) := ⟨by omega, by omega⟩
      show palingref47_edges_L2 n (i : Int) l2 (j : Int) = _
      unfold palingref47_edges_L2 palingref47_edges_J3 leV
      rw [if_pos (decide_eq_true (by omega)), (addrR_spec hs hg hr ho).2, Option.bind_some, nth_getI il, Option.bind_some, nth_getI ij, Option.bind_some, Option.bind_some, wr64 (by omega) (by omega)]
      have ro : roomy 32 (l2 ++ [(⟨8, (getI n.irbs (i : Int)).row, (i : Int), (j : Int)⟩ : Palingref47_Note)]) = true := roomy_few (by simp; omega)
      by_cases c2 : (addrR n (i : Int) (j : Int)).2 = true
      · by_cases c1 : (getI n.irbs (i : Int)).vrf = (getI n.irbs (j : Int)).vrf
        · simp [c1, c2]
        · simp [c1, c2, ro, convN]
      · simp [c2]) (fun l2 => by
      show palingref47_edges_L2 n (i : Int) l2 (n.irbs.length : Int) = _
      unfold palingref47_edges_L2
      rw [if_neg (by simp)]), Option.bind_some, wr64 (by omega) (by omega)]
    rfl) (fun l => by
    show palingref47_edges_L1 n l (n.irbs.length : Int) = _
    unfold palingref47_edges_L1
    rw [if_neg (by simp)]), Option.bind_some]
  try simp only
  rw [List.nil_append, ← cat_map (g := leG n) (c := convN)]
  rw [loop_cat (f := fun s : (List Palingref47_Note) × Int => match s with | (l36, v37) => palingref47_edges_L4 n l36 v37) n.ports.length (fun i => (trG n i).map convN) ((cat (leG n) n.irbs.length).map convN) 1 (by omega) (fun i hi => mlen (by unfold trG; exact len1)) (by omega) (fun i l hi hll => by
    have il : inL n.ports (i : Int) := ⟨by omega, by omega⟩
    have ht := port_tags hr il
    have hlk := port_link hr il
    show palingref47_edges_L4 n l (i : Int) = _
    unfold palingref47_edges_L4 palingref47_edges_J5 trG
    rw [if_pos (decide_eq_true (by omega)), nth_getI il, Option.bind_some, Option.bind_some, rvlans_spec (by omega), Option.bind_some, Option.bind_some, Option.bind_some, wr64 (by omega) (by omega)]
    try simp only
    have rv := rvlans_spec (p := getI n.ports (i : Int)) (by omega)
    have ro : roomy 32 (l ++ [(⟨9, (getI n.ports (i : Int)).row, (i : Int), (((vlansP (getI n.ports (i : Int))).length : Nat) : Int)⟩ : Palingref47_Note)]) = true := roomy_few (by simp; omega)
    by_cases c1 : (getI n.ports (i : Int)).link < 0
    · have d1 : (getI n.ports (i : Int)).link = -1 := by
        rcases hlk with h | h
        · exact h
        · have := h.1; omega
      by_cases c2 : 1 < (vlansP (getI n.ports (i : Int))).length
      · have c3 : (1 : Int) < ((vlansP (getI n.ports (i : Int))).length : Int) := by omega
        simp [d1, c2, c3, rv, ro, convN]
      · have c3 : ¬ (1 : Int) < ((vlansP (getI n.ports (i : Int))).length : Int) := by omega
        simp [d1, c2, c3]
    · have d1 : ¬ (getI n.ports (i : Int)).link = -1 := by omega
      simp [c1, d1]) (fun l => by
    show palingref47_edges_L4 n l (n.ports.length : Int) = _
    unfold palingref47_edges_L4
    rw [if_neg (by simp)]), Option.bind_some, ← cat_map (g := trG n) (c := convN), ← List.map_append]
theorem rAll_right : palingref47_All n = some ((allN n).map convN, 0) := by
  obtain ⟨b1, b2, b3, b4, b5, b6, b7, b8, b9⟩ := allN_lens hr
  unfold palingref47_All
  rw [rRight_spec hs, Option.bind_some, if_neg (by simpa using hr), rShifted_spec hs hg hr ho, Option.bind_some]
  try simp only
  rw [rLopsided_spec hs hg hr ho, Option.bind_some]
  try simp only
  rw [if_pos (roomy_few (by simp only [List.length_append, List.length_map]; omega)), rDomains_spec hs hg hr ho, Option.bind_some]
  try simp only
  rw [if_pos (roomy_few (by simp only [List.length_append, List.length_map]; omega)), rRecords_spec hs hg hr ho, Option.bind_some]
  try simp only
  rw [if_pos (roomy_few (by simp only [List.length_append, List.length_map]; omega)), rEdges_spec hs hg hr ho, Option.bind_some]
  try simp only
  rw [if_pos (roomy_few (by simp only [List.length_append, List.length_map]; omega))]
  unfold allN
  simp only [List.map_append, List.append_assoc]
end
theorem rAll_wrong (hs : SmN n) (hr : ¬ RightP n) : palingref47_All n = some ([], 2) := by
  unfold palingref47_All
  rw [rRight_spec hs, Option.bind_some, if_pos (by simpa using hr)]
end
end Go.Eng
