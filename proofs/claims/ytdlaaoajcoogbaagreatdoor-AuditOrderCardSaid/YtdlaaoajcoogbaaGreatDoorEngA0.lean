/- Chapter 47 (audit): what is noted, on the program's side. -/
import Derived.Test.YtdlaaoajcoogbaaGreatDoorEngGP1
import Derived.Test.YtdlaaoajcoogbaaGreatDoorEngQ2
import Derived.Test.YtdlaaoajcoogbaaGreatDoorEngGP36a
set_option linter.unusedVariables false
set_option linter.unusedSectionVars false
set_option linter.unusedSimpArgs false
namespace Go.Eng
open Go Classical
attribute [local congr] ite_cg
/-! ### Loops that gather -/
section
variable {α : Type}
def cat (g : Int → List α) (N : Nat) : List α := (List.range N).flatMap fun i : Nat => g (i : Int)
theorem cat_zero {g : Int → List α} : cat g 0 = [] := rfl
theorem cat_succ {g : Int → List α} {N : Nat} : cat g (N + 1) = cat g N ++ g (N : Int) := by
  unfold cat; rw [List.range_succ, List.flatMap_append]; simp
theorem cat_len {g : Int → List α} {B : Nat} : ∀ {N : Nat}, (∀ i : Nat, i < N → (g (i : Int)).length ≤ B) → (cat g N).length ≤ N * B
  | 0, _ => by simp [cat]
  | N + 1, h => by
    have ih := cat_len (g := g) (B := B) (N := N) (fun i hi => h i (by omega))
    have hN := h N (by omega)
    rw [cat_succ, List.length_append, Nat.add_mul, Nat.one_mul]; omega
theorem mem_cat {g : Int → List α} {N : Nat} {x : α} : x ∈ cat g N ↔ ∃ i : Nat, i < N ∧ x ∈ g (i : Int) := by
  unfold cat; simp [List.mem_flatMap]
theorem loop_cat {f : List α × Int → Option ((List α × Int) ⊕ (List α))} (N : Nat) (g : Int → List α) (l0 : List α) (B : Nat) (hN : N ≤ 1000) (hB : ∀ i : Nat, i < N → (g (i : Int)).length ≤ B) (hl : l0.length + N * B ≤ 100000)
    (h : ∀ (i : Nat) (l : List α), i < N → l.length + B ≤ 100000 → f (l, (i : Int)) = some (.inl (l ++ g (i : Int), ((i + 1 : Nat) : Int)))) (he : ∀ l, f (l, (N : Int)) = some (.inr l)) : loopM f (l0, 0) = some (l0 ++ cat g N) := by
  have e := loopM_trace (f := f) (r := l0 ++ cat g N) (fun i => (l0 ++ cat g i, (i : Int))) N (by omega) (fun i hi => by
    have hc := cat_len (g := g) (B := B) (N := i) (fun j hj => hB j (by omega))
    have hm : i * B + B ≤ N * B := by
      have := Nat.mul_le_mul_right B (show i + 1 ≤ N by omega)
      rw [Nat.add_mul, Nat.one_mul] at this; exact this
    rw [h i (l0 ++ cat g i) hi (by rw [List.length_append]; omega), List.append_assoc, cat_succ]) (he _)
  simpa [cat_zero] using e
theorem loop_bool {f : Bool × Int → Option ((Bool × Int) ⊕ Bool)} (N : Nat) (P : Nat → Prop) (hN : N ≤ 1000000) (h : ∀ (i : Nat) (b : Bool), i < N → f (b, (i : Int)) = some (.inl (b && decide (P i), ((i + 1 : Nat) : Int)))) (he : ∀ b, f (b, (N : Int)) = some (.inr b)) :
    ∃ b, loopM f (true, 0) = some b ∧ (b = true ↔ ∀ i, i < N → P i) := by
  have e := loopM_trace (f := f) (r := decide (∀ i, i < N → P i)) (fun i => (decide (∀ j, j < i → P j), (i : Int))) N (by omega) (fun i hi => by
    rw [h i _ hi]
    have : (decide (∀ j, j < i → P j) && decide (P i)) = decide (∀ j, j < i + 1 → P j) := by
      rw [← Bool.decide_and]
      exact decide_eq_decide.2 ⟨fun q j hj => by
        by_cases e : j = i
        · rw [e]; exact q.2
        · exact q.1 j (by omega), fun q => ⟨fun j hj => q j (by omega), q i (by omega)⟩⟩
    rw [this]) (he _)
  refine ⟨_, ?_, decide_eq_true_iff⟩
  simpa using e
noncomputable def cntA (l : List α) (P : α → Prop) : Nat := (l.filter fun x => decide (P x)).length
theorem cntA_le {l : List α} {P : α → Prop} : cntA l P ≤ l.length := List.length_filter_le _ _
theorem loop_cnt [Inhabited α] {f : Int × Int → Option ((Int × Int) ⊕ Int)} (l : List α) (P : α → Prop) (hl : l.length ≤ 1000000)
    (h : ∀ (i : Nat) (v : Int), i < l.length → 0 ≤ v → v ≤ 1000000 → f (v, (i : Int)) = some (.inl (if P (getI l (i : Int)) then v + 1 else v, ((i + 1 : Nat) : Int)))) (he : ∀ v, f (v, (l.length : Int)) = some (.inr v)) :
    loopM f (0, 0) = some ((cntA l P : Nat) : Int) := by
  have e := loopM_trace (f := f) (r := ((cntA l P : Nat) : Int)) (fun i => (((cntA (l.take i) P : Nat) : Int), (i : Int))) l.length (by omega) (fun i hi => by
    have hc := cntA_le (l := l.take i) (P := P)
    rw [h i _ hi (by omega) (by rw [List.length_take] at hc; omega)]
    have il : inL l (i : Int) := ⟨by omega, by omega⟩
    have hst : l.take (i + 1) = l.take i ++ [getI l (i : Int)] := by
      have := getI_get? il
      simp only [Int.toNat_natCast] at this
      rw [List.take_add_one, this]; rfl
    rw [hst]
    unfold cntA
    rw [List.filter_append, List.length_append]
    by_cases c : P (getI l (i : Int))
    · rw [if_pos c]; simp [c]
    · rw [if_neg c]; simp [c]) (by rw [List.take_length]; exact he _)
  simpa [cntA] using e
end
/-! ### Notes -/
section
variable {n : Api_Net}
def vlansP (p : Api_Port) : List Int := if p.native = 0 then p.tagged else p.native :: p.tagged
theorem vlansP_len {p : Api_Port} : (vlansP p).length ≤ p.tagged.length + 1 := by unfold vlansP; split <;> simp
theorem vlans_spec {p : Api_Port} (hp : p.tagged.length ≤ 1000) : audit_vlans p = some (vlansP p) := by
  unfold audit_vlans vlansP
  by_cases c : p.native = 0
  · rw [if_neg (by simpa using c), if_pos (roomy_few (by omega)), if_pos c]
  · rw [if_pos (by simpa using c), if_pos (roomy_few (by simp)), if_pos (roomy_few (by simp; omega)), if_neg c]; rfl
theorem note_ok {a1 : List Api_Device} {a2 : List Api_Port} {a3 : List Api_Link} {a4 : List Api_Domain} {a5 : List Api_Static} {a6 : List Api_Flood} {a7 : List Api_Vrf} {a8 : List Api_Irb} {l : List Audit_Note} {k r x y : Int} (h : l.length + 1 ≤ 100000) : audit_auditor_note_own a1 a2 a3 a4 a5 a6 a7 a8 l k r x y = some () := by
  unfold audit_auditor_note_own
  rw [if_pos (roomy_few (by simp; omega))]
theorem port_link (hr : RightP n) {i : Int} (hi : inL n.ports i) : (getI n.ports i).link = -1 ∨ inL n.links (getI n.ports i).link := by
  rcases (hr.ports _ hi).2.2.2.2.2.2.2.2 with h | h
  · exact .inl h
  · exact .inr h.1
theorem port_tags (hr : RightP n) {i : Int} (hi : inL n.ports i) : (getI n.ports i).tagged.length ≤ 16 := by
  rcases (hr.ports _ hi).2.2.2.1 with h | h
  · rw [h]; simp
  · exact h.2.2
noncomputable def shG (n : Api_Net) (i : Int) : List Audit_Note :=
  if (getI n.ports (getI n.links i).a).native ≠ 0 ∧ (getI n.ports (getI n.links i).b).native ≠ 0 ∧ (getI n.ports (getI n.links i).a).native ≠ (getI n.ports (getI n.links i).b).native then [⟨1, (getI n.links i).row, i, (getI n.ports (getI n.links i).a).native⟩] else []
noncomputable def lopV (n : Api_Net) (i v : Int) : List Audit_Note := if (crossI n i v).2.2 = true then [] else [⟨2, (getI n.links (getI n.ports i).link).row, i, v⟩]
noncomputable def loG (n : Api_Net) (i : Int) : List Audit_Note :=
  if (getI n.ports i).link < 0 then [] else cat (fun j => lopV n i (getI (vlansP (getI n.ports i)) j)) (vlansP (getI n.ports i)).length
noncomputable def lnG (n : Api_Net) (i : Int) : List Audit_Note := if (getI n.domains i).vni ≠ 0 ∧ (getI n.domains i).peers.length = 0 then [⟨3, (getI n.domains i).row, i, (getI n.domains i).vni⟩] else []
def SilP (n : Api_Net) (i : Int) : Prop := EachP (mkL n.domains.length (DW domH (fullW n i))) fun j x => ¬ (0 ≤ x ∧ 0 < (hostsI n j).length)
noncomputable def siG (n : Api_Net) (i : Int) : List Audit_Note := if SilP n i then [⟨4, 0, i, (getI n.domains i).vlan⟩] else []
def UsedQ (n : Api_Net) (i : Int) : Prop := ∃ j, inL n.irbs j ∧ (getI n.irbs j).vrf = i
noncomputable def unG (n : Api_Net) (i : Int) : List Audit_Note := if UsedQ n i then [] else [⟨5, (getI n.vrfs i).row, i, (getI n.vrfs i).dev⟩]
noncomputable def piG (n : Api_Net) (i : Int) : List Audit_Note := if 0 ≤ (getI n.ports (getI n.statics i).port).link then [⟨6, (getI n.statics i).row, i, (getI n.statics i).port⟩] else []
noncomputable def baG (n : Api_Net) (i : Int) : List Audit_Note := if ∀ j : Nat, j < n.ports.length → (getI n.ports (j : Int)).dev ≠ i then [⟨7, (getI n.devices i).row, i, 0⟩] else []
noncomputable def addrR (n : Api_Net) (i k : Int) : Int × Bool := (choose_Address n i k).getD (0, false)
noncomputable def leV (n : Api_Net) (i k : Int) : List Audit_Note := if (getI n.irbs i).vrf ≠ (getI n.irbs k).vrf ∧ (addrR n i k).2 = true then [⟨8, (getI n.irbs i).row, i, k⟩] else []
noncomputable def leG (n : Api_Net) (i : Int) : List Audit_Note := cat (leV n i) n.irbs.length
noncomputable def trG (n : Api_Net) (i : Int) : List Audit_Note := if (getI n.ports i).link < 0 ∧ 1 < (vlansP (getI n.ports i)).length then [⟨9, (getI n.ports i).row, i, (((vlansP (getI n.ports i)).length : Nat) : Int)⟩] else []
theorem len1 {α : Type} {c : Prop} [Decidable c] {x : α} : (if c then [x] else []).length ≤ 1 := by split <;> simp
theorem len1' {α : Type} {c : Prop} [Decidable c] {x : α} : (if c then [] else [x]).length ≤ 1 := by split <;> simp
theorem loG_len (hr : RightP n) {i : Int} (hi : inL n.ports i) : (loG n i).length ≤ 17 := by
  unfold loG
  split
  · simp
  · have h1 := port_tags hr hi
    have h2 := vlansP_len (p := getI n.ports i)
    have := cat_len (g := fun j => lopV n i (getI (vlansP (getI n.ports i)) j)) (B := 1) (N := (vlansP (getI n.ports i)).length) (fun j hj => by unfold lopV; exact len1')
    omega
theorem leG_len (hr : RightP n) {i : Int} : (leG n i).length ≤ 48 := by
  have := cat_len (g := leV n i) (B := 1) (N := n.irbs.length) (fun j hj => by unfold leV; exact len1)
  have := hr.few.2.2.2.2.2.2.2
  unfold leG; omega
section
variable (hs : SmN n) (hg : BndN n 200 100) (hr : RightP n) (ho : n.Ok)
include hs hg hr ho
theorem pLinks_spec {l0 : List Audit_Note} (hl : l0.length ≤ 10000) : audit_auditor_links_auditor_note_own n.devices n.ports n.links n.domains n.statics n.floods n.vrfs n.irbs l0 = some (l0 ++ cat (shG n) n.links.length ++ cat (loG n) n.ports.length) := by
  have f1 := hr.few.2.2.1
  have f2 := hr.few.2.1
  have b1 := cat_len (g := shG n) (B := 1) (N := n.links.length) (fun i hi => by unfold shG; exact len1)
  unfold audit_auditor_links_auditor_note_own
  rw [loop_cat (f := fun s : (List Audit_Note) × Int => match s with | (l10, v11) => audit_auditor_links_auditor_note_own_L1 n.devices n.ports n.links n.domains n.statics n.floods n.vrfs n.irbs l10 v11) n.links.length (shG n) l0 1 (by omega) (fun i hi => by unfold shG; exact len1) (by omega) (fun i l hi hll => by
    have il : inL n.links (i : Int) := ⟨by omega, by omega⟩
    have hL := hr.links _ il
    show audit_auditor_links_auditor_note_own_L1 n.devices n.ports n.links n.domains n.statics n.floods n.vrfs n.irbs l (i : Int) = _
    unfold audit_auditor_links_auditor_note_own_L1 shG
    rw [if_pos (decide_eq_true (by omega)), nth_getI il, Option.bind_some, nth_getI hL.1, Option.bind_some, nth_getI hL.2.1, Option.bind_some, note_ok hll, wr64 (by omega) (by omega)]
    by_cases c1 : (getI n.ports (getI n.links (i : Int)).a).native = 0
    · simp [c1]
    by_cases c2 : (getI n.ports (getI n.links (i : Int)).b).native = 0
    · simp [c1, c2]
    by_cases c3 : (getI n.ports (getI n.links (i : Int)).a).native = (getI n.ports (getI n.links (i : Int)).b).native
    · simp [c1, c2, c3]
    · simp [c1, c2, c3]) (fun l => by
    show audit_auditor_links_auditor_note_own_L1 n.devices n.ports n.links n.domains n.statics n.floods n.vrfs n.irbs l (n.links.length : Int) = _
    unfold audit_auditor_links_auditor_note_own_L1
    rw [if_neg (by simp)]), Option.bind_some]
  try simp only
  rw [loop_cat (f := fun s : (List Audit_Note) × Int => match s with | (l29, v30) => audit_auditor_links_auditor_note_own_L2 n.devices n.ports n.links n.domains n.statics n.floods n.vrfs n.irbs l29 v30) n.ports.length (loG n) (l0 ++ cat (shG n) n.links.length) 17 (by omega) (fun i hi => loG_len hr ⟨by omega, by omega⟩) (by rw [List.length_append]; omega) (fun i l hi hll => by
    have il : inL n.ports (i : Int) := ⟨by omega, by omega⟩
    have ht := port_tags hr il
    show audit_auditor_links_auditor_note_own_L2 n.devices n.ports n.links n.domains n.statics n.floods n.vrfs n.irbs l (i : Int) = _
    unfold audit_auditor_links_auditor_note_own_L2 loG
    rw [if_pos (decide_eq_true (by omega)), nth_getI il, Option.bind_some, wr64 (by omega) (by omega)]
    by_cases c1 : (getI n.ports (i : Int)).link < 0
    · rw [if_pos (decide_eq_true c1), if_pos c1, List.append_nil]; rfl
    have hlk : inL n.links (getI n.ports (i : Int)).link := by
      rcases port_link hr il with h | h
      · omega
      · exact h
    have hvl := vlansP_len (p := getI n.ports (i : Int))
    rw [if_neg (by simpa using c1), if_neg c1, vlans_spec (by omega), Option.bind_some]
    simp only
    rw [loop_cat (f := fun s : (List Audit_Note) × Int => match s with | (l38, v39) => audit_auditor_links_auditor_note_own_L3 n.devices n.ports n.links n.domains n.statics n.floods n.vrfs n.irbs (i : Int) (getI n.ports (i : Int)) (vlansP (getI n.ports (i : Int))) l38 v39) (vlansP (getI n.ports (i : Int))).length (fun j => lopV n (i : Int) (getI (vlansP (getI n.ports (i : Int))) j)) l 1 (by omega) (fun j hj => by unfold lopV; exact len1') (by omega) (fun j l2 hj hl2 => by
      have ij : inL (vlansP (getI n.ports (i : Int))) (j : Int) := ⟨by omega, by omega⟩
      show audit_auditor_links_auditor_note_own_L3 n.devices n.ports n.links n.domains n.statics n.floods n.vrfs n.irbs (i : Int) (getI n.ports (i : Int)) (vlansP (getI n.ports (i : Int))) l2 (j : Int) = _
      unfold audit_auditor_links_auditor_note_own_L3 lopV
      have hc : links_Cross (⟨n.devices, n.ports, n.links, n.domains, n.statics, n.floods, n.vrfs, n.irbs⟩ : Api_Net) (i : Int) (getI (vlansP (getI n.ports (i : Int))) (j : Int)) = some (crossI n (i : Int) (getI (vlansP (getI n.ports (i : Int))) (j : Int))) := links_Cross_spec hs
      rw [if_pos (decide_eq_true (by omega)), if_pos (by rw [lin_dec]; exact decide_eq_true ij), getI_get? ij, Option.bind_some, hc, Option.bind_some, nth_getI hlk, Option.bind_some, note_ok hl2, wr64 (by omega) (by omega)]
      by_cases c2 : (crossI n (i : Int) (getI (vlansP (getI n.ports (i : Int))) (j : Int))).2.2 = true
      · rw [if_neg (by simp [c2]), if_pos c2, List.append_nil]; rfl
      · rw [if_pos (by simpa using c2), if_neg c2]; rfl) (fun l2 => by
      show audit_auditor_links_auditor_note_own_L3 n.devices n.ports n.links n.domains n.statics n.floods n.vrfs n.irbs (i : Int) (getI n.ports (i : Int)) (vlansP (getI n.ports (i : Int))) l2 ((vlansP (getI n.ports (i : Int))).length : Int) = _
      unfold audit_auditor_links_auditor_note_own_L3
      rw [if_neg (by simp)]), Option.bind_some]
    rfl) (fun l => by
    show audit_auditor_links_auditor_note_own_L2 n.devices n.ports n.links n.domains n.statics n.floods n.vrfs n.irbs l (n.ports.length : Int) = _
    unfold audit_auditor_links_auditor_note_own_L2
    rw [if_neg (by simp)]), Option.bind_some]
theorem silent_spec {l : List Audit_Note} {i : Int} (hi : inL n.domains i) : audit_auditor_silent ⟨n, l⟩ i = some (decide (SilP n i)) := by
  have f1 := hr.few.2.2.2.1
  have hml : (mkL n.domains.length (DW domH (fullW n i))).length = n.domains.length := mkL_len
  unfold audit_auditor_silent SilP
  rw [reach_Steps_spec hg hr hi, Option.bind_some]
  try simp only
  rw [loop_each (f := audit_auditor_silent_L1 ⟨n, l⟩ (mkL n.domains.length (DW domH (fullW n i))) n.domains.length) (mkL n.domains.length (DW domH (fullW n i))) (fun j x => ¬ (0 ≤ x ∧ 0 < (hostsI n j).length)) (.inl () : Unit ⊕ Unit) (.inr ()) (by unfold Few; omega) (fun j h0 h1 h2 => by
    unfold audit_auditor_silent_L1
    rw [if_pos (decide_eq_true (by omega)), if_pos (by rw [lin_dec]; exact decide_eq_true h2), getI_get? h2, Option.bind_some, wr64 (by omega) (by omega)]
    by_cases c : getI (mkL n.domains.length (DW domH (fullW n i))) j ≥ 0
    · rw [if_pos (decide_eq_true c), domains_Hosts_spec hs, Option.bind_some]
      by_cases c2 : 0 < (hostsI n j).length
      · rw [if_pos (by rw [decide_eq_true_eq]; omega), if_neg (fun q => q ⟨c, c2⟩)]
      · rw [if_neg (by rw [decide_eq_true_eq]; omega), if_pos (fun q => c2 q.2)]
    · rw [if_neg (by simpa using c), if_pos (fun q => c q.1)]) (by
    unfold audit_auditor_silent_L1
    rw [if_neg (by rw [hml]; simp)])]
  by_cases c : EachP (mkL n.domains.length (DW domH (fullW n i))) fun j x => ¬ (0 ≤ x ∧ 0 < (hostsI n j).length)
  · rw [if_pos c, decide_eq_true c]; rfl
  · rw [if_neg c, decide_eq_false c]; rfl
theorem pDomains_spec {l0 : List Audit_Note} (hl : l0.length ≤ 20000) : audit_auditor_domains_auditor_note_own n.devices n.ports n.links n.domains n.statics n.floods n.vrfs n.irbs l0 = some (l0 ++ cat (lnG n) n.domains.length ++ cat (siG n) n.domains.length) := by
  have f1 := hr.few.2.2.2.1
  have b1 := cat_len (g := lnG n) (B := 1) (N := n.domains.length) (fun i hi => by unfold lnG; exact len1)
  unfold audit_auditor_domains_auditor_note_own
  rw [loop_cat (f := fun s : (List Audit_Note) × Int => match s with | (l10, v11) => audit_auditor_domains_auditor_note_own_L1 n.devices n.ports n.links n.domains n.statics n.floods n.vrfs n.irbs l10 v11) n.domains.length (lnG n) l0 1 (by omega) (fun i hi => by unfold lnG; exact len1) (by omega) (fun i l hi hll => by
    have il : inL n.domains (i : Int) := ⟨by omega, by omega⟩
    show audit_auditor_domains_auditor_note_own_L1 n.devices n.ports n.links n.domains n.statics n.floods n.vrfs n.irbs l (i : Int) = _
    unfold audit_auditor_domains_auditor_note_own_L1 lnG
    rw [if_pos (decide_eq_true (by omega)), nth_getI il, Option.bind_some, note_ok hll, wr64 (by omega) (by omega)]
    by_cases c1 : (getI n.domains (i : Int)).vni = 0
    · simp [c1]
    by_cases c2 : (getI n.domains (i : Int)).peers = []
    · simp [c1, c2]
    · simp [c1, c2]) (fun l => by
    show audit_auditor_domains_auditor_note_own_L1 n.devices n.ports n.links n.domains n.statics n.floods n.vrfs n.irbs l (n.domains.length : Int) = _
    unfold audit_auditor_domains_auditor_note_own_L1
    rw [if_neg (by simp)]), Option.bind_some]
  try simp only
  rw [loop_cat (f := fun s : (List Audit_Note) × Int => match s with | (l24, v25) => audit_auditor_domains_auditor_note_own_L2 n.devices n.ports n.links n.domains n.statics n.floods n.vrfs n.irbs l24 v25) n.domains.length (siG n) (l0 ++ cat (lnG n) n.domains.length) 1 (by omega) (fun i hi => by unfold siG; exact len1) (by rw [List.length_append]; omega) (fun i l hi hll => by
    have il : inL n.domains (i : Int) := ⟨by omega, by omega⟩
    show audit_auditor_domains_auditor_note_own_L2 n.devices n.ports n.links n.domains n.statics n.floods n.vrfs n.irbs l (i : Int) = _
    unfold audit_auditor_domains_auditor_note_own_L2 siG
    have hq : audit_auditor_silent (⟨(⟨n.devices, n.ports, n.links, n.domains, n.statics, n.floods, n.vrfs, n.irbs⟩ : Api_Net), l⟩ : Audit_auditor) (i : Int) = some (decide (SilP n (i : Int))) := silent_spec hs hg hr ho il
    rw [if_pos (decide_eq_true (by omega)), nth_getI il, Option.bind_some, hq, Option.bind_some, note_ok hll, wr64 (by omega) (by omega)]
    by_cases c : SilP n (i : Int)
    · rw [if_pos (decide_eq_true c), if_pos c]; rfl
    · rw [if_neg (by simpa using c), if_neg c, List.append_nil]; rfl) (fun l => by
    show audit_auditor_domains_auditor_note_own_L2 n.devices n.ports n.links n.domains n.statics n.floods n.vrfs n.irbs l (n.domains.length : Int) = _
    unfold audit_auditor_domains_auditor_note_own_L2
    rw [if_neg (by simp)]), Option.bind_some]
theorem used_spec {l : List Audit_Note} {i : Int} : audit_auditor_used ⟨n, l⟩ i = some (decide (UsedQ n i)) := by
  unfold audit_auditor_used
  rw [loop_each (f := audit_auditor_used_L1 ⟨n, l⟩ i) n.irbs (fun _ x => ¬ x.vrf = i) (.inl () : Unit ⊕ Unit) (.inr ()) hs.irbs (fun j h0 h1 h2 => by
    have hf := hs.irbs
    unfold audit_auditor_used_L1
    rw [if_pos (decide_eq_true h1), nth_getI h2, Option.bind_some, wr64 (by omega) (by unfold Few at hf; omega)]
    by_cases c : (getI n.irbs j).vrf = i
    · rw [if_pos (by simpa using c), if_neg (fun q => q c)]
    · rw [if_neg (by simpa using c), if_pos c]) (by unfold audit_auditor_used_L1; rw [if_neg (by simp)])]
  by_cases c : UsedQ n i
  · obtain ⟨j, hj, e⟩ := c
    have hu : UsedQ n i := ⟨j, hj, e⟩
    rw [if_neg (fun q => q j hj e), decide_eq_true hu]; rfl
  · rw [if_pos (show EachP n.irbs (fun _ x => ¬ x.vrf = i) from fun j hj e => c ⟨j, hj, e⟩), decide_eq_false c]; rfl
theorem pRecords_spec {l0 : List Audit_Note} (hl : l0.length ≤ 30000) : audit_auditor_records_auditor_note_own n.devices n.ports n.links n.domains n.statics n.floods n.vrfs n.irbs l0 = some (l0 ++ cat (unG n) n.vrfs.length ++ cat (piG n) n.statics.length ++ cat (baG n) n.devices.length) := by
  have f1 := hr.few.2.2.2.2.2.2.1
  have f2 := hr.few.2.2.2.2.1
  have f3 := hr.few.1
  have f4 := hr.few.2.1
  have b1 := cat_len (g := unG n) (B := 1) (N := n.vrfs.length) (fun i hi => by unfold unG; exact len1')
  have b2 := cat_len (g := piG n) (B := 1) (N := n.statics.length) (fun i hi => by unfold piG; exact len1)
  unfold audit_auditor_records_auditor_note_own
  rw [loop_cat (f := fun s : (List Audit_Note) × Int => match s with | (l10, v11) => audit_auditor_records_auditor_note_own_L1 n.devices n.ports n.links n.domains n.statics n.floods n.vrfs n.irbs l10 v11) n.vrfs.length (unG n) l0 1 (by omega) (fun i hi => by unfold unG; exact len1') (by omega) (fun i l hi hll => by
    have il : inL n.vrfs (i : Int) := ⟨by omega, by omega⟩
    show audit_auditor_records_auditor_note_own_L1 n.devices n.ports n.links n.domains n.statics n.floods n.vrfs n.irbs l (i : Int) = _
    unfold audit_auditor_records_auditor_note_own_L1 unG
    have hq : audit_auditor_used (⟨(⟨n.devices, n.ports, n.links, n.domains, n.statics, n.floods, n.vrfs, n.irbs⟩ : Api_Net), l⟩ : Audit_auditor) (i : Int) = some (decide (UsedQ n (i : Int))) := used_spec hs hg hr ho
    rw [if_pos (decide_eq_true (by omega)), nth_getI il, Option.bind_some, hq, Option.bind_some, note_ok hll, wr64 (by omega) (by omega)]
    by_cases c : UsedQ n (i : Int)
    · rw [if_neg (by simp [c]), if_pos c, List.append_nil]; rfl
    · rw [if_pos (by simpa using c), if_neg c]; rfl) (fun l => by
    show audit_auditor_records_auditor_note_own_L1 n.devices n.ports n.links n.domains n.statics n.floods n.vrfs n.irbs l (n.vrfs.length : Int) = _
    unfold audit_auditor_records_auditor_note_own_L1
    rw [if_neg (by simp)]), Option.bind_some]
  try simp only
  rw [loop_cat (f := fun s : (List Audit_Note) × Int => match s with | (l25, v26) => audit_auditor_records_auditor_note_own_L2 n.devices n.ports n.links n.domains n.statics n.floods n.vrfs n.irbs l25 v26) n.statics.length (piG n) (l0 ++ cat (unG n) n.vrfs.length) 1 (by omega) (fun i hi => by unfold piG; exact len1) (by rw [List.length_append]; omega) (fun i l hi hll => by
    have il : inL n.statics (i : Int) := ⟨by omega, by omega⟩
    have hS := hr.statics _ il
    show audit_auditor_records_auditor_note_own_L2 n.devices n.ports n.links n.domains n.statics n.floods n.vrfs n.irbs l (i : Int) = _
    unfold audit_auditor_records_auditor_note_own_L2 piG
    rw [if_pos (decide_eq_true (by omega)), nth_getI il, Option.bind_some, nth_getI hS.2.1, Option.bind_some, note_ok hll, wr64 (by omega) (by omega)]
    by_cases c : 0 ≤ (getI n.ports (getI n.statics (i : Int)).port).link
    · rw [if_pos (decide_eq_true c), if_pos c]; rfl
    · rw [if_neg (by simpa using c), if_neg c, List.append_nil]; rfl) (fun l => by
    show audit_auditor_records_auditor_note_own_L2 n.devices n.ports n.links n.domains n.statics n.floods n.vrfs n.irbs l (n.statics.length : Int) = _
    unfold audit_auditor_records_auditor_note_own_L2
    rw [if_neg (by simp)]), Option.bind_some]
  try simp only
  rw [loop_cat (f := fun s : (List Audit_Note) × Int => match s with | (l40, v41) => audit_auditor_records_auditor_note_own_L3 n.devices n.ports n.links n.domains n.statics n.floods n.vrfs n.irbs l40 v41) n.devices.length (baG n) (l0 ++ cat (unG n) n.vrfs.length ++ cat (piG n) n.statics.length) 1 (by omega) (fun i hi => by unfold baG; exact len1) (by rw [List.length_append, List.length_append]; omega) (fun i l hi hll => by
    have il : inL n.devices (i : Int) := ⟨by omega, by omega⟩
    show audit_auditor_records_auditor_note_own_L3 n.devices n.ports n.links n.domains n.statics n.floods n.vrfs n.irbs l (i : Int) = _
    unfold audit_auditor_records_auditor_note_own_L3 baG
    rw [if_pos (decide_eq_true (by omega)), nth_getI il, Option.bind_some]
    obtain ⟨b, eb, hb⟩ := loop_bool (f := fun s : Bool × Int => match s with | (v45, v46) => audit_auditor_records_auditor_note_own_L4 n.devices n.ports n.links n.domains n.statics n.floods n.vrfs n.irbs l (i : Int) (getI n.devices (i : Int)) v45 v46) n.ports.length (fun j => (getI n.ports (j : Int)).dev ≠ (i : Int)) (by omega) (fun j b hj => by
      have ij : inL n.ports (j : Int) := ⟨by omega, by omega⟩
      show audit_auditor_records_auditor_note_own_L4 n.devices n.ports n.links n.domains n.statics n.floods n.vrfs n.irbs l (i : Int) (getI n.devices (i : Int)) b (j : Int) = _
      unfold audit_auditor_records_auditor_note_own_L4
      rw [if_pos (decide_eq_true (by omega)), nth_getI ij, Option.bind_some, wr64 (by omega) (by omega)]
      cases b with
      | false => simp
      | true =>
        by_cases c : (getI n.ports (j : Int)).dev = (i : Int) <;> simp [c]) (fun b => by
      show audit_auditor_records_auditor_note_own_L4 n.devices n.ports n.links n.domains n.statics n.floods n.vrfs n.irbs l (i : Int) (getI n.devices (i : Int)) b (n.ports.length : Int) = _
      unfold audit_auditor_records_auditor_note_own_L4
      rw [if_neg (by simp)])
    rw [eb, Option.bind_some, note_ok hll, wr64 (by omega) (by omega)]
    by_cases c : ∀ j : Nat, j < n.ports.length → (getI n.ports (j : Int)).dev ≠ (i : Int)
    · rw [if_pos c, if_pos (hb.2 c)]; rfl
    · rw [if_neg c, List.append_nil, if_neg (fun q => c (hb.1 q))]; rfl) (fun l => by
    show audit_auditor_records_auditor_note_own_L3 n.devices n.ports n.links n.domains n.statics n.floods n.vrfs n.irbs l (n.devices.length : Int) = _
    unfold audit_auditor_records_auditor_note_own_L3
    rw [if_neg (by simp)]), Option.bind_some]
theorem addrR_spec {i k : Int} : choose_Address n i k = some (addrR n i k) ∧ palingref36_Address n i k = some (addrR n i k) := by
  have f1 := hr.few.2.2.2.2.2.2.2
  obtain ⟨r, h1, h2⟩ := addr_same ho hs hr (by omega) (irb := i) (to := k)
  unfold addrR
  rw [h1, h2]; exact ⟨rfl, rfl⟩
theorem pEdges_spec {l0 : List Audit_Note} (hl : l0.length ≤ 40000) : audit_auditor_edges_auditor_note_own n.devices n.ports n.links n.domains n.statics n.floods n.vrfs n.irbs l0 = some (l0 ++ cat (leG n) n.irbs.length ++ cat (trG n) n.ports.length) := by
  have f1 := hr.few.2.2.2.2.2.2.2
  have f2 := hr.few.2.1
  have b1 := cat_len (g := leG n) (B := 48) (N := n.irbs.length) (fun i hi => leG_len hr)
  unfold audit_auditor_edges_auditor_note_own
  rw [loop_cat (f := fun s : (List Audit_Note) × Int => match s with | (l10, v11) => audit_auditor_edges_auditor_note_own_L1 n.devices n.ports n.links n.domains n.statics n.floods n.vrfs n.irbs l10 v11) n.irbs.length (leG n) l0 48 (by omega) (fun i hi => leG_len hr) (by omega) (fun i l hi hll => by
    have il : inL n.irbs (i : Int) := ⟨by omega, by omega⟩
    show audit_auditor_edges_auditor_note_own_L1 n.devices n.ports n.links n.domains n.statics n.floods n.vrfs n.irbs l (i : Int) = _
    unfold audit_auditor_edges_auditor_note_own_L1 leG
    rw [if_pos (decide_eq_true (by omega)), nth_getI il, Option.bind_some]
    rw [loop_cat (f := fun s : (List Audit_Note) × Int => match s with | (l15, v16) => audit_auditor_edges_auditor_note_own_L2 n.devices n.ports n.links n.domains n.statics n.floods n.vrfs n.irbs (i : Int) (getI n.irbs (i : Int)) l15 v16) n.irbs.length (leV n (i : Int)) l 1 (by omega) (fun j hj => by unfold leV; exact len1) (by omega) (fun j l2 hj hl2 => by
      have ij : inL n.irbs (j : Int) := ⟨by omega, by omega⟩
      show audit_auditor_edges_auditor_note_own_L2 n.devices n.ports n.links n.domains n.statics n.floods n.vrfs n.irbs (i : Int) (getI n.irbs (i : Int)) l2 (j : Int) = _
      unfold audit_auditor_edges_auditor_note_own_L2 leV
      have hc : choose_Address (⟨n.devices, n.ports, n.links, n.domains, n.statics, n.floods, n.vrfs, n.irbs⟩ : Api_Net) (i : Int) (j : Int) = some (addrR n (i : Int) (j : Int)) := (addrR_spec hs hg hr ho).1
      rw [if_pos (decide_eq_true (by omega)), nth_getI ij, Option.bind_some, hc, Option.bind_some, note_ok hl2, wr64 (by omega) (by omega)]
      by_cases c1 : (getI n.irbs (i : Int)).vrf = (getI n.irbs (j : Int)).vrf
      · simp [c1]
      by_cases c2 : (addrR n (i : Int) (j : Int)).2 = true
      · simp [c1, c2]
      · simp [c1, c2]) (fun l2 => by
      show audit_auditor_edges_auditor_note_own_L2 n.devices n.ports n.links n.domains n.statics n.floods n.vrfs n.irbs (i : Int) (getI n.irbs (i : Int)) l2 (n.irbs.length : Int) = _
      unfold audit_auditor_edges_auditor_note_own_L2
      rw [if_neg (by simp)]), Option.bind_some, wr64 (by omega) (by omega)]
    rfl) (fun l => by
    show audit_auditor_edges_auditor_note_own_L1 n.devices n.ports n.links n.domains n.statics n.floods n.vrfs n.irbs l (n.irbs.length : Int) = _
    unfold audit_auditor_edges_auditor_note_own_L1
    rw [if_neg (by simp)]), Option.bind_some]
  try simp only
  rw [loop_cat (f := fun s : (List Audit_Note) × Int => match s with | (l39, v40) => audit_auditor_edges_auditor_note_own_L3 n.devices n.ports n.links n.domains n.statics n.floods n.vrfs n.irbs l39 v40) n.ports.length (trG n) (l0 ++ cat (leG n) n.irbs.length) 1 (by omega) (fun i hi => by unfold trG; exact len1) (by rw [List.length_append]; omega) (fun i l hi hll => by
    have il : inL n.ports (i : Int) := ⟨by omega, by omega⟩
    have ht := port_tags hr il
    show audit_auditor_edges_auditor_note_own_L3 n.devices n.ports n.links n.domains n.statics n.floods n.vrfs n.irbs l (i : Int) = _
    unfold audit_auditor_edges_auditor_note_own_L3 trG
    rw [if_pos (decide_eq_true (by omega)), nth_getI il, Option.bind_some, vlans_spec (by omega), Option.bind_some]
    simp only
    rw [note_ok hll, wr64 (by omega) (by omega)]
    by_cases c1 : (getI n.ports (i : Int)).link < 0
    · by_cases c2 : 1 < (vlansP (getI n.ports (i : Int))).length
      · have c3 : ((vlansP (getI n.ports (i : Int))).length : Int) > 1 := by omega
        simp [c1, c2, c3]
      · have c3 : ¬ ((vlansP (getI n.ports (i : Int))).length : Int) > 1 := by omega
        simp [c1, c2, c3]
    · simp [c1]) (fun l => by
    show audit_auditor_edges_auditor_note_own_L3 n.devices n.ports n.links n.domains n.statics n.floods n.vrfs n.irbs l (n.ports.length : Int) = _
    unfold audit_auditor_edges_auditor_note_own_L3
    rw [if_neg (by simp)]), Option.bind_some]
noncomputable def allN (n : Api_Net) : List Audit_Note :=
  cat (shG n) n.links.length ++ cat (loG n) n.ports.length ++ cat (lnG n) n.domains.length ++ cat (siG n) n.domains.length ++ cat (unG n) n.vrfs.length ++ cat (piG n) n.statics.length ++ cat (baG n) n.devices.length ++ cat (leG n) n.irbs.length ++ cat (trG n) n.ports.length
omit hs hg ho in
theorem allN_lens : (cat (shG n) n.links.length).length ≤ 20 ∧ (cat (loG n) n.ports.length).length ≤ 680 ∧ (cat (lnG n) n.domains.length).length ≤ 48 ∧ (cat (siG n) n.domains.length).length ≤ 48 ∧ (cat (unG n) n.vrfs.length).length ≤ 16 ∧ (cat (piG n) n.statics.length).length ≤ 64 ∧ (cat (baG n) n.devices.length).length ≤ 8 ∧ (cat (leG n) n.irbs.length).length ≤ 2304 ∧ (cat (trG n) n.ports.length).length ≤ 40 := by
  obtain ⟨f1, f2, f3, f4, f5, f6, f7, f8⟩ := hr.few
  have b1 := cat_len (g := shG n) (B := 1) (N := n.links.length) (fun i hi => by unfold shG; exact len1)
  have b2 := cat_len (g := loG n) (B := 17) (N := n.ports.length) (fun i hi => loG_len hr ⟨by omega, by omega⟩)
  have b3 := cat_len (g := lnG n) (B := 1) (N := n.domains.length) (fun i hi => by unfold lnG; exact len1)
  have b4 := cat_len (g := siG n) (B := 1) (N := n.domains.length) (fun i hi => by unfold siG; exact len1)
  have b5 := cat_len (g := unG n) (B := 1) (N := n.vrfs.length) (fun i hi => by unfold unG; exact len1')
  have b6 := cat_len (g := piG n) (B := 1) (N := n.statics.length) (fun i hi => by unfold piG; exact len1)
  have b7 := cat_len (g := baG n) (B := 1) (N := n.devices.length) (fun i hi => by unfold baG; exact len1)
  have b8 := cat_len (g := leG n) (B := 48) (N := n.irbs.length) (fun i hi => leG_len hr)
  have b9 := cat_len (g := trG n) (B := 1) (N := n.ports.length) (fun i hi => by unfold trG; exact len1)
  omega
theorem audit_All_right : audit_All n = some (allN n, 0) := by
  obtain ⟨b1, b2, b3, b4, b5, b6, b7, b8, b9⟩ := allN_lens hr
  unfold audit_All
  rw [names_Right_spec hs, Option.bind_some, if_neg (by simpa using hr), pLinks_spec hs hg hr ho (by simp), Option.bind_some]
  try simp only
  rw [pDomains_spec hs hg hr ho (by simp only [List.length_append, List.length_nil]; omega), Option.bind_some]
  try simp only
  rw [pRecords_spec hs hg hr ho (by simp only [List.length_append, List.length_nil]; omega), Option.bind_some]
  try simp only
  rw [pEdges_spec hs hg hr ho (by simp only [List.length_append, List.length_nil]; omega), Option.bind_some]
  simp only [List.nil_append, allN]
end
theorem audit_All_wrong (hs : SmN n) (hr : ¬ RightP n) : audit_All n = some ([], 2) := by
  unfold audit_All
  rw [names_Right_spec hs, Option.bind_some, if_pos (by simpa using hr)]
end
end Go.Eng
