/- Chapter 47 (audit): the order of notes: AuditOrder. -/
import Derived.Test.YtdlaaoajcoogbaaGreatDoorEngA2
set_option linter.unusedVariables false
set_option linter.unusedSectionVars false
set_option linter.unusedSimpArgs false
namespace Go.Eng
open Go Classical
attribute [local congr] ite_cg
section
variable {α : Type}
theorem cntA_app {a b : List α} {P : α → Prop} : cntA (a ++ b) P = cntA a P + cntA b P := by unfold cntA; rw [List.filter_append, List.length_append]
theorem cntA_all {l : List α} {P : α → Prop} (h : ∀ x ∈ l, P x) : cntA l P = l.length := by
  unfold cntA; rw [List.filter_eq_self.2 (fun x hx => decide_eq_true (h x hx))]
theorem cntA_none {l : List α} {P : α → Prop} (h : ∀ x ∈ l, ¬ P x) : cntA l P = 0 := by
  unfold cntA; rw [List.length_eq_zero_iff, List.filter_eq_nil_iff]
  intro x hx; simpa using h x hx
theorem cntA_congr {l : List α} {P Q : α → Prop} (h : ∀ x ∈ l, P x ↔ Q x) : cntA l P = cntA l Q := by
  unfold cntA; congr 1
  exact List.filter_congr fun x hx => decide_eq_decide.2 (h x hx)
theorem cntA_add {P Q : α → Prop} (hd : ∀ x, P x → ¬ Q x) : ∀ l : List α, cntA l (fun x => P x ∨ Q x) = cntA l P + cntA l Q
  | [] => rfl
  | x :: l => by
    have ih := cntA_add hd l
    have e : x :: l = [x] ++ l := rfl
    rw [e, cntA_app, cntA_app (P := P), cntA_app (P := Q), ih]
    have : cntA [x] (fun x => P x ∨ Q x) = cntA [x] P + cntA [x] Q := by
      unfold cntA
      by_cases p : P x
      · have q := hd x p
        simp [p, q]
      · by_cases q : Q x <;> simp [p, q]
    omega
theorem cat_pw {R : α → α → Prop} {g : Int → List α} : ∀ {N : Nat}, (∀ i : Nat, i < N → (g (i : Int)).Pairwise R) → (∀ i j : Nat, i < j → j < N → ∀ x ∈ g (i : Int), ∀ y ∈ g (j : Int), R x y) → (cat g N).Pairwise R
  | 0, _, _ => by rw [cat_zero]; exact .nil
  | N + 1, h1, h2 => by
    rw [cat_succ, List.pairwise_append]
    refine ⟨cat_pw (fun i hi => h1 i (by omega)) (fun i j hij hj => h2 i j hij (by omega)), h1 N (by omega), fun x hx y hy => ?_⟩
    obtain ⟨i, hi, hx⟩ := mem_cat.1 hx
    exact h2 i N hi (by omega) x hx y hy
theorem pw_ite {R : α → α → Prop} {c : Prop} [Decidable c] {x : α} : (if c then [x] else []).Pairwise R := by split <;> simp
theorem pw_ite' {R : α → α → Prop} {c : Prop} [Decidable c] {x : α} : (if c then [] else [x]).Pairwise R := by split <;> simp
end
theorem audit_Count_spec {l : List Audit_Note} {k : Int} (hl : l.length ≤ 1000000) : audit_Count l k = some ((cntA l (fun x => x.kind = k) : Nat) : Int) := by
  unfold audit_Count
  rw [loop_cnt (f := fun s : Int × Int => match s with | (v3, v4) => audit_Count_L1 l k v3 v4) l (fun x => x.kind = k) hl (fun i v hi v0 v1 => by
    have il : inL l (i : Int) := ⟨by omega, by omega⟩
    show audit_Count_L1 l k v (i : Int) = _
    unfold audit_Count_L1
    rw [if_pos (decide_eq_true (by omega)), nth_getI il, Option.bind_some, wr64 (by omega) (by omega), wr64 (by omega) (by omega)]
    by_cases c : (getI l (i : Int)).kind = k
    · rw [if_pos (by simpa using c), if_pos c]; rfl
    · rw [if_neg (by simpa using c), if_neg c]; rfl) (fun v => by
    show audit_Count_L1 l k v (l.length : Int) = _
    unfold audit_Count_L1
    rw [if_neg (by simp)]), Option.bind_some]
/-! ### The order -/
def RN (x y : Audit_Note) : Prop := x.kind < y.kind ∨ (x.kind = y.kind ∧ (x.a < y.a ∨ (x.a = y.a ∧ x.b ≠ y.b)))
section
variable {n : Api_Net}
theorem m_sh {N : Nat} {x : Audit_Note} (h : x ∈ cat (shG n) N) : x.kind = 1 := by
  obtain ⟨i, hi, h⟩ := mem_cat.1 h
  unfold shG at h
  split at h
  · rw [List.mem_singleton] at h; rw [h]
  · cases h
theorem k_lo {i : Int} {x : Audit_Note} (h : x ∈ loG n i) : x.kind = 2 ∧ x.a = i ∧ x.b ∈ vlansP (getI n.ports i) ∧ ¬ (crossI n i x.b).2.2 = true ∧ 0 ≤ (getI n.ports i).link := by
  unfold loG at h
  split at h
  · cases h
  · rename_i hl
    obtain ⟨j, hj, h⟩ := mem_cat.1 h
    unfold lopV at h
    split at h
    · cases h
    · rename_i hc
      rw [List.mem_singleton] at h; rw [h]
      exact ⟨rfl, rfl, getI_mem ⟨by omega, by omega⟩, hc, by omega⟩
theorem m_lo {N : Nat} {x : Audit_Note} (h : x ∈ cat (loG n) N) : x.kind = 2 := by
  obtain ⟨i, hi, h⟩ := mem_cat.1 h
  exact (k_lo h).1
theorem m_ln {N : Nat} {x : Audit_Note} (h : x ∈ cat (lnG n) N) : x.kind = 3 := by
  obtain ⟨i, hi, h⟩ := mem_cat.1 h
  unfold lnG at h
  split at h
  · rw [List.mem_singleton] at h; rw [h]
  · cases h
theorem m_si {N : Nat} {x : Audit_Note} (h : x ∈ cat (siG n) N) : x.kind = 4 := by
  obtain ⟨i, hi, h⟩ := mem_cat.1 h
  unfold siG at h
  split at h
  · rw [List.mem_singleton] at h; rw [h]
  · cases h
theorem m_un {N : Nat} {x : Audit_Note} (h : x ∈ cat (unG n) N) : x.kind = 5 := by
  obtain ⟨i, hi, h⟩ := mem_cat.1 h
  unfold unG at h
  split at h
  · cases h
  · rw [List.mem_singleton] at h; rw [h]
theorem m_pi {N : Nat} {x : Audit_Note} (h : x ∈ cat (piG n) N) : x.kind = 6 := by
  obtain ⟨i, hi, h⟩ := mem_cat.1 h
  unfold piG at h
  split at h
  · rw [List.mem_singleton] at h; rw [h]
  · cases h
theorem m_ba {N : Nat} {x : Audit_Note} (h : x ∈ cat (baG n) N) : x.kind = 7 := by
  obtain ⟨i, hi, h⟩ := mem_cat.1 h
  unfold baG at h
  split at h
  · rw [List.mem_singleton] at h; rw [h]
  · cases h
theorem k_le {i : Int} {x : Audit_Note} (h : x ∈ leG n i) : x.kind = 8 ∧ x.a = i := by
  unfold leG at h
  obtain ⟨j, hj, h⟩ := mem_cat.1 h
  unfold leV at h
  split at h
  · rw [List.mem_singleton] at h; rw [h]; exact ⟨rfl, rfl⟩
  · cases h
theorem m_le {N : Nat} {x : Audit_Note} (h : x ∈ cat (leG n) N) : x.kind = 8 := by
  obtain ⟨i, hi, h⟩ := mem_cat.1 h
  exact (k_le h).1
theorem m_tr {N : Nat} {x : Audit_Note} (h : x ∈ cat (trG n) N) : x.kind = 9 := by
  obtain ⟨i, hi, h⟩ := mem_cat.1 h
  unfold trG at h
  split at h
  · rw [List.mem_singleton] at h; rw [h]
  · cases h
theorem all_kinds {x : Audit_Note} (h : x ∈ allN n) : 1 ≤ x.kind ∧ x.kind ≤ 9 := by
  unfold allN at h
  simp only [List.mem_append] at h
  rcases h with (((((((h | h) | h) | h) | h) | h) | h) | h) | h
  · rw [m_sh h]; omega
  · rw [m_lo h]; omega
  · rw [m_ln h]; omega
  · rw [m_si h]; omega
  · rw [m_un h]; omega
  · rw [m_pi h]; omega
  · rw [m_ba h]; omega
  · rw [m_le h]; omega
  · rw [m_tr h]; omega
theorem pw_one {g : Int → List Audit_Note} {N : Nat} {K : Int} (hk : ∀ i : Nat, ∀ x ∈ g (i : Int), x.kind = K ∧ x.a = (i : Int)) (hp : ∀ i : Nat, i < N → (g (i : Int)).Pairwise RN) : (cat g N).Pairwise RN :=
  cat_pw hp fun i j hij hj x hx y hy => by
    have h1 := hk i x hx
    have h2 := hk j y hy
    exact .inr ⟨by rw [h1.1, h2.1], .inl (by rw [h1.2, h2.2]; omega)⟩
theorem rise_pw {l : List Int} {b : Int} (h : RiseP l b) : l.Pairwise (· ≠ ·) := by
  rcases h with rfl | h
  · exact .nil
  · rw [List.pairwise_iff_getElem]
    have key : ∀ (k i : Nat), i + k + 1 < l.length → getI l (i : Int) < getI l ((i + k + 1 : Nat) : Int) := by
      intro k
      induction k with
      | zero =>
        intro i hi
        have := (h.1 ((i + 1 : Nat) : Int) ⟨by omega, by omega⟩).2.2 (by omega)
        rw [show ((i + 1 : Nat) : Int) - 1 = (i : Int) by omega] at this
        exact this
      | succ k ih =>
        intro i hi
        have h1 := ih i (by omega)
        have h2 := (h.1 ((i + (k + 1) + 1 : Nat) : Int) ⟨by omega, by omega⟩).2.2 (by omega)
        rw [show ((i + (k + 1) + 1 : Nat) : Int) - 1 = ((i + k + 1 : Nat) : Int) by omega] at h2
        omega
    intro i j hi hj hij
    have := key (j - i - 1) i (by omega)
    rw [show i + (j - i - 1) + 1 = j by omega] at this
    have e1 : getI l (i : Int) = l[i] := getI_nat (List.getElem?_eq_getElem hi)
    have e2 : getI l (j : Int) = l[j] := getI_nat (List.getElem?_eq_getElem hj)
    rw [e1, e2] at this
    omega
section
variable (hr : RightP n)
include hr
theorem vlans_pw {i : Int} (hi : inL n.ports i) : (vlansP (getI n.ports i)).Pairwise (· ≠ ·) := by
  have hp := hr.ports _ hi
  have h1 := rise_pw hp.2.2.2.1
  unfold vlansP
  split
  · exact h1
  · rw [List.pairwise_cons]
    exact ⟨fun v hv e => hp.2.2.2.2.1 (e ▸ hv), h1⟩
theorem pw_lo {i : Int} (hi : inL n.ports i) : (loG n i).Pairwise RN := by
  have hv := vlans_pw hr hi
  unfold loG
  split
  · exact .nil
  · refine cat_pw (fun j hj => by unfold lopV; exact pw_ite') fun a b hab hb x hx y hy => ?_
    unfold lopV at hx hy
    split at hx
    · cases hx
    · split at hy
      · cases hy
      · rw [List.mem_singleton] at hx hy
        rw [hx, hy]
        refine .inr ⟨rfl, .inr ⟨rfl, ?_⟩⟩
        rw [List.pairwise_iff_getElem] at hv
        have := hv a b (by omega) hb hab
        have e1 : getI (vlansP (getI n.ports i)) (a : Int) = (vlansP (getI n.ports i))[a] := getI_nat (List.getElem?_eq_getElem (by omega))
        have e2 : getI (vlansP (getI n.ports i)) (b : Int) = (vlansP (getI n.ports i))[b] := getI_nat (List.getElem?_eq_getElem hb)
        show getI (vlansP (getI n.ports i)) (a : Int) ≠ getI (vlansP (getI n.ports i)) (b : Int)
        rw [e1, e2]; exact this
theorem pwl_le {i : Int} : (leG n i).Pairwise RN := by
  unfold leG
  refine cat_pw (fun j hj => by unfold leV; exact pw_ite) fun a b hab hb x hx y hy => ?_
  unfold leV at hx hy
  split at hx
  · split at hy
    · rw [List.mem_singleton] at hx hy
      rw [hx, hy]
      exact .inr ⟨rfl, .inr ⟨rfl, by show (a : Int) ≠ (b : Int); omega⟩⟩
    · cases hy
  · cases hx
theorem all_pw : (allN n).Pairwise RN := by
  have lt : ∀ {a b : List Audit_Note} {K : Int}, a.Pairwise RN → b.Pairwise RN → (∀ x ∈ a, x.kind < K) → (∀ x ∈ b, x.kind = K) → (a ++ b).Pairwise RN := fun h1 h2 h3 h4 => by
    rw [List.pairwise_append]
    exact ⟨h1, h2, fun x hx y hy => .inl (by rw [h4 y hy]; exact h3 x hx)⟩
  have f2 := hr.few.2.1
  have p1 : (cat (shG n) n.links.length).Pairwise RN := pw_one (K := 1) (fun i x h => by
    unfold shG at h
    split at h
    · rw [List.mem_singleton] at h; rw [h]; exact ⟨rfl, rfl⟩
    · cases h) (fun i hi => by unfold shG; exact pw_ite)
  have p2 : (cat (loG n) n.ports.length).Pairwise RN := pw_one (K := 2) (fun i x h => ⟨(k_lo h).1, (k_lo h).2.1⟩) (fun i hi => pw_lo hr ⟨by omega, by omega⟩)
  have p3 : (cat (lnG n) n.domains.length).Pairwise RN := pw_one (K := 3) (fun i x h => by
    unfold lnG at h
    split at h
    · rw [List.mem_singleton] at h; rw [h]; exact ⟨rfl, rfl⟩
    · cases h) (fun i hi => by unfold lnG; exact pw_ite)
  have p4 : (cat (siG n) n.domains.length).Pairwise RN := pw_one (K := 4) (fun i x h => by
    unfold siG at h
    split at h
    · rw [List.mem_singleton] at h; rw [h]; exact ⟨rfl, rfl⟩
    · cases h) (fun i hi => by unfold siG; exact pw_ite)
  have p5 : (cat (unG n) n.vrfs.length).Pairwise RN := pw_one (K := 5) (fun i x h => by
    unfold unG at h
    split at h
    · cases h
    · rw [List.mem_singleton] at h; rw [h]; exact ⟨rfl, rfl⟩) (fun i hi => by unfold unG; exact pw_ite')
  have p6 : (cat (piG n) n.statics.length).Pairwise RN := pw_one (K := 6) (fun i x h => by
    unfold piG at h
    split at h
    · rw [List.mem_singleton] at h; rw [h]; exact ⟨rfl, rfl⟩
    · cases h) (fun i hi => by unfold piG; exact pw_ite)
  have p7 : (cat (baG n) n.devices.length).Pairwise RN := pw_one (K := 7) (fun i x h => by
    unfold baG at h
    split at h
    · rw [List.mem_singleton] at h; rw [h]; exact ⟨rfl, rfl⟩
    · cases h) (fun i hi => by unfold baG; exact pw_ite)
  have p8 : (cat (leG n) n.irbs.length).Pairwise RN := pw_one (K := 8) (fun i x h => k_le h) (fun i hi => pwl_le hr)
  have p9 : (cat (trG n) n.ports.length).Pairwise RN := pw_one (K := 9) (fun i x h => by
    unfold trG at h
    split at h
    · rw [List.mem_singleton] at h; rw [h]; exact ⟨rfl, rfl⟩
    · cases h) (fun i hi => by unfold trG; exact pw_ite)
  unfold allN
  refine lt (K := 9) (lt (K := 8) (lt (K := 7) (lt (K := 6) (lt (K := 5) (lt (K := 4) (lt (K := 3) (lt (K := 2) p1 p2 (fun x h => by rw [m_sh h]; omega) (fun x h => m_lo h)) p3 ?_ (fun x h => m_ln h)) p4 ?_ (fun x h => m_si h)) p5 ?_ (fun x h => m_un h)) p6 ?_ (fun x h => m_pi h)) p7 ?_ (fun x h => m_ba h)) p8 ?_ (fun x h => m_le h)) p9 ?_ (fun x h => m_tr h)
  all_goals
    intro x h
    simp only [List.mem_append] at h
  · rcases h with h | h
    · rw [m_sh h]; omega
    · rw [m_lo h]; omega
  · rcases h with (h | h) | h
    · rw [m_sh h]; omega
    · rw [m_lo h]; omega
    · rw [m_ln h]; omega
  · rcases h with ((h | h) | h) | h
    · rw [m_sh h]; omega
    · rw [m_lo h]; omega
    · rw [m_ln h]; omega
    · rw [m_si h]; omega
  · rcases h with (((h | h) | h) | h) | h
    · rw [m_sh h]; omega
    · rw [m_lo h]; omega
    · rw [m_ln h]; omega
    · rw [m_si h]; omega
    · rw [m_un h]; omega
  · rcases h with ((((h | h) | h) | h) | h) | h
    · rw [m_sh h]; omega
    · rw [m_lo h]; omega
    · rw [m_ln h]; omega
    · rw [m_si h]; omega
    · rw [m_un h]; omega
    · rw [m_pi h]; omega
  · rcases h with (((((h | h) | h) | h) | h) | h) | h
    · rw [m_sh h]; omega
    · rw [m_lo h]; omega
    · rw [m_ln h]; omega
    · rw [m_si h]; omega
    · rw [m_un h]; omega
    · rw [m_pi h]; omega
    · rw [m_ba h]; omega
  · rcases h with ((((((h | h) | h) | h) | h) | h) | h) | h
    · rw [m_sh h]; omega
    · rw [m_lo h]; omega
    · rw [m_ln h]; omega
    · rw [m_si h]; omega
    · rw [m_un h]; omega
    · rw [m_pi h]; omega
    · rw [m_ba h]; omega
    · rw [m_le h]; omega
end
theorem order_fin {l : List Audit_Note} (hl : l.length ≤ 100000) (hk : ∀ x ∈ l, 1 ≤ x.kind ∧ x.kind ≤ 9) (hp : l.Pairwise RN) :
    ((loopM (fun s : Int × Int => match s with | (v12, v13) => palinglaw47_AuditOrder_L1 l v12 v13) (0, 1)).bind fun r20 => match r20 with
        | v18 =>
          (loopM (palinglaw47_AuditOrder_L2 l v18) 1).bind fun r35 => match r35 with
          | Sum.inl () =>
            some false
          | Sum.inr () =>
            if (v18 == ((List.length l) : Int)) = true then
              (audit_Count l 0).bind fun r37 =>
              some (r37 == 0)
            else
              some false) = some true := by
  have hc : ∀ P : Audit_Note → Prop, cntA l P ≤ 100000 := fun P => by have := cntA_le (l := l) (P := P); omega
  have e1 := loopM_trace (f := fun s : Int × Int => match s with | (v12, v13) => palinglaw47_AuditOrder_L1 l v12 v13) (r := ((l.length : Nat) : Int)) (fun i => (((cntA l (fun x => 1 ≤ x.kind ∧ x.kind ≤ (i : Int)) : Nat) : Int), (i : Int) + 1)) 9 (by decide) (fun i hi => by
    have h1 := hc (fun x => 1 ≤ x.kind ∧ x.kind ≤ (i : Int))
    have h2 := hc (fun x => x.kind = (i : Int) + 1)
    show palinglaw47_AuditOrder_L1 l _ ((i : Int) + 1) = _
    unfold palinglaw47_AuditOrder_L1
    rw [if_pos (decide_eq_true (by omega)), audit_Count_spec (by omega), Option.bind_some, wr64 (by omega) (by omega), wr64 (by omega) (by omega)]
    have := cntA_add (P := fun x : Audit_Note => 1 ≤ x.kind ∧ x.kind ≤ (i : Int)) (Q := fun x => x.kind = (i : Int) + 1) (fun x a b => by omega) l
    have e2 : cntA l (fun x : Audit_Note => 1 ≤ x.kind ∧ x.kind ≤ ((i + 1 : Nat) : Int)) = cntA l (fun x => (1 ≤ x.kind ∧ x.kind ≤ (i : Int)) ∨ x.kind = (i : Int) + 1) := cntA_congr fun x hx => by omega
    rw [e2, this]
    simp only [Option.some.injEq, Sum.inl.injEq, Prod.mk.injEq]
    omega) (by
    show palinglaw47_AuditOrder_L1 l _ (((9 : Nat) : Int) + 1) = _
    unfold palinglaw47_AuditOrder_L1
    rw [if_neg (by decide)]
    rw [cntA_all (P := fun x : Audit_Note => 1 ≤ x.kind ∧ x.kind ≤ ((9 : Nat) : Int)) (fun x hx => hk x hx)])
  have e0 : (cntA l (fun x : Audit_Note => 1 ≤ x.kind ∧ x.kind ≤ ((0 : Nat) : Int))) = 0 := cntA_none fun x hx h => by omega
  simp only [e0] at e1
  have e1' : loopM (fun s : Int × Int => match s with | (v12, v13) => palinglaw47_AuditOrder_L1 l v12 v13) (0, 1) = some ((l.length : Nat) : Int) := e1
  rw [e1', Option.bind_some]
  try simp only
  rw [List.pairwise_iff_getElem] at hp
  have e3 := loopM_trace (f := palinglaw47_AuditOrder_L2 l ((l.length : Nat) : Int)) (r := Sum.inr ()) (fun i => (i : Int) + 1) (l.length - 1) (by omega) (fun i hi => by
    have i1 : inL l (i : Int) := ⟨by omega, by omega⟩
    have i2 : inL l ((i : Int) + 1) := ⟨by omega, by omega⟩
    have hR := hp i (i + 1) (by omega) (by omega) (by omega)
    have q1 : getI l (i : Int) = l[i] := getI_nat (List.getElem?_eq_getElem (by omega))
    have q2 : getI l ((i : Int) + 1) = l[i + 1] := by
      have := getI_nat (List.getElem?_eq_getElem (show i + 1 < l.length by omega))
      rw [← this]; rfl
    rw [← q1, ← q2] at hR
    unfold palinglaw47_AuditOrder_L2
    rw [if_pos (decide_eq_true (by omega)), wr64 (n := (i : Int) + 1 - 1) (by omega) (by omega), show (i : Int) + 1 - 1 = (i : Int) by omega, if_pos (by rw [lin_dec]; exact decide_eq_true i1), getI_get? i1, Option.bind_some, if_pos (by rw [lin_dec]; exact decide_eq_true i2), getI_get? i2, Option.bind_some, wr64 (by omega) (by omega)]
    have hne : eq_Audit_Note (getI l (i : Int)) (getI l ((i : Int) + 1)) = false := by
      cases he : eq_Audit_Note (getI l (i : Int)) (getI l ((i : Int) + 1)) with
      | false => rfl
      | true =>
        simp [eq_Audit_Note] at he
        rcases hR with h | ⟨_, h | h⟩
        · omega
        · omega
        · exact absurd he.2.2.2 h.2
    have k1 : ¬ (getI l (i : Int)).kind > (getI l ((i : Int) + 1)).kind := by
      rcases hR with h | ⟨h, _⟩ <;> omega
    rw [if_neg (by simpa using k1)]
    have e9 : ((i + 1 : Nat) : Int) + 1 = (i : Int) + 1 + 1 := by omega
    by_cases k2 : (getI l (i : Int)).kind = (getI l ((i : Int) + 1)).kind
    · have k3 : ¬ (getI l (i : Int)).a > (getI l ((i : Int) + 1)).a := by
        rcases hR with h | ⟨_, h | h⟩ <;> omega
      rw [if_pos (by simpa using k2), if_neg (by simpa using k3), hne, if_neg (by simp), e9]
    · rw [if_neg (by simpa using k2), hne, if_neg (by simp), e9]) (by
    unfold palinglaw47_AuditOrder_L2
    rw [if_neg (by rw [decide_eq_true_eq]; omega)])
  have e3' : loopM (palinglaw47_AuditOrder_L2 l ((l.length : Nat) : Int)) 1 = some (Sum.inr ()) := e3
  rw [e3', Option.bind_some]
  try simp only
  rw [if_pos (by simp), audit_Count_spec (by omega), Option.bind_some, cntA_none (fun x hx h => by have := hk x hx; omega)]
  rfl
end
theorem auditOrder (n : Api_Net) (ho : n.Ok) : palinglaw47_AuditOrder n = some true := by
  unfold palinglaw47_AuditOrder
  rw [works47, Option.bind_some, if_neg (by simp), Great_spec, Option.bind_some]
  by_cases hg : BndN n 200 100
  case neg => rw [if_pos (by simpa using hg)]
  have hs := hg.sm
  rw [if_neg (by simpa using hg)]
  by_cases hr : RightP n
  · obtain ⟨b1, b2, b3, b4, b5, b6, b7, b8, b9⟩ := allN_lens hr
    have hlen : (allN n).length ≤ 100000 := by unfold allN; simp only [List.length_append]; omega
    rw [audit_All_right hs hg hr ho, Option.bind_some]
    exact order_fin hlen (fun x hx => all_kinds hx) (all_pw hr)
  · rw [audit_All_wrong hs hr, Option.bind_some]
    exact order_fin (l := []) (by simp) (fun x hx => by cases hx) .nil
end Go.Eng
