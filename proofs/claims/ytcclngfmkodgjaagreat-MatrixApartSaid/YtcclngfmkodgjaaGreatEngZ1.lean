/- Chapter 37 (witness): ways from port to port, as the program looks for them. -/
import Derived.Test.YtcclngfmkodgjaaGreatEngGV0
import Derived.Test.YtcclngfmkodgjaaGreatEngGP1
import Derived.Test.YtcclngfmkodgjaaGreatEngGW2
set_option linter.unusedVariables false
set_option linter.unusedSectionVars false
set_option linter.unusedSimpArgs false
namespace Go.Eng
open Go Classical
attribute [local congr] ite_cg
section
variable {n : Api_Net} {p : Int}
abbrev SeedW (n : Api_Net) (p : Int) : Int → Nat → Prop := fun d _ => inL n.domains d ∧ p ∈ membersL n d
abbrev DerW (n : Api_Net) (p : Int) (k : Bool) (d : Int) : Prop := Der (hopD n) (leadD n) (SeedW n p) k d 0
def HasS (L : List Witness_found) (x : Witness_state) : Prop := ∃ i, inL L i ∧ (getI L i).state = x
theorem hasS_app {L : List Witness_found} {y : Witness_found} {x : Witness_state} : HasS (L ++ [y]) x ↔ HasS L x ∨ y.state = x := by
  constructor
  · rintro ⟨i, hi, h⟩
    rcases inL_app1.1 hi with h1 | h1
    · rw [getI_app h1] at h; exact .inl ⟨i, h1, h⟩
    · rw [h1, getI_last] at h; exact .inr h
  · rintro (⟨i, hi, h⟩ | h)
    · exact ⟨i, inL_app hi, by rw [getI_app hi]; exact h⟩
    · exact ⟨L.length, inL_app1.2 (.inr rfl), by rw [getI_last]; exact h⟩
theorem hasS_ext {L r : List Witness_found} {x : Witness_state} (h : HasS L x) : HasS (L ++ r) x := by
  obtain ⟨i, hi, h⟩ := h
  exact ⟨i, inL_app hi, by rw [getI_app hi]; exact h⟩
structure WInv (n : Api_Net) (p : Int) (m0 m1 : List Bool) (L : List Witness_found) : Prop where
  len0 : m0.length = n.domains.length
  len1 : m1.length = n.domains.length
  kind : ∀ i, inL L i → (getI L i).state.kind = 0 ∨ (getI L i).state.kind = 1
  dom : ∀ i, inL L i → inL n.domains (getI L i).state.domain
  der : ∀ i, inL L i → DerW n p (decide ((getI L i).state.kind = 1)) (getI L i).state.domain
  back : ∀ i, inL L i → -1 ≤ (getI L i).ahead ∧ (getI L i).ahead < i
  met0 : ∀ d, inL n.domains d → (getI m0 d = true ↔ HasS L ⟨d, 0⟩)
  met1 : ∀ d, inL n.domains d → (getI m1 d = true ↔ HasS L ⟨d, 1⟩)
  cnt : L.length ≤ m0.count true + m1.count true
theorem WInv.len {m0 m1 : List Bool} {L : List Witness_found} (h : WInv n p m0 m1 L) : L.length ≤ 2 * n.domains.length := by
  have h0 := List.count_le_length (a := true) (l := m0)
  have h1 := List.count_le_length (a := true) (l := m1)
  have := h.cnt; have := h.len0; have := h.len1
  omega
theorem count_set_true {m : List Bool} {d : Int} (hd : inL m d) (hf : getI m d = false) : (m.set d.toNat true).count true = m.count true + 1 := by
  have hlt : d.toNat < m.length := by have := hd.1; have := hd.2; omega
  have hg : m[d.toNat] = false := by
    have := getI_get? hd
    rw [List.getElem?_eq_getElem hlt, hf] at this
    exact Option.some.inj this
  rw [List.count_set hlt, hg]
  simp
theorem WInv.app {m0 m1 m0' m1' : List Bool} {L : List Witness_found} (h : WInv n p m0 m1 L) {x : Witness_state} {hp : Reach_Hop} {a : Int} (hk : x.kind = 0 ∨ x.kind = 1) (hd : inL n.domains x.domain)
    (hder : DerW n p (decide (x.kind = 1)) x.domain) (ha : -1 ≤ a ∧ a < (L.length : Int)) (l0 : m0'.length = n.domains.length) (l1 : m1'.length = n.domains.length)
    (e0 : ∀ d, inL n.domains d → (getI m0' d = true ↔ getI m0 d = true ∨ x = ⟨d, 0⟩)) (e1 : ∀ d, inL n.domains d → (getI m1' d = true ↔ getI m1 d = true ∨ x = ⟨d, 1⟩))
    (hc : m0.count true + m1.count true + 1 ≤ m0'.count true + m1'.count true) : WInv n p m0' m1' (L ++ [⟨x, hp, a⟩]) where
  len0 := l0
  len1 := l1
  kind := fun i hi => by
    rcases inL_app1.1 hi with h1 | h1
    · rw [getI_app h1]; exact h.kind i h1
    · rw [h1, getI_last]; exact hk
  dom := fun i hi => by
    rcases inL_app1.1 hi with h1 | h1
    · rw [getI_app h1]; exact h.dom i h1
    · rw [h1, getI_last]; exact hd
  der := fun i hi => by
    rcases inL_app1.1 hi with h1 | h1
    · rw [getI_app h1]; exact h.der i h1
    · rw [h1, getI_last]; exact hder
  back := fun i hi => by
    rcases inL_app1.1 hi with h1 | h1
    · rw [getI_app h1]; exact h.back i h1
    · rw [h1, getI_last]; exact ha
  met0 := fun d hd => by rw [e0 d hd, hasS_app, h.met0 d hd]
  met1 := fun d hd => by rw [e1 d hd, hasS_app, h.met1 d hd]
  cnt := by have := h.cnt; rw [List.length_append, List.length_singleton]; omega
theorem state_eq {x : Witness_state} {d k : Int} (h : x.kind = k) : x = ⟨d, k⟩ ↔ d = x.domain := by
  obtain ⟨a, b⟩ := x
  simp only at h
  subst h
  simp [eq_comm]
theorem meet_spec (hN : n.domains.length ≤ 200) {m0 m1 : List Bool} {L : List Witness_found} (h : WInv n p m0 m1 L) {x : Witness_state} {hp : Reach_Hop} {a : Int} (hk : x.kind = 0 ∨ x.kind = 1) (hd : inL n.domains x.domain)
    (hder : DerW n p (decide (x.kind = 1)) x.domain) (ha : -1 ≤ a ∧ a < (L.length : Int)) {a1 : List Api_Device} {a2 : List Api_Port} {a3 : List Api_Link} {a4 : List Api_Domain} {a5 : List Api_Static} {a6 : List Api_Flood} {a7 : List Api_Vrf} {a8 : List Api_Irb} {n10 n12 : Nat} :
    ∃ m0' m1' r, witness_search_meet_own a1 a2 a3 a4 a5 a6 a7 a8 m0 n10 m1 n12 L x hp a = some (m0', m1', L ++ r) ∧ WInv n p m0' m1' (L ++ r) ∧ HasS (L ++ r) x := by
  have hlen := h.len
  have hd0 : inL m0 x.domain := ⟨hd.1, by rw [h.len0]; exact hd.2⟩
  have hd1 : inL m1 x.domain := ⟨hd.1, by rw [h.len1]; exact hd.2⟩
  have hro : roomy 56 (L ++ [(⟨x, hp, a⟩ : Witness_found)]) = true := roomy_few (by rw [List.length_append, List.length_singleton]; omega)
  unfold witness_search_meet_own
  rcases hk with hk | hk
  · have hk' : (x.kind == 0) = true := by simpa using hk
    unfold witness_search_meet_own_J1
    rw [if_pos hk', if_pos (linT hd0), getI_get? hd0, Option.bind_some, Option.bind_some]
    simp only
    cases hm : getI m0 x.domain with
    | true =>
      rw [if_neg (by simp)]
      refine ⟨m0, m1, [], by rw [List.append_nil], by rw [List.append_nil]; exact h, ?_⟩
      rw [List.append_nil]
      have := (h.met0 _ hd).1 hm
      rwa [show (⟨x.domain, 0⟩ : Witness_state) = x by rw [← hk]] at this
    | false =>
      rw [if_pos (by simp)]
      unfold witness_search_meet_own_J2
      rw [if_pos hk', if_pos (linT hd0), getI_get? hd0, Option.bind_some, Option.bind_some]
      simp only
      rw [if_pos hro]
      refine ⟨_, _, _, rfl, h.app (.inl hk) hd hder ha (by rw [List.length_set]; exact h.len0) h.len1 (fun d hd' => ?_) (fun d hd' => ?_) ?_, hasS_app.2 (.inr rfl)⟩
      · rw [getI_setI hd0 ⟨hd'.1, by rw [h.len0]; exact hd'.2⟩, state_eq hk]
        by_cases c : d = x.domain
        · rw [if_pos c]; simp [c]
        · rw [if_neg c]; simp [c]
      · constructor
        · exact .inl
        · rintro (c | c)
          · exact c
          · rw [c] at hk; exact absurd hk (by simp)
      · rw [count_set_true hd0 hm]; omega
  · have hk0 : ¬ (x.kind == 0) = true := by simp [hk]
    have hk' : (x.kind == 1) = true := by simpa using hk
    unfold witness_search_meet_own_J1
    rw [if_neg hk0, if_pos hk', if_pos (linT hd1), getI_get? hd1, Option.bind_some, Option.bind_some]
    simp only
    cases hm : getI m1 x.domain with
    | true =>
      rw [if_neg (by simp)]
      refine ⟨m0, m1, [], by rw [List.append_nil], by rw [List.append_nil]; exact h, ?_⟩
      rw [List.append_nil]
      have := (h.met1 _ hd).1 hm
      rwa [show (⟨x.domain, 1⟩ : Witness_state) = x by rw [← hk]] at this
    | false =>
      rw [if_pos (by simp)]
      unfold witness_search_meet_own_J2
      rw [if_neg hk0, if_pos hk', if_pos (linT hd1), getI_get? hd1, Option.bind_some, Option.bind_some]
      simp only
      rw [if_pos hro]
      refine ⟨_, _, _, rfl, h.app (.inr hk) hd hder ha h.len0 (by rw [List.length_set]; exact h.len1) (fun d hd' => ?_) (fun d hd' => ?_) ?_, hasS_app.2 (.inr rfl)⟩
      · constructor
        · exact .inl
        · rintro (c | c)
          · exact c
          · rw [c] at hk; exact absurd hk (by simp)
      · rw [getI_setI hd1 ⟨hd'.1, by rw [h.len1]; exact hd'.2⟩, state_eq hk]
        by_cases c : d = x.domain
        · rw [if_pos c]; simp [c]
        · rw [if_neg c]; simp [c]
      · rw [count_set_true hd1 hm]; omega
theorem meets_loop {β : Type} [Inhabited β] {xs : List β} (hx : xs.length ≤ 1000000) (st : β → Witness_state) {L0 : List Witness_found}
    {f : (List Bool) × (List Bool) × (List Witness_found) × Int → Option (((List Bool) × (List Bool) × (List Witness_found) × Int) ⊕ ((List Bool) × (List Bool) × (List Witness_found)))}
    (hstep : ∀ m0 m1 r j, inL xs j → WInv n p m0 m1 (L0 ++ r) → ∃ m0' m1' r', f (m0, m1, L0 ++ r, j) = some (.inl (m0', m1', (L0 ++ r) ++ r', j + 1)) ∧ WInv n p m0' m1' ((L0 ++ r) ++ r') ∧ HasS ((L0 ++ r) ++ r') (st (getI xs j)))
    (hend : ∀ m0 m1 L j, ¬ j < (xs.length : Int) → f (m0, m1, L, j) = some (.inr (m0, m1, L))) {m0 m1 : List Bool} (h : WInv n p m0 m1 L0) :
    ∃ m0' m1' r, loopM f (m0, m1, L0, 0) = some (m0', m1', L0 ++ r) ∧ WInv n p m0' m1' (L0 ++ r) ∧ ∀ x ∈ xs, HasS (L0 ++ r) (st x) := by
  obtain ⟨q, e, r, hq, hw, hx⟩ := loopM_rule (f := f)
    (fun s => 0 ≤ s.2.2.2 ∧ s.2.2.2 ≤ xs.length ∧ ∃ r, s.2.2.1 = L0 ++ r ∧ WInv n p s.1 s.2.1 (L0 ++ r) ∧ ∀ j, inL xs j → j < s.2.2.2 → HasS (L0 ++ r) (st (getI xs j)))
    (fun q => ∃ r, q.2.2 = L0 ++ r ∧ WInv n p q.1 q.2.1 (L0 ++ r) ∧ ∀ x ∈ xs, HasS (L0 ++ r) (st x))
    (fun s => (xs.length - s.2.2.2).toNat) (s := (m0, m1, L0, 0)) (fun s hI => by
      obtain ⟨b0, b1, L, j⟩ := s
      obtain ⟨j0, j1, r, hL, hw, hh⟩ := hI
      simp only at j0 j1 hL hw hh ⊢
      subst hL
      by_cases c : j < (xs.length : Int)
      · obtain ⟨c0, c1, r', e, hw', hs⟩ := hstep b0 b1 r j ⟨j0, c⟩ hw
        refine ⟨_, e, ⟨by simp only; omega, by simp only; omega, r ++ r', by rw [List.append_assoc], by rw [← List.append_assoc]; exact hw', fun i hi hij => ?_⟩, by simp only; omega⟩
        simp only at hij
        rw [← List.append_assoc]
        by_cases ci : i < j
        · exact hasS_ext (hh i hi ci)
        · rw [show i = j by omega]; exact hs
      · refine ⟨_, hend b0 b1 _ j c, r, rfl, hw, fun x hx => ?_⟩
        obtain ⟨i, hi, rfl⟩ := mem_getI hx
        exact hh i hi (by have := hi.2; omega))
    ⟨Int.le_refl 0, by simp only; omega, [], by rw [List.append_nil], by rw [List.append_nil]; exact h, fun j hj hj2 => by have := hj.1; simp only at hj2; omega⟩ (by simp only; omega)
  exact ⟨q.1, q.2.1, r, by rw [e, ← hq], hw, hx⟩
theorem seed_dom (hr : RightP n) (hp : inL n.ports p) {d : Int} (hd : inL n.domains d ∧ p ∈ membersL n d) : ∃ v, v ≠ 0 ∧ v ∈ ([(getI n.ports p).native] ++ (getI n.ports p).tagged) ∧ domIx n.domains (getI n.ports p).dev v = d := by
  obtain ⟨_, hi⟩ := mem_membersL.1 hd.2
  refine ⟨(getI n.domains d).vlan, hi.2.1, ?_, by rw [hi.1]; exact domIx_self hr hd.1⟩
  rcases hi.2.2 with h | h
  · rw [h]; simp
  · exact List.mem_append_right _ h
theorem dom_seed (hr : RightP n) (hp : inL n.ports p) {v : Int} (h0 : v ≠ 0) (hv : v ∈ ([(getI n.ports p).native] ++ (getI n.ports p).tagged)) : inL n.domains (domIx n.domains (getI n.ports p).dev v) ∧ p ∈ membersL n (domIx n.domains (getI n.ports p).dev v) := by
  have hm : MemP (getI n.ports p) v := ⟨h0, by
    rcases List.mem_append.1 hv with h | h
    · exact .inl (List.mem_singleton.1 h)
    · exact .inr h⟩
  obtain ⟨h1, h2, h3⟩ := dom_of_mem hr hp hm
  exact ⟨h1, mem_membersL.2 ⟨hp, by rw [InDom, h2, h3]; exact ⟨rfl, hm⟩⟩⟩
theorem begin37_spec (hg : BndN n 200 100) (hr : RightP n) (hp : inL n.ports p) :
    ∃ L m0 m1, witness_search_begin_own n.devices n.ports n.links n.domains n.statics n.floods n.vrfs n.irbs [] [] [] p = some (L, m0, m1) ∧ WInv n p m0 m1 L ∧ ∀ d, inL n.domains d → p ∈ membersL n d → HasS L ⟨d, 0⟩ := by
  have hs := hg.sm
  have hN : n.domains.length ≤ 200 := hg.domains
  have hft : Few (getI n.ports p).tagged := hs.tagged _ (getI_mem hp)
  unfold witness_search_begin_own
  rw [nth_getI hp, Option.bind_some, if_pos (by unfold mkok; exact decide_eq_true (by omega)), if_pos (roomy_few (by unfold Few at hft; simp; omega))]
  generalize hV : [(getI n.ports p).native] ++ (getI n.ports p).tagged = V
  have hVl : V.length ≤ 1000001 := by rw [← hV]; unfold Few at hft; simp; omega
  have hw0 : WInv n p (List.replicate (Int.toNat (n.domains.length : Int)) false) (List.replicate (Int.toNat (n.domains.length : Int)) false) [] := by
    have hrep : ∀ d, inL n.domains d → getI (List.replicate (Int.toNat (n.domains.length : Int)) false) d = false := fun d hd => List.eq_of_mem_replicate (getI_mem ⟨hd.1, by simpa using hd.2⟩)
    have hno : ∀ x, ¬ HasS [] x := by rintro x ⟨i, hi, _⟩; have := hi.1; have := hi.2; simp at this; omega
    have hni : ∀ i, ¬ inL ([] : List Witness_found) i := by intro i hi; have := hi.1; have := hi.2; simp at this; omega
    exact ⟨by simp, by simp, fun i hi => absurd hi (hni i), fun i hi => absurd hi (hni i), fun i hi => absurd hi (hni i), fun i hi => absurd hi (hni i), fun d hd => by rw [hrep d hd]; simp [hno], fun d hd => by rw [hrep d hd]; simp [hno], by simp⟩
  obtain ⟨q, e, hw, hx⟩ := loopM_rule (f := fun s : (List Witness_found) × (List Bool) × (List Bool) × Int => match s with | (l17, l18, l19, v20) => witness_search_begin_own_L1 n.devices n.ports n.links n.domains n.statics n.floods n.vrfs n.irbs [] [] (getI n.ports p) l17 l18 l19 v20)
    (fun s => 0 ≤ s.2.2.2 ∧ s.2.2.2 ≤ V.length ∧ WInv n p s.2.1 s.2.2.1 s.1 ∧ ∀ j, inL V j → j < s.2.2.2 → getI V j ≠ 0 → HasS s.1 ⟨domIx n.domains (getI n.ports p).dev (getI V j), 0⟩)
    (fun q => WInv n p q.2.1 q.2.2 q.1 ∧ ∀ v ∈ V, v ≠ 0 → HasS q.1 ⟨domIx n.domains (getI n.ports p).dev v, 0⟩)
    (fun s => (V.length - s.2.2.2).toNat) (s := ([], List.replicate (Int.toNat (n.domains.length : Int)) false, List.replicate (Int.toNat (n.domains.length : Int)) false, 0)) (fun s hI => by
      obtain ⟨L, b0, b1, j⟩ := s
      obtain ⟨j0, j1, hw, hh⟩ := hI
      simp only at j0 j1 hw hh ⊢
      unfold witness_search_begin_own_L1
      rw [hV]
      by_cases c : j < (V.length : Int)
      · have hj : inL V j := ⟨j0, c⟩
        have hw1 : wr_i64 (j + 1) = j + 1 := wr64 (by omega) (by omega)
        rw [if_pos (decide_eq_true c), if_pos (linT hj), getI_get? hj, Option.bind_some, hw1]
        by_cases c0 : getI V j = 0
        · rw [if_neg (by simpa using c0)]
          refine ⟨_, rfl, ⟨by simp only; omega, by simp only; omega, hw, fun i hi hij h0 => ?_⟩, by simp only; omega⟩
          simp only at hij
          by_cases ci : i = j
          · rw [ci] at h0; exact absurd c0 h0
          · exact hh i hi (by omega) h0
        · have hvm : getI V j ∈ ([(getI n.ports p).native] ++ (getI n.ports p).tagged) := by rw [hV]; exact getI_mem hj
          obtain ⟨d1, d2⟩ := dom_seed hr hp c0 hvm
          rw [if_pos (by simpa using c0), show (⟨n.devices, n.ports, n.links, n.domains, n.statics, n.floods, n.vrfs, n.irbs⟩ : Api_Net) = n from rfl, names_Domain_spec hs, if_pos hr, Option.bind_some]
          obtain ⟨m0', m1', r, em, hw', hs'⟩ := meet_spec (p := p) hN hw (x := ⟨domIx n.domains (getI n.ports p).dev (getI V j), 0⟩) (hp := ⟨0, 0, domIx n.domains (getI n.ports p).dev (getI V j), 0⟩) (a := -1) (.inl rfl) d1 (.seed ⟨d1, d2⟩) (by omega)
            (a1 := n.devices) (a2 := n.ports) (a3 := n.links) (a4 := n.domains) (a5 := n.statics) (a6 := n.floods) (a7 := n.vrfs) (a8 := n.irbs) (n10 := Int.toNat (n.domains.length : Int)) (n12 := Int.toNat (n.domains.length : Int))
          rw [em, Option.bind_some]
          refine ⟨_, rfl, ⟨by simp only; omega, by simp only; omega, hw', fun i hi hij h0 => ?_⟩, by simp only; omega⟩
          simp only at hij ⊢
          by_cases ci : i = j
          · rw [ci]; exact hs'
          · exact hasS_ext (hh i hi (by omega) h0)
      · rw [if_neg (by simpa using c)]
        refine ⟨_, rfl, hw, fun v hv h0 => ?_⟩
        obtain ⟨i, hi, rfl⟩ := mem_getI hv
        exact hh i hi (by have := hi.2; omega) h0)
    ⟨Int.le_refl 0, by simp only; omega, hw0, fun j hj hj2 => by have := hj.1; simp only at hj2; omega⟩ (by simp only; omega)
  rw [e, Option.bind_some]
  refine ⟨_, _, _, rfl, hw, fun d hd hm => ?_⟩
  obtain ⟨v, h0, hv, hvd⟩ := seed_dom hr hp ⟨hd, hm⟩
  have := hx v (by rw [← hV]; exact hv) h0
  rwa [hvd] at this
theorem extend_spec (ho : n.Ok) (hg : BndN n 200 100) (hr : RightP n) {m0 m1 : List Bool} {L : List Witness_found} (h : WInv n p m0 m1 L) {i : Int} (hi : inL L i) {n10 n12 : Nat} :
    ∃ m0' m1' r, witness_search_extend_own n.devices n.ports n.links n.domains n.statics n.floods n.vrfs n.irbs m0 n10 m1 n12 L i = some (m0', m1', L ++ r) ∧ WInv n p m0' m1' (L ++ r) ∧
      (∀ x ∈ hopD n (getI L i).state.domain, HasS (L ++ r) ⟨x, (getI L i).state.kind⟩) ∧ ((getI L i).state.kind = 0 → ∀ x ∈ leadD n (getI L i).state.domain, HasS (L ++ r) ⟨x, 1⟩) := by
  have hs := hg.sm
  have hN : n.domains.length ≤ 200 := hg.domains
  have hD := h.dom i hi
  have hder := h.der i hi
  have hkk := h.kind i hi
  have hhl := hopsI_len hg hD
  have hil := hi.2
  have h2N := h.len
  unfold witness_search_extend_own
  rw [if_pos (linT hi), getI_get? hi, Option.bind_some, show (⟨n.devices, n.ports, n.links, n.domains, n.statics, n.floods, n.vrfs, n.irbs⟩ : Api_Net) = n from rfl, reach_Hops_spec hg hr hD, Option.bind_some]
  simp only
  generalize hX : getI L i = X at *
  obtain ⟨c0, c1, r, e, hw, hx⟩ := meets_loop (n := n) (p := p) (xs := hopsI n X.state.domain) (L0 := L) (by omega) (fun h => ⟨h.domain, X.state.kind⟩)
    (f := fun s : (List Bool) × (List Bool) × (List Witness_found) × Int => match s with | (l21, l22, l23, v24) => witness_search_extend_own_L1 n.devices n.ports n.links n.domains n.statics n.floods n.vrfs n.irbs n10 n12 i X (hopsI n X.state.domain) l21 l22 l23 v24)
    (fun b0 b1 r j hj hw => by
      have hw1 : wr_i64 (j + 1) = j + 1 := wr64 (by have := hj.1; omega) (by have := hj.2; omega)
      have hmem : (getI (hopsI n X.state.domain) j).domain ∈ hopD n X.state.domain := List.mem_map.2 ⟨_, getI_mem hj, rfl⟩
      have hin := hopD_in hr X.state.domain hD.1 hD.2 _ hmem
      simp only
      unfold witness_search_extend_own_L1
      rw [if_pos (decide_eq_true (by have := hj.2; exact this)), if_pos (linT hj), getI_get? hj, Option.bind_some, hw1]
      obtain ⟨m0', m1', r', em, hw', hs'⟩ := meet_spec (p := p) hN hw (x := ⟨(getI (hopsI n X.state.domain) j).domain, X.state.kind⟩) (hp := getI (hopsI n X.state.domain) j) (a := i) hkk ⟨hin.1, hin.2⟩ (.hop hder hmem) ⟨by have := hi.1; omega, by rw [List.length_append]; omega⟩
        (a1 := n.devices) (a2 := n.ports) (a3 := n.links) (a4 := n.domains) (a5 := n.statics) (a6 := n.floods) (a7 := n.vrfs) (a8 := n.irbs) (n10 := n10) (n12 := n12)
      rw [em, Option.bind_some]
      exact ⟨m0', m1', r', rfl, hw', hs'⟩)
    (fun b0 b1 L j c => by
      simp only
      unfold witness_search_extend_own_L1
      rw [if_neg (by simpa using c)]) h
  rw [e, Option.bind_some]
  simp only
  have hhop : ∀ r', ∀ x ∈ hopD n X.state.domain, HasS ((L ++ r) ++ r') ⟨x, X.state.kind⟩ := fun r' x hx' => by
    obtain ⟨y, hy, rfl⟩ := List.mem_map.1 hx'
    exact hasS_ext (hx y hy)
  by_cases hk : X.state.kind = 0
  case neg =>
    rw [if_neg (by simpa using hk)]
    exact ⟨c0, c1, r, rfl, hw, fun x hx' => by have := hhop [] x hx'; rwa [List.append_nil] at this, fun q => absurd q hk⟩
  rw [if_pos (by simpa using hk)]
  have hder0 : DerW n p false X.state.domain := by have := hder; rw [hk] at this; exact this
  have hcr : ∃ ls : List Choose_Lead, choose_Routes n X.state.domain = some ls ∧ ls.length ≤ 200 ∧ ls.map (fun h => h.domain) = leadD n X.state.domain := by
    unfold leadD
    by_cases c : (getI n.domains X.state.domain).irb < 0
    · exact ⟨[], chooseRoutes_none hs (fun h => h.2.2 c), by simp, by rw [if_pos c]; rfl⟩
    · refine ⟨_, chooseRoutes_some ho hs hg.irbs hr hD c, Nat.le_trans leads36_len hg.irbs, by rw [if_neg c]⟩
  obtain ⟨ls, els, hll, hlm⟩ := hcr
  rw [els, Option.bind_some]
  try simp only
  obtain ⟨d0, d1, r2, e2, hw2, hx2⟩ := meets_loop (n := n) (p := p) (xs := ls) (L0 := L ++ r) (by omega) (fun h => ⟨h.domain, 1⟩)
    (f := fun s : (List Bool) × (List Bool) × (List Witness_found) × Int => match s with | (l52, l53, l54, v55) => witness_search_extend_own_L2 n.devices n.ports n.links n.domains n.statics n.floods n.vrfs n.irbs n10 n12 i ls l52 l53 l54 v55)
    (fun b0 b1 r3 j hj hw => by
      have hw1 : wr_i64 (j + 1) = j + 1 := wr64 (by have := hj.1; omega) (by have := hj.2; omega)
      have hmem : (getI ls j).domain ∈ leadD n X.state.domain := by rw [← hlm]; exact List.mem_map.2 ⟨_, getI_mem hj, rfl⟩
      have hin := leadD_in hr X.state.domain hD.1 hD.2 _ hmem
      simp only
      unfold witness_search_extend_own_L2
      rw [if_pos (decide_eq_true (by have := hj.2; exact this)), if_pos (linT hj), getI_get? hj, Option.bind_some, hw1]
      obtain ⟨m0', m1', r', em, hw', hs'⟩ := meet_spec (p := p) hN hw (x := ⟨(getI ls j).domain, 1⟩) (hp := ⟨3, 0, (getI ls j).domain, (getI ls j).addr⟩) (a := i) (.inr rfl) ⟨hin.1, hin.2⟩ (.route hder0 hmem) ⟨by have := hi.1; omega, by simp only [List.length_append]; omega⟩
        (a1 := n.devices) (a2 := n.ports) (a3 := n.links) (a4 := n.domains) (a5 := n.statics) (a6 := n.floods) (a7 := n.vrfs) (a8 := n.irbs) (n10 := n10) (n12 := n12)
      rw [em, Option.bind_some]
      exact ⟨m0', m1', r', rfl, hw', hs'⟩)
    (fun b0 b1 L j c => by
      simp only
      unfold witness_search_extend_own_L2
      rw [if_neg (by simpa using c)]) hw
  rw [e2, Option.bind_some]
  refine ⟨d0, d1, r ++ r2, by rw [← List.append_assoc], by rw [← List.append_assoc]; exact hw2, fun x hx' => by rw [← List.append_assoc]; exact hhop r2 x hx', fun _ x hx' => ?_⟩
  rw [← List.append_assoc]
  rw [← hlm] at hx'
  obtain ⟨y, hy, rfl⟩ := List.mem_map.1 hx'
  exact hx2 y hy
theorem back_spec (hg : BndN n 200 100) {m0 m1 : List Bool} {L : List Witness_found} (h : WInv n p m0 m1 L) {i : Int} (hi : inL L i) {a1 : List Api_Device} {a2 : List Api_Port} {a3 : List Api_Link} {a4 : List Api_Domain} {a5 : List Api_Static} {a6 : List Api_Flood} {a7 : List Api_Vrf} {a8 : List Api_Irb} {a9 a10 : List Bool} :
    ∃ q, witness_search_back a1 a2 a3 a4 a5 a6 a7 a8 a9 a10 L i = some q := by
  have hN : n.domains.length ≤ 200 := hg.domains
  have hl := h.len
  unfold witness_search_back
  obtain ⟨q, e, hq⟩ := loopM_rule (f := fun s : (List Reach_Hop) × Int => match s with | (l13, v14) => witness_search_back_L1 a1 a2 a3 a4 a5 a6 a7 a8 a9 a10 L l13 v14)
    (fun s => -1 ≤ s.2 ∧ s.2 < L.length ∧ (s.1.length : Int) + s.2 + 1 ≤ L.length) (fun q => q.length ≤ 400) (fun s => (s.2 + 1).toNat) (s := ([], i)) (fun s hI => by
      obtain ⟨l, v⟩ := s
      obtain ⟨v0, v1, hlv⟩ := hI
      simp only at v0 v1 hlv ⊢
      unfold witness_search_back_L1
      by_cases c : v ≥ 0
      · have hv : inL L v := ⟨c, v1⟩
        have hb := h.back v hv
        rw [if_pos (decide_eq_true c), nth_getI hv, Option.bind_some, if_pos (roomy_few (by simp; omega))]
        refine ⟨_, rfl, ⟨hb.1, by simp only; omega, by simp only [List.length_append, List.length_singleton]; omega⟩, by simp only; omega⟩
      · rw [if_neg (by simpa using c)]
        exact ⟨_, rfl, by omega⟩)
    ⟨by have := hi.1; simp only; omega, hi.2, by have := hi.2; simp; omega⟩ (by have := hi.2; simp only; omega)
  rw [e, Option.bind_some]
  simp only
  rw [Reverse_spec (by unfold Few; omega), Option.bind_some]
  exact ⟨_, rfl⟩
def HostP (n : Api_Net) (a : Int) : Prop := inL n.ports a ∧ (getI n.ports a).link < 0
theorem host_spec {a : Int} : witness_host n a = some (decide (HostP n a)) := by
  unfold witness_host
  by_cases c0 : 0 ≤ a
  case neg => rw [if_neg (by simpa using c0), decide_eq_false (fun h => c0 h.1.1)]
  by_cases c1 : a < (n.ports.length : Int)
  case neg => rw [if_pos (decide_eq_true c0), if_neg (by simpa using c1), decide_eq_false (fun h => c1 h.1.2)]
  have hi : inL n.ports a := ⟨c0, c1⟩
  rw [if_pos (decide_eq_true c0), if_pos (decide_eq_true c1), nth_getI hi, Option.bind_some]
  exact sdec ⟨fun h => ⟨hi, h⟩, fun h => h.2⟩
def WayP (n : Api_Net) (a b : Int) : Prop := HostP n a ∧ HostP n b ∧ a ≠ b ∧ RightP n ∧ ∃ k d, inL n.domains d ∧ b ∈ membersL n d ∧ DerW n a k d
theorem way_spec (ho : n.Ok) (hg : BndN n 200 100) {a b : Int} : ∃ l m, witness_Way n a b = some (l, m, decide (WayP n a b)) := by
  have hs := hg.sm
  have hN : n.domains.length ≤ 200 := hg.domains
  unfold witness_Way
  rw [host_spec, Option.bind_some]
  by_cases ha : HostP n a
  case neg => rw [if_pos (by simpa using ha), decide_eq_false (fun h => ha h.1)]; exact ⟨_, _, rfl⟩
  rw [if_neg (by simpa using ha), host_spec, Option.bind_some]
  by_cases hb : HostP n b
  case neg => rw [if_pos (by simpa using hb), decide_eq_false (fun h => hb h.2.1)]; exact ⟨_, _, rfl⟩
  rw [if_neg (by simpa using hb)]
  by_cases hab : a = b
  · rw [if_pos (by simpa using hab), decide_eq_false (fun h => h.2.2.1 hab)]; exact ⟨_, _, rfl⟩
  rw [if_neg (by simpa using hab), names_Right_spec hs, Option.bind_some]
  by_cases hr : RightP n
  case neg => rw [if_pos (by simpa using hr), decide_eq_false (fun h => hr h.2.2.2.1)]; exact ⟨_, _, rfl⟩
  rw [if_neg (by simpa using hr)]
  obtain ⟨L0, b0, b1, e0, hw0, hs0⟩ := begin37_spec hg hr ha.1
  rw [e0, Option.bind_some]
  simp only
  obtain ⟨q, e, hq⟩ := loopM_rule (f := fun s : (List Bool) × (List Bool) × (List Witness_found) × Int => match s with | (l19, l20, l21, v22) => witness_Way_L1 n b l19 l20 l21 v22)
    (fun s => 0 ≤ s.2.2.2 ∧ s.2.2.2 ≤ s.2.2.1.length ∧ WInv n a s.1 s.2.1 s.2.2.1 ∧ (∀ d, inL n.domains d → a ∈ membersL n d → HasS s.2.2.1 ⟨d, 0⟩) ∧
      ∀ j, inL s.2.2.1 j → j < s.2.2.2 → b ∉ membersL n (getI s.2.2.1 j).state.domain ∧ (∀ x ∈ hopD n (getI s.2.2.1 j).state.domain, HasS s.2.2.1 ⟨x, (getI s.2.2.1 j).state.kind⟩) ∧ ((getI s.2.2.1 j).state.kind = 0 → ∀ x ∈ leadD n (getI s.2.2.1 j).state.domain, HasS s.2.2.1 ⟨x, 1⟩))
    (fun q => match q with | .inl _ => WayP n a b | .inr _ => ¬ WayP n a b) (fun s => (2 * n.domains.length - s.2.2.2).toNat) (s := (b0, b1, L0, 0)) (fun s hI => by
      obtain ⟨m0, m1, L, i⟩ := s
      obtain ⟨i0, i1, hw, hsd, hcl⟩ := hI
      simp only at i0 i1 hw hsd hcl ⊢
      have hl := hw.len
      unfold witness_Way_L1
      by_cases c : i < (L.length : Int)
      · have hi : inL L i := ⟨i0, c⟩
        have hD := hw.dom i hi
        have hml : Few (membersL n (getI L i).state.domain) := Nat.le_trans (Nat.le_trans membersL_len hg.ports) (by decide)
        rw [if_pos (decide_eq_true c), if_pos (linT hi), getI_get? hi, Option.bind_some, names_Members_spec hs, if_pos ⟨hr, hD⟩, Option.bind_some]
        simp only
        rw [Contains_int_spec hml, Option.bind_some]
        by_cases hm : b ∈ membersL n (getI L i).state.domain
        · rw [if_pos (decide_eq_true hm)]
          obtain ⟨q, eq⟩ := back_spec hg hw hi (a1 := n.devices) (a2 := n.ports) (a3 := n.links) (a4 := n.domains) (a5 := n.statics) (a6 := n.floods) (a7 := n.vrfs) (a8 := n.irbs) (a9 := m0) (a10 := m1)
          rw [eq, Option.bind_some]
          exact ⟨_, rfl, ha, hb, hab, hr, _, _, hD, hm, hw.der i hi⟩
        · rw [if_neg (by simpa using hm)]
          obtain ⟨m0', m1', r, ee, hw', h1, h2⟩ := extend_spec ho hg hr hw hi (n10 := Int.toNat (n.domains.length : Int)) (n12 := Int.toNat (n.domains.length : Int))
          have hl' := hw'.len
          rw [List.length_append] at hl'
          rw [ee, Option.bind_some, wr64 (by omega) (by omega)]
          refine ⟨_, rfl, ⟨by simp only; omega, by simp only [List.length_append]; omega, hw', fun d hd hm => hasS_ext (hsd d hd hm), fun j hj hji => ?_⟩, by simp only; omega⟩
          simp only at hji hj ⊢
          by_cases cj : j = i
          · subst cj
            rw [getI_app hi]
            exact ⟨hm, h1, h2⟩
          · have hj' : inL L j := ⟨hj.1, by omega⟩
            obtain ⟨g1, g2, g3⟩ := hcl j hj' (by omega)
            rw [getI_app hj']
            exact ⟨g1, fun x hx => hasS_ext (g2 x hx), fun hk x hx => hasS_ext (g3 hk x hx)⟩
      · rw [if_neg (by simpa using c)]
        refine ⟨_, rfl, ?_⟩
        rintro ⟨_, _, _, _, k, d, hd, hm, hder⟩
        have key : ∀ k d t, Der (hopD n) (leadD n) (SeedW n a) k d t → HasS L ⟨d, if k then 1 else 0⟩ := by
          intro k d t h
          induction h with
          | seed h => exact hsd _ h.1 h.2
          | @hop k d x t h hx ih =>
            obtain ⟨j, hj, e⟩ := ih
            have := (hcl j hj (by have := hj.2; omega)).2.1
            rw [e] at this
            exact this x hx
          | @route d x t h hx ih =>
            obtain ⟨j, hj, e⟩ := ih
            have := (hcl j hj (by have := hj.2; omega)).2.2
            rw [e] at this
            exact this rfl x hx
        obtain ⟨j, hj, e⟩ := key k d 0 hder
        have := (hcl j hj (by have := hj.2; omega)).1
        rw [e] at this
        exact this hm)
    ⟨Int.le_refl 0, by simp only; omega, hw0, hs0, fun j hj hj2 => by have := hj.1; simp only at hj2; omega⟩ (by simp only; omega)
  rw [e, Option.bind_some]
  cases q with
  | inl q => rw [decide_eq_true hq]; exact ⟨_, _, rfl⟩
  | inr q => rw [decide_eq_false hq]; exact ⟨_, _, rfl⟩
end
end Go.Eng
