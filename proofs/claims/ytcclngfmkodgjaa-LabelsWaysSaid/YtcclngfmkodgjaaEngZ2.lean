/- Chapter 42 (labels): labels and ways: LabelsWays. -/
import Derived.Test.YtcclngfmkodgjaaEngZ1
set_option linter.unusedVariables false
set_option linter.unusedSectionVars false
set_option linter.unusedSimpArgs false
namespace Go.Eng
open Go Classical
attribute [local congr] ite_cg
section
variable {n : Api_Net} {of : List Int}
theorem der_of {k : Bool} {d : Int} {t : Nat} : DerN n of k d t ↔ ∃ a, inL n.ports a ∧ getI of a = (t : Int) ∧ DerW n a k d := by
  constructor
  · intro h
    induction h with
    | seed h =>
      obtain ⟨hd, p, hp, ht⟩ := h
      exact ⟨p, (mem_membersL.1 hp).1, ht, .seed ⟨hd, hp⟩⟩
    | hop h hx ih =>
      obtain ⟨a, h1, h2, h3⟩ := ih
      exact ⟨a, h1, h2, .hop h3 hx⟩
    | route h hx ih =>
      obtain ⟨a, h1, h2, h3⟩ := ih
      exact ⟨a, h1, h2, .route h3 hx⟩
  · rintro ⟨a, h1, h2, h3⟩
    have key : ∀ k d t', Der (hopD n) (leadD n) (SeedW n a) k d t' → DerN n of k d t := by
      intro k d t' h
      induction h with
      | seed h => exact .seed ⟨h.1, a, h.2, h2⟩
      | hop h hx ih => exact .hop ih hx
      | route h hx ih => exact .route ih hx
    exact key k d 0 h3
theorem own_dom (hr : RightP n) {p : Int} (hp : inL n.ports p) : ∃ d, inL n.domains d ∧ p ∈ membersL n d := by
  have hP := hr.ports p hp
  have hne := hP.2.2.2.2.2.1
  by_cases c : (getI n.ports p).native = 0
  · have ht : (getI n.ports p).tagged ≠ [] := fun h => hne ⟨c, h⟩
    obtain ⟨v, hv⟩ := List.exists_mem_of_ne_nil _ ht
    have hn := hP.2.2.2.2.1
    have h0 : v ≠ 0 := fun h => hn (by rw [c, ← h]; exact hv)
    exact ⟨_, dom_seed hr hp h0 (List.mem_append_right _ hv)⟩
  · exact ⟨_, dom_seed hr hp c (by simp)⟩
theorem host_own (ho : OwnP n of) {a : Int} (ha : inL n.ports a) : HostP n a ↔ 0 ≤ getI of a := by
  have hi := (owner_ok ho ha).1
  have h := ho.2.2 a hi
  constructor
  · intro q; exact (h.2 q.2).1
  · intro q
    refine ⟨ha, ?_⟩
    apply Classical.byContradiction
    intro c
    have := h.1 (by omega); omega
theorem inPort_iff (ho : OwnP n of) {b : Int} (hb : inL n.ports b) (h0 : 0 ≤ getI of b) {t : Nat} : inPort n of b t ↔ ∃ a, inL n.ports a ∧ getI of a = (t : Int) ∧ (a = b ∨ WayP n a b) := by
  constructor
  · rintro ⟨d, hd, hm, h⟩
    have : ∃ k, DerN n of k d t := by
      rcases h with h | h
      · exact ⟨_, h⟩
      · exact ⟨_, h⟩
    obtain ⟨k, h⟩ := this
    obtain ⟨a, ha, ht, hw⟩ := der_of.1 h
    refine ⟨a, ha, ht, ?_⟩
    by_cases c : a = b
    · exact .inl c
    · exact .inr ⟨(host_own ho ha).2 (by omega), (host_own ho hb).2 h0, c, ho.2.1, k, d, hd, hm, hw⟩
  · rintro ⟨a, ha, ht, h⟩
    rcases h with rfl | h
    · obtain ⟨d, hd, hm⟩ := own_dom ho.2.1 ha
      exact ⟨d, hd, hm, .inl (.seed ⟨hd, a, hm, ht⟩)⟩
    · obtain ⟨_, _, _, _, k, d, hd, hm, hw⟩ := h
      have := (der_of (of := of) (t := t)).2 ⟨a, ha, ht, hw⟩
      refine ⟨d, hd, hm, ?_⟩
      cases k
      · exact .inl this
      · exact .inr this
def LeakW (n : Api_Net) (of : List Int) : Prop := ∃ a b, inL of a ∧ inL of b ∧ 0 ≤ getI of a ∧ 0 ≤ getI of b ∧ getI of a ≠ getI of b ∧ WayP n a b
theorem leaks37_spec (hn : n.Ok) (hg : BndN n 200 100) (hf : Few of) : ∃ a b, verdict_Leaks n of = some (a, b, decide (OwnP n of ∧ LeakW n of)) := by
  have hs := hg.sm
  have hf' : of.length ≤ 1000000 := hf
  unfold verdict_Leaks
  rw [owners_Right_spec hs hf, Option.bind_some]
  by_cases ho : OwnP n of
  case neg => rw [if_pos (by simpa using ho), decide_eq_false (fun h => ho h.1)]; exact ⟨_, _, rfl⟩
  rw [if_neg (by simpa using ho)]
  let Pb : Int → Int → Prop := fun a b => 0 ≤ getI of a ∧ 0 ≤ getI of b ∧ getI of a ≠ getI of b ∧ WayP n a b
  have inner : ∀ a, inL of a → ∃ r, loopM (verdict_Leaks_L2 n of a (getI of a)) 0 = some r ∧ match r with | .inl b => inL of b ∧ Pb a b | .inr () => ∀ b, inL of b → ¬ Pb a b := by
    intro a ha
    refine loopM_rule (f := verdict_Leaks_L2 n of a (getI of a)) (fun j => 0 ≤ j ∧ j ≤ of.length ∧ ∀ b, inL of b → b < j → ¬ Pb a b) (fun r => match r with | .inl b => inL of b ∧ Pb a b | .inr () => ∀ b, inL of b → ¬ Pb a b)
      (fun j => (of.length - j).toNat) (s := 0) (fun j hI => ?_) ⟨Int.le_refl 0, by omega, fun b hb h => by have := hb.1; omega⟩ (by omega)
    obtain ⟨j0, j1, hh⟩ := hI
    unfold verdict_Leaks_L2
    by_cases c : j < (of.length : Int)
    case neg =>
      rw [if_neg (by simpa using c)]
      exact ⟨_, rfl, fun b hb => hh b hb (by have := hb.2; omega)⟩
    have hj : inL of j := ⟨j0, c⟩
    have w : wr_i64 (j + 1) = j + 1 := wr64 (by omega) (by omega)
    have go : ¬ Pb a j → (0 ≤ j + 1 ∧ j + 1 ≤ (of.length : Int) ∧ ∀ b, inL of b → b < j + 1 → ¬ Pb a b) ∧ ((of.length : Int) - (j + 1)).toNat < ((of.length : Int) - j).toNat := fun hno =>
      ⟨⟨by omega, by omega, fun b hb h => by
        by_cases e : b = j
        · rw [e]; exact hno
        · exact hh b hb (by omega)⟩, by omega⟩
    rw [if_pos (decide_eq_true c), nth_getI hj, Option.bind_some, w]
    by_cases c1 : getI of a < 0
    · rw [if_pos (decide_eq_true c1)]; exact ⟨_, rfl, go (fun h => by have := h.1; omega)⟩
    rw [if_neg (by simpa using c1)]
    by_cases c2 : getI of j < 0
    · rw [if_pos (decide_eq_true c2)]; exact ⟨_, rfl, go (fun h => by have := h.2.1; omega)⟩
    rw [if_neg (by simpa using c2)]
    by_cases c3 : getI of a = getI of j
    · rw [if_pos (by simpa using c3)]; exact ⟨_, rfl, go (fun h => h.2.2.1 c3)⟩
    rw [if_neg (by simpa using c3)]
    obtain ⟨l, m, e⟩ := way_spec hn hg (a := a) (b := j)
    rw [e, Option.bind_some]
    simp only
    by_cases c4 : WayP n a j
    · rw [if_pos (decide_eq_true c4)]; exact ⟨_, rfl, hj, by omega, by omega, c3, c4⟩
    · rw [if_neg (by simpa using c4)]; exact ⟨_, rfl, go (fun h => c4 h.2.2.2)⟩
  obtain ⟨r, e, hr⟩ := loopM_rule (f := verdict_Leaks_L1 n of) (fun j => 0 ≤ j ∧ j ≤ of.length ∧ ∀ a, inL of a → a < j → ∀ b, inL of b → ¬ Pb a b) (fun r => match r with | .inl _ => LeakW n of | .inr () => ¬ LeakW n of)
    (fun j => (of.length - j).toNat) (s := 0) (fun j hI => by
      obtain ⟨j0, j1, hh⟩ := hI
      unfold verdict_Leaks_L1
      by_cases c : j < (of.length : Int)
      case neg =>
        rw [if_neg (by simpa using c)]
        refine ⟨_, rfl, ?_⟩
        rintro ⟨a, b, ha, hb, h1, h2, h3, h4⟩
        exact hh a ha (by have := ha.2; omega) b hb ⟨h1, h2, h3, h4⟩
      have hj : inL of j := ⟨j0, c⟩
      have w : wr_i64 (j + 1) = j + 1 := wr64 (by omega) (by omega)
      obtain ⟨r, e, hr⟩ := inner j hj
      rw [if_pos (decide_eq_true c), nth_getI hj, Option.bind_some, e, Option.bind_some, w]
      cases r with
      | inl b => exact ⟨_, rfl, j, b, hj, hr.1, hr.2⟩
      | inr u =>
        refine ⟨_, rfl, ⟨by omega, by omega, fun a ha h => ?_⟩, by omega⟩
        by_cases e : a = j
        · rw [e]; exact hr
        · exact hh a ha (by omega))
    ⟨Int.le_refl 0, by omega, fun a ha h => by have := ha.1; omega⟩ (by omega)
  rw [e, Option.bind_some]
  cases r with
  | inl q => rw [decide_eq_true ⟨ho, hr⟩]; exact ⟨_, _, rfl⟩
  | inr u => rw [decide_eq_false (fun h => hr h.2)]; exact ⟨_, _, rfl⟩
theorem pow_wr {x : Int} (h0 : 0 ≤ x) (h1 : x < 10) : wr_i64 (1 * 2 ^ (min (Int.toNat x) 64)) = ((2 ^ x.toNat : Nat) : Int) := by
  have hm : min (Int.toNat x) 64 = x.toNat := by omega
  have hp := pow_1024 (k := x.toNat) (by omega)
  rw [hm, Int.one_mul]
  have e : (2 : Int) ^ x.toNat = ((2 ^ x.toNat : Nat) : Int) := by simp
  have h3 : 0 ≤ ((2 ^ x.toNat : Nat) : Int) := Int.natCast_nonneg _
  rw [e]
  generalize ((2 ^ x.toNat : Nat) : Int) = P at *
  exact wr64 (by omega) (by omega)
def Comes (n : Api_Net) (of : List Int) (b : Int) (m : Int) (t : Nat) : Prop := ∃ a, inL of a ∧ a < m ∧ getI of a = (t : Int) ∧ (a = b ∨ WayP n a b)
theorem want_spec (hn : n.Ok) (hg : BndN n 200 100) (ho : OwnP n of) {b : Int} (hb : inL n.ports b) {l12 : List Int} {n13 : Nat} {r15 : Int × Int × Bool} {v20 : Bool} {x24 : Int} :
    ∃ v, loopM (fun s : Int × Int => match s with | (v26, v27) => palinglaw42_LabelsWays_L2 n of l12 n13 r15 v20 b x24 v26 v27) (0, 0) = some v ∧ 0 ≤ v ∧ ∀ t, tb v t = true ↔ 0 ≤ getI of b ∧ Comes n of b of.length t := by
  have hbo := (owner_ok ho hb).1
  have hpl := hg.ports
  have hlen : of.length ≤ 200 := by have := ho.1; omega
  obtain ⟨v, e, h0, h1⟩ := loopM_rule (f := fun s : Int × Int => match s with | (v26, v27) => palinglaw42_LabelsWays_L2 n of l12 n13 r15 v20 b x24 v26 v27)
    (fun s => (0 ≤ s.1 ∧ s.1 < 1024) ∧ 0 ≤ s.2 ∧ s.2 ≤ of.length ∧ ∀ t, tb s.1 t = true ↔ 0 ≤ getI of b ∧ Comes n of b s.2 t)
    (fun v => 0 ≤ v ∧ ∀ t, tb v t = true ↔ 0 ≤ getI of b ∧ Comes n of b of.length t) (fun s => (of.length - s.2).toNat) (s := (0, 0)) (fun s hI => by
      obtain ⟨v, j⟩ := s
      obtain ⟨⟨v0, v1⟩, j0, j1, hh⟩ := hI
      simp only at v0 v1 j0 j1 hh ⊢
      unfold palinglaw42_LabelsWays_L2
      by_cases c : j < (of.length : Int)
      case neg =>
        rw [if_neg (by simpa using c)]
        exact ⟨_, rfl, v0, by rw [show (of.length : Int) = j by omega]; exact hh⟩
      have hj : inL of j := ⟨j0, c⟩
      have hjp : inL n.ports j := ⟨j0, by have := ho.1; omega⟩
      have w : wr_i64 (j + 1) = j + 1 := wr64 (by omega) (by omega)
      obtain ⟨l, m, ew⟩ := way_spec hn hg (a := j) (b := b)
      rw [if_pos (decide_eq_true c), nth_getI hj, Option.bind_some, ew, Option.bind_some, w]
      simp only
      have cm : ∀ t, Comes n of b (j + 1) t ↔ Comes n of b j t ∨ (getI of j = (t : Int) ∧ (j = b ∨ WayP n j b)) := fun t => by
        constructor
        · rintro ⟨a, ha, haj, h1, h2⟩
          by_cases e : a = j
          · subst e; exact .inr ⟨h1, h2⟩
          · exact .inl ⟨a, ha, by omega, h1, h2⟩
        · rintro (⟨a, ha, haj, h1, h2⟩ | ⟨h1, h2⟩)
          · exact ⟨a, ha, by omega, h1, h2⟩
          · exact ⟨j, hj, by omega, h1, h2⟩
      have stay : (¬ 0 ≤ getI of b ∨ ∀ t : Nat, ¬ (getI of j = (t : Int) ∧ (j = b ∨ WayP n j b))) → ((0 ≤ v ∧ v < 1024) ∧ 0 ≤ j + 1 ∧ j + 1 ≤ (of.length : Int) ∧ ∀ t, tb v t = true ↔ 0 ≤ getI of b ∧ Comes n of b (j + 1) t) ∧ ((of.length : Int) - (j + 1)).toNat < ((of.length : Int) - j).toNat := fun hno =>
        ⟨⟨⟨v0, v1⟩, by omega, by omega, fun t => by
          rw [hh t, cm t]
          rcases hno with hno | hno
          · exact ⟨fun h => absurd h.1 hno, fun h => absurd h.1 hno⟩
          · exact ⟨fun h => ⟨h.1, .inl h.2⟩, fun h => ⟨h.1, h.2.resolve_right (hno t)⟩⟩⟩, by omega⟩
      have put : 0 ≤ getI of j → getI of j < 10 → 0 ≤ getI of b → (j = b ∨ WayP n j b) → ((0 ≤ bits_or .i64 v (wr_i64 (1 * 2 ^ (min (Int.toNat (getI of j)) 64))) ∧ bits_or .i64 v (wr_i64 (1 * 2 ^ (min (Int.toNat (getI of j)) 64))) < 1024) ∧ 0 ≤ j + 1 ∧ j + 1 ≤ (of.length : Int) ∧
          ∀ t, tb (bits_or .i64 v (wr_i64 (1 * 2 ^ (min (Int.toNat (getI of j)) 64)))) t = true ↔ 0 ≤ getI of b ∧ Comes n of b (j + 1) t) ∧ ((of.length : Int) - (j + 1)).toNat < ((of.length : Int) - j).toNat := fun t0 t1 b0 hw => by
        have hp := pow_1024 (k := (getI of j).toNat) (by omega)
        obtain ⟨_, u0, u1, u2⟩ := or64_b (a := v) (b := ((2 ^ (getI of j).toNat : Nat) : Int)) v0 v1 (Int.natCast_nonneg _) hp
        rw [pow_wr t0 t1]
        refine ⟨⟨⟨u0, u1⟩, by omega, by omega, fun t => ?_⟩, by omega⟩
        rw [u2 t, Bool.or_eq_true, hh t, tb_pow, cm t, decide_eq_true_eq]
        constructor
        · rintro (h | h)
          · exact ⟨h.1, .inl h.2⟩
          · exact ⟨b0, .inr ⟨by omega, hw⟩⟩
        · rintro ⟨h1, h2 | h2⟩
          · exact .inl ⟨h1, h2⟩
          · exact .inr (by have := h2.1; omega)
      by_cases t0 : 0 ≤ getI of j
      case neg =>
        rw [if_neg (by simpa using t0)]
        exact ⟨_, rfl, stay (.inr fun t h => by have := h.1; omega)⟩
      have t1 : getI of j < 10 := by
        rcases (owner_ok ho hjp).2 with h | h
        · omega
        · exact h.2
      rw [if_pos (decide_eq_true t0), if_pos (decide_eq_true t1), nth_getI hbo, Option.bind_some]
      by_cases b0 : 0 ≤ getI of b
      case neg => rw [if_neg (by simpa using b0)]; exact ⟨_, rfl, stay (.inl b0)⟩
      rw [if_pos (decide_eq_true b0)]
      by_cases cb : j = b
      · rw [if_pos (by simpa using cb), if_pos (decide_eq_true t0)]
        exact ⟨_, rfl, put t0 t1 b0 (.inl cb)⟩
      rw [if_neg (by simpa using cb)]
      by_cases cw : WayP n j b
      · rw [if_pos (decide_eq_true cw), if_pos (decide_eq_true t0)]
        exact ⟨_, rfl, put t0 t1 b0 (.inr cw)⟩
      · rw [if_neg (by simpa using cw)]
        exact ⟨_, rfl, stay (.inr fun t h => by rcases h.2 with h | h; exact cb h; exact cw h)⟩)
    ⟨⟨Int.le_refl 0, by simp⟩, Int.le_refl 0, by simp only; omega, fun t => by
      simp only
      rw [tb_zero]
      exact ⟨fun h => (by cases h), fun ⟨_, a, ha, h, _⟩ => (by have := ha.1; omega)⟩⟩ (by simp only; omega)
  exact ⟨v, e, h0, h1⟩
end
theorem labelsWays (n : Api_Net) (of : List Int) (hn : n.Ok) (_ : okL (okI .i64) of) : palinglaw42_LabelsWays n of = some true := by
  simp only [palinglaw42_LabelsWays, Great_spec, Option.bind_some, works42, Bool.not_true, Bool.false_eq_true, if_false]
  by_cases hg : BndN n 200 100
  case neg => simp [hg]
  have hs := hg.sm
  simp only [hg, not_true_eq_false, decide_false, Bool.false_eq_true, if_false]
  by_cases hof : (of.length : Int) > 300
  · simp [hof]
  rw [if_neg (by simpa using hof)]
  have hf : Few of := by unfold Few; omega
  obtain ⟨la, lb, eL⟩ := leaks37_spec hn hg hf
  by_cases ho : OwnP n of
  case neg =>
    rw [labels_Ports_no hs hf ho, eL, decide_eq_false (fun h => ho h.1)]
    simp
  obtain ⟨r, er, hr1, hr2⟩ := labels_Ports_spec hn hg hf ho
  have hpl := hg.ports
  rw [er, eL]
  simp only [Option.bind_some, Bool.not_true, Bool.false_eq_true, if_false]
  rw [if_neg (by have := ho.1; simp; omega)]
  have hset : ∀ b, inL n.ports b → ∀ t, tb (getI r b) t = true ↔ 0 ≤ getI of b ∧ Comes n of b of.length t := fun b hb t => by
    rw [(hr2 b hb).2 t]
    refine and_congr_right fun h0 => ?_
    rw [inPort_iff ho hb h0]
    constructor
    · rintro ⟨a, ha, h1, h2⟩
      have hao := (owner_ok ho ha).1
      exact ⟨a, hao, hao.2, h1, h2⟩
    · rintro ⟨a, ha, _, h1, h2⟩
      exact ⟨a, ⟨ha.1, by have := ha.2; have := ho.1; omega⟩, h1, h2⟩
  -- a set that is not its owner's alone
  have hodd : ∀ b, inL n.ports b → 0 ≤ getI of b → (getI r b ≠ ((2 ^ (getI of b).toNat : Nat) : Int) ↔ ∃ a, inL of a ∧ 0 ≤ getI of a ∧ getI of a ≠ getI of b ∧ WayP n a b) := fun b hb h0 => by
    have hbo := (owner_ok ho hb).1
    constructor
    · intro hne
      apply Classical.byContradiction
      intro hno
      refine hne (tb_eq (hr2 b hb).1 (Int.natCast_nonneg _) fun t => ?_)
      rw [tb_pow]
      have : tb (getI r b) t = true ↔ (getI of b).toNat = t := by
        rw [hset b hb t]
        constructor
        · rintro ⟨_, a, ha, _, h1, h2⟩
          rcases h2 with rfl | h2
          · omega
          · apply Classical.byContradiction
            intro c
            exact hno ⟨a, ha, by omega, by omega, h2⟩
        · intro c
          exact ⟨h0, b, hbo, hbo.2, by omega, .inl rfl⟩
      by_cases c : (getI of b).toNat = t
      · rw [this.2 c, decide_eq_true c]
      · rw [decide_eq_false c]
        cases h : tb (getI r b) t with
        | false => rfl
        | true => exact absurd (this.1 h) c
    · rintro ⟨a, ha, a0, hne, hw⟩ heq
      have := (hset b hb (getI of a).toNat).2 ⟨h0, a, ha, ha.2, by omega, .inr hw⟩
      rw [heq, tb_pow, decide_eq_true_eq] at this
      omega
  obtain ⟨q, e, hq⟩ := loopM_rule (f := fun s : Bool × Int => match s with | (v20, v21) => palinglaw42_LabelsWays_L1 n of r n.ports.length (la, lb, decide (OwnP n of ∧ LeakW n of)) v20 v21)
    (fun s => 0 ≤ s.2 ∧ s.2 ≤ n.ports.length ∧ (s.1 = true ↔ ∃ a b, inL of a ∧ inL n.ports b ∧ b < s.2 ∧ 0 ≤ getI of a ∧ 0 ≤ getI of b ∧ getI of a ≠ getI of b ∧ WayP n a b))
    (fun q => q = .inr (decide (LeakW n of))) (fun s => (n.ports.length - s.2).toNat) (s := (false, 0)) (fun s hI => by
      obtain ⟨v, b⟩ := s
      obtain ⟨b0, b1, hh⟩ := hI
      simp only at b0 b1 hh ⊢
      unfold palinglaw42_LabelsWays_L1
      by_cases c : b < (n.ports.length : Int)
      case neg =>
        rw [if_neg (by simpa using c)]
        refine ⟨_, rfl, ?_⟩
        show Sum.inr v = Sum.inr (decide (LeakW n of))
        congr 1
        have : v = true ↔ LeakW n of := by
          rw [hh]
          constructor
          · rintro ⟨a, b, ha, hb, _, h⟩; exact ⟨a, b, ha, (owner_ok ho hb).1, h⟩
          · rintro ⟨a, b, ha, hb, h⟩
            have hb' : inL n.ports b := ⟨hb.1, by have := hb.2; have := ho.1; omega⟩
            exact ⟨a, b, ha, hb', by have := hb'.2; omega, h⟩
        by_cases d : LeakW n of
        · rw [this.2 d, decide_eq_true d]
        · rw [decide_eq_false d]
          cases hv : v with
          | false => rfl
          | true => exact absurd (this.1 hv) d
      have hb : inL n.ports b := ⟨b0, c⟩
      have hbr : inL r b := ⟨b0, by omega⟩
      have hbo := (owner_ok ho hb).1
      have w : wr_i64 (b + 1) = b + 1 := wr64 (by omega) (by omega)
      rw [if_pos (decide_eq_true c), if_pos (linT hbr), getI_get? hbr, Option.bind_some]
      obtain ⟨x, ex, x0, hx⟩ := want_spec hn hg ho hb (l12 := r) (n13 := n.ports.length) (r15 := (la, lb, decide (OwnP n of ∧ LeakW n of))) (v20 := v) (x24 := getI r b)
      have hxe : getI r b = x := tb_eq (hr2 b hb).1 x0 fun t => by
        have h1 := hset b hb t
        have h2 := hx t
        cases h3 : tb (getI r b) t with
        | true => exact (h2.2 (h1.1 h3)).symm
        | false =>
          cases h4 : tb x t with
          | false => rfl
          | true => rw [h1.2 (h2.1 h4)] at h3; cases h3
      rw [ex, Option.bind_some]
      simp only
      rw [← hxe, if_neg (by simp), w]
      have step : ∀ v' : Bool, (v' = true ↔ v = true ∨ ∃ a, inL of a ∧ 0 ≤ getI of a ∧ 0 ≤ getI of b ∧ getI of a ≠ getI of b ∧ WayP n a b) → (0 ≤ b + 1 ∧ b + 1 ≤ (n.ports.length : Int) ∧ (v' = true ↔ ∃ a b', inL of a ∧ inL n.ports b' ∧ b' < b + 1 ∧ 0 ≤ getI of a ∧ 0 ≤ getI of b' ∧ getI of a ≠ getI of b' ∧ WayP n a b')) ∧ ((n.ports.length : Int) - (b + 1)).toNat < ((n.ports.length : Int) - b).toNat := fun v' hv => by
        refine ⟨⟨by omega, by omega, ?_⟩, by omega⟩
        rw [hv, hh]
        constructor
        · rintro (⟨a, b2, ha, hb2, hlt, h⟩ | ⟨a, ha, h⟩)
          · exact ⟨a, b2, ha, hb2, by omega, h⟩
          · exact ⟨a, b, ha, hb, by omega, h⟩
        · rintro ⟨a, b2, ha, hb2, hlt, h⟩
          by_cases e : b2 = b
          · subst e; exact .inr ⟨a, ha, h⟩
          · exact .inl ⟨a, b2, ha, hb2, by omega, h⟩
      cases v with
      | true => rw [if_pos rfl]; exact ⟨_, rfl, step true ⟨fun _ => .inl rfl, fun _ => rfl⟩⟩
      | false =>
        rw [if_neg (by simp), nth_getI hbo, Option.bind_some]
        by_cases h0 : 0 ≤ getI of b
        case neg =>
          rw [if_neg (by simpa using h0)]
          exact ⟨_, rfl, step false ⟨fun h => (by cases h), fun h => (by rcases h with h | ⟨a, _, _, h, _⟩; exact h; exact absurd h h0)⟩⟩
        have h1 : getI of b < 10 := by
          rcases (owner_ok ho hb).2 with h | h
          · omega
          · exact h.2
        rw [if_pos (decide_eq_true h0), Option.bind_some, if_pos (decide_eq_true h1), Option.bind_some, if_pos (decide_eq_true h0), pow_wr h0 h1]
        refine ⟨_, rfl, step _ ?_⟩
        rw [bne_iff_ne, hodd b hb h0]
        constructor
        · rintro ⟨a, ha, h⟩; exact .inr ⟨a, ha, h.1, h0, h.2⟩
        · rintro (h | ⟨a, ha, h⟩)
          · cases h
          · exact ⟨a, ha, h.1, h.2.2⟩)
    ⟨Int.le_refl 0, by simp only; omega, by
      simp only
      exact ⟨fun h => (by cases h), fun ⟨a, b, _, hb, h, _⟩ => (by have := hb.1; omega)⟩⟩ (by simp only; omega)
  rw [e, hq]
  have : (OwnP n of ∧ LeakW n of) ↔ LeakW n of := ⟨fun h => h.2, fun h => ⟨ho, h⟩⟩
  by_cases d : LeakW n of
  · rw [decide_eq_true d, decide_eq_true (this.2 d)]; rfl
  · rw [decide_eq_false d, decide_eq_false (fun h => d (this.1 h))]; rfl
end Go.Eng
