/- Chapter 42 (labels): labels and ways: LabelsWays. -/
import Derived.Test.YtcclngfmkodgjaaGreatEngZ1
set_option linter.unusedVariables false
set_option linter.unusedSectionVars false
set_option linter.unusedSimpArgs false
namespace Go.Eng
open Go Classical
attribute [local congr] ite_cg
section
variable {n : Api_Net} {of : List Int}
theorem der_of {k : Bool} {d : Int} {t : Nat} : DerN n of k d t ↔ ∃ a, inL n.ports a ∧ getI of a = (t : Int) ∧ DerW n a k d := by
  constructor
  · intro h
    induction h with
    | seed h =>
      obtain ⟨hd, p, hp, ht⟩ := h
      exact ⟨p, (mem_membersL.1 hp).1, ht, .seed ⟨hd, hp⟩⟩
    | hop h hx ih =>
      obtain ⟨a, h1, h2, h3⟩ := ih
      exact ⟨a, h1, h2, .hop h3 hx⟩
    | route h hx ih =>
      obtain ⟨a, h1, h2, h3⟩ := ih
      exact ⟨a, h1, h2, .route h3 hx⟩
  · rintro ⟨a, h1, h2, h3⟩
    have key : ∀ k d t', Der (hopD n) (leadD n) (SeedW n a) k d t' → DerN n of k d t := by
      intro k d t' h
      induction h with
      | seed h => exact .seed ⟨h.1, a, h.2, h2⟩
      | hop h hx ih => exact .hop ih hx
      | route h hx ih => exact .route ih hx
    exact key k d 0 h3
theorem own_dom (hr : RightP n) {p : Int} (hp : inL n.ports p) : ∃ d, inL n.domains d ∧ p ∈ membersL n d := by
  have hP := hr.ports p hp
  have hne := hP.2.2.2.2.2.1
  by_cases c : (getI n.ports p).native = 0
  · have ht : (getI n.ports p).tagged ≠ [] := fun h => hne ⟨c, h⟩
    obtain ⟨v, hv⟩ := List.exists_mem_of_ne_nil _ ht
    have hn := hP.2.2.2.2.1
    have h0 : v ≠ 0 := fun h => hn (by rw [c, ← h]; exact hv)
    exact ⟨_, dom_seed hr hp h0 (List.mem_append_right _ hv)⟩
  · exact ⟨_, dom_seed hr hp c (by simp)⟩
theorem host_own (ho : OwnP n of) {a : Int} (ha : inL n.ports a) : HostP n a ↔ 0 ≤ getI of a := by
  have hi := (owner_ok ho ha).1
  have h := ho.2.2 a hi
  constructor
  · intro q; exact (h.2 q.2).1
  · intro q
    refine ⟨ha, ?_⟩
    apply Classical.byContradiction
    intro c
    have := h.1 (by omega); omega
theorem inPort_iff (ho : OwnP n of) {b : Int} (hb : inL n.ports b) (h0 : 0 ≤ getI of b) {t : Nat} : inPort n of b t ↔ ∃ a, inL n.ports a ∧ getI of a = (t : Int) ∧ (a = b ∨ WayP n a b) := by
  constructor
  · rintro ⟨d, hd, hm, h⟩
    have : ∃ k, DerN n of k d t := by
      rcases h with h | h
      · exact ⟨_, h⟩
      · exact ⟨_, h⟩
    obtain ⟨k, h⟩ := this
    obtain ⟨a, ha, ht, hw⟩ := der_of.1 h
    refine ⟨a, ha, ht, ?_⟩
    by_cases c : a = b
    · exact .inl c
    · exact .inr ⟨(host_own ho ha).2 (by omega), (host_own ho hb).2 h0, c, ho.2.1, k, d, hd, hm, hw⟩
  · rintro ⟨a, ha, ht, h⟩
    rcases h with rfl | h
    · obtain ⟨d, hd, hm⟩ := own_dom ho.2.1 ha
      exact ⟨d, hd, hm, .inl (.seed ⟨hd, a, hm, ht⟩)⟩
    · obtain ⟨_, _, _, _, k, d, hd, hm, hw⟩ := h
      have := (der_of (of := of) (t := t)).2 ⟨a, ha, ht, hw⟩
      refine ⟨d, hd, hm, ?_⟩
      cases k
      · exact .inl this
      · exact .inr this
def LeakW (n : Api_Net) (of : List Int) : Prop := ∃ a b, inL of a ∧ inL of b ∧ 0 ≤ getI of a ∧ 0 ≤ getI of b ∧ getI of a ≠ getI of b ∧ WayP n a b
theorem leaks37_spec (hn : n.Ok) (hg : BndN n 200 100) (hf : Few of) : ∃ a b, verdict_Leaks n of = some (a, b, decide (OwnP n of ∧ LeakW n of)) := by
  have hs := hg.sm
  have hf' : of.length ≤ 1000000 := hf
  unfold verdict_Leaks
  rw [owners_Right_spec hs hf, Option.bind_some]
  by_cases ho : OwnP n of
  case neg => rw [if_pos (by simpa using ho), decide_eq_false (fun h => ho h.1)]; exact ⟨_, _, rfl⟩
  rw [if_neg (by simpa using ho)]
  let Pb : Int → Int → Prop := fun a b => 0 ≤ getI of a ∧ 0 ≤ getI of b ∧ getI of a ≠ getI of b ∧ WayP n a b
  have inner : ∀ a, inL of a → ∃ r, loopM (verdict_Leaks_L2 n of a (getI of a)) 0 = some r ∧ match r with | .inl b => inL of b ∧ Pb a b | .inr () => ∀ b, inL of b → ¬ Pb a b := by
    intro a ha
    refine loopM_rule (f := verdict_Leaks_L2 n of a (getI of a)) (fun j => 0 ≤ j ∧ j ≤ of.length ∧ ∀ b, inL of b → b < j → ¬ Pb a b) (fun r => match r with | .inl b => inL of b ∧ Pb a b | .inr () => ∀ b, inL of b → ¬ Pb a b)
      (fun j => (of.length - j).toNat) (s := 0) (fun j hI => ?_) ⟨Int.le_refl 0, by omega, fun b hb h => by have := hb.1; omega⟩ (by omega)
    obtain ⟨j0, j1, hh⟩ := hI
    unfold verdict_Leaks_L2
    by_cases c : j < (of.length : Int)
    case neg =>
      rw [if_neg (by simpa using c)]
      exact ⟨_, rfl, fun b hb => hh b hb (by have := hb.2; omega)⟩
    have hj : inL of j := ⟨j0, c⟩
    have w : wr_i64 (j + 1) = j + 1 := wr64 (by omega) (by omega)
    have go : ¬ Pb a j → (0 ≤ j + 1 ∧ j + 1 ≤ (of.length : Int) ∧ ∀ b, inL of b → b < j + 1 → ¬ Pb a b) ∧ ((of.length : Int) - (j + 1)).toNat < ((of.length : Int) - j).toNat := fun hno =>
      ⟨⟨by omega, by omega, fun b hb h => by
        by_cases e : b = j
        · rw [e]; exact hno
        · exact hh b hb (by omega)⟩, by omega⟩
    rw [if_pos (decide_eq_true c), nth_getI hj, Option.bind_some, w]
    by_cases c1 : getI of a < 0
    · rw [if_pos (decide_eq_true c1)]; exact ⟨_, rfl, go (fun h => by have := h.1; omega)⟩
    rw [if_neg (by simpa using c1)]
    by_cases c2 : getI of j < 0
    · rw [if_pos (decide_eq_true c2)]; exact ⟨_, rfl, go (fun h => by have := h.2.1; omega)⟩
    rw [if_neg (by simpa using c2)]
    by_cases c3 : getI of a = getI of j
    · rw [if_pos (by simpa using c3)]; exact ⟨_, rfl, go (fun h => h.2.2.1 c3)⟩
    rw [if_neg (by simpa using c3)]
    obtain ⟨l, m, e⟩ := way_spec hn hg (a := a) (b := j)
    rw [e, Option.bind_some]
    simp only
    by_cases c4 : WayP n a j
    · rw [if_pos (decide_eq_true c4)]; exact ⟨_, rfl, hj, by omega, by omega, c3, c4⟩
    · rw [if_neg (by simpa using c4)]; exact ⟨_, rfl, go (fun h => c4 h.2.2.2)⟩
  obtain ⟨r, e, hr⟩ := loopM_rule (f := verdict_Leaks_L1 n of) (fun j => 0 ≤ j ∧ j ≤ of.length ∧ ∀ a, inL of a → a < j → ∀ b, inL of b → ¬ Pb a b) (fun r => match r with | .inl _ => LeakW n of | .inr () => ¬ LeakW n of)
    (fun j => (of.length - j).toNat) (s := 0) (fun j hI => by
      obtain ⟨j0, j1, hh⟩ := hI
      unfold verdict_Leaks_L1
      by_cases c : j < (of.length : Int)
      case neg =>
        rw [if_neg (by simpa using c)]
        refine ⟨_, rfl, ?_⟩
        rintro ⟨a, b, ha, hb, h1, h2, h3, h4⟩
        exact hh a ha (by have := ha.2; omega) b hb ⟨h1, h2, h3, h4⟩
      have hj : inL of j := ⟨j0, c⟩
      have w : wr_i64 (j + 1) = j + 1 := wr64 (by omega) (by omega)
      obtain ⟨r, e, hr⟩ := inner j hj
      rw [if_pos (decide_eq_true c), nth_getI hj, Option.bind_some, e, Option.bind_some, w]
      cases r with
      | inl b => exact ⟨_, rfl, j, b, hj, hr.1, hr.2⟩
      | inr u =>
        refine ⟨_, rfl, ⟨by omega, by omega, fun a ha h => ?_⟩, by omega⟩
        by_cases e : a = j
        · rw [e]; exact hr
        · exact hh a ha (by omega))
    ⟨Int.le_refl 0, by omega, fun a ha h => by have := ha.1; omega⟩ (by omega)
  rw [e, Option.bind_some]
  cases r with
  | inl q => rw [decide_eq_true ⟨ho, hr⟩]; exact ⟨_, _, rfl⟩
  | inr u => rw [decide_eq_false (fun h => hr h.2)]; exact ⟨_, _, rfl⟩
end
end Go.Eng
