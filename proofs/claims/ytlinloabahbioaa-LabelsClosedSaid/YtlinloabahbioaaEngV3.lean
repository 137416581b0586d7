/- Plain laws of chapter 42: LabelsClosed. -/
import Derived.Test.YtlinloabahbioaaEngV3a
set_option linter.unusedVariables false
set_option linter.unusedSectionVars false
set_option linter.unusedSimpArgs false
namespace Go.Eng
open Go Classical
attribute [local congr] ite_cg

section
variable {n : Api_Net} {of : List Int}
theorem lawHas_spec {l : List Int} {v : Int} (hl : Few l) : palinglaw42_has l v = some (decide (v ∈ l)) := by
  simp only [palinglaw42_has]
  have e := loop_each (f := palinglaw42_has_L1 l v) l (fun _ x => x ≠ v) (.inl ()) (.inr ()) hl (fun i i0 i1 hi => by
    unfold Few at hl
    simp only [palinglaw42_has_L1]
    rw [if_pos (by simpa using i1), nth_getI hi, Option.bind_some, wr64 (by omega) (by omega)]
    by_cases c : getI l i = v
    · rw [if_pos (by simpa using c), if_neg (by simpa using c)]
    · rw [if_neg (by simpa using c), if_pos c]) (by simp [palinglaw42_has_L1])
  rw [e]
  by_cases c : v ∈ l
  · rw [if_neg (show ¬ EachP l (fun _ x => x ≠ v) from fun h => by
      obtain ⟨i, hi, hv⟩ := mem_getI c
      exact h i hi hv)]
    simp [c]
  · rw [if_pos (show EachP l (fun _ x => x ≠ v) from fun i hi h => c (by rw [← h]; exact getI_mem hi))]
    simp [c]
theorem labelsClosed (n : Api_Net) (of : List Int) (hn : n.Ok) (_ : okL (okI .i64) of) : palinglaw42_LabelsClosed n of = some true := by
  simp only [palinglaw42_LabelsClosed, Great_spec, Option.bind_some, works42, Bool.not_true, Bool.false_eq_true, if_false]
  by_cases hg : BndN n 200 100
  case neg => simp [hg]
  have hs := hg.sm
  have hdl := hg.domains
  simp only [hg, not_true_eq_false, decide_false, Bool.false_eq_true, if_false]
  by_cases hof : (of.length : Int) > 300
  · simp [hof]
  rw [if_neg (by simpa using hof)]
  have hf : Few of := by unfold Few; omega
  by_cases ho : OwnP n of
  case neg =>
    rw [labels_All_no hs hf ho]; simp
  have hr := ho.2.1
  obtain ⟨b, e, hb⟩ := labels_All_spec hn hg hf ho
  rw [e]
  have hbl := hb.ok.1
  have hin : ∀ d, inL n.domains d → inL b d := fun d hd => ⟨hd.1, by have := hd.2; omega⟩
  have key : loopM (palinglaw42_LabelsClosed_L1 n of b n.domains.length) 0 = some (.inr ()) := by
    refine loop_pass (f := palinglaw42_LabelsClosed_L1 n of b n.domains.length) b (Sum.inr ()) (by unfold Few; omega) (fun d d0 d1 hd => ?_) (by simp [palinglaw42_LabelsClosed_L1, hbl])
    have hdn : inL n.domains d := ⟨d0, by omega⟩
    have hlb := hb.ok.2 d hd
    have hcl := hb.closed d d0 (by omega)
    have hhl := hopsI_len hg hdn
    have e1 : loopM (palinglaw42_LabelsClosed_L2 n of b n.domains.length d (getI b d) (hopsI n d)) 0 = some (.inr ()) :=
      loop_pass (hopsI n d) (Sum.inr ()) (by unfold Few; omega) (fun i i0 i1 hi => by
        have hx := hops_in hr d d0 (by omega) _ (getI_mem hi)
        have hxm : (getI (hopsI n d) i).domain ∈ hopD n d := List.mem_map.2 ⟨_, getI_mem hi, rfl⟩
        have hxb := hin _ ⟨hx.1, hx.2⟩
        have hlx := hb.ok.2 _ hxb
        have hsub := hcl.1 _ hxm
        simp only [palinglaw42_LabelsClosed_L2]
        rw [if_pos (by simpa using i1), if_pos (linT hi), getI_get? hi, Option.bind_some, if_neg (by simpa using hx.1), if_neg (by simpa using hx.2), if_pos (linT hxb), getI_get? hxb, Option.bind_some,
          andNot64 hlb.p0 hlb.p1 hlx.p0 hlx.p1 hsub.1, if_neg (by simp), Option.bind_some, andNot64 hlb.l0 hlb.l1 hlx.l0 hlx.l1 hsub.2, if_neg (by simp), wr64 (by omega) (by omega)]) (by simp [palinglaw42_LabelsClosed_L2])
    have e2 : ∃ ls : List Choose_Lead, choose_Routes n d = some ls ∧ ls.length ≤ 200 ∧ ∀ x ∈ ls, x.domain ∈ leadD n d := by
      by_cases c : (getI n.domains d).irb < 0
      · exact ⟨[], chooseRoutes_none hs (fun h => h.2.2 c), by simp, by simp⟩
      · refine ⟨_, chooseRoutes_some hn hs hg.irbs hr hdn c, Nat.le_trans leads36_len hg.irbs, fun x hx => ?_⟩
        unfold leadD; rw [if_neg c]
        exact List.mem_map.2 ⟨x, hx, rfl⟩
    obtain ⟨ls, e2, ll, hls⟩ := e2
    have e3 : loopM (palinglaw42_LabelsClosed_L3 n of b n.domains.length d (getI b d) ls) 0 = some (.inr ()) :=
      loop_pass ls (Sum.inr ()) (by unfold Few; omega) (fun i i0 i1 hi => by
        have hxm := hls _ (getI_mem hi)
        have hx := leadD_in hr d d0 (by omega) _ hxm
        have hxb := hin _ ⟨hx.1, hx.2⟩
        have hlx := hb.ok.2 _ hxb
        have hsub := hcl.2 _ hxm
        simp only [palinglaw42_LabelsClosed_L3]
        rw [if_pos (by simpa using i1), if_pos (linT hi), getI_get? hi, Option.bind_some, if_neg (by simpa using hx.1), if_neg (by simpa using hx.2), if_pos (linT hxb), getI_get? hxb, Option.bind_some,
          andNot64 hlb.p0 hlb.p1 hlx.l0 hlx.l1 hsub, if_neg (by simp), wr64 (by omega) (by omega)]) (by simp [palinglaw42_LabelsClosed_L3])
    have e4 : loopM (palinglaw42_LabelsClosed_L4 n of b n.domains.length d (getI b d)) 0 = some (.inr ()) :=
      loop_pass n.ports (Sum.inr ()) (by unfold Few; have := hg.ports; omega) (fun p p0 p1 hp => by
        obtain ⟨hio, hval⟩ := owner_ok ho hp
        have htl := hg.tagged _ (getI_mem hp)
        have hports := hg.ports
        have hJ : palinglaw42_LabelsClosed_J5 n of b n.domains.length d (getI b d) p (getI n.ports p) = some (decide ((getI n.ports p).dev = (getI n.domains d).dev ∧ ((getI n.ports p).native = (getI n.domains d).vlan ∨ (getI n.domains d).vlan ∈ (getI n.ports p).tagged))) := by
          simp only [palinglaw42_LabelsClosed_J5]
          rw [nth_getI hdn, Option.bind_some]
          by_cases c1 : (getI n.ports p).dev = (getI n.domains d).dev
          · rw [if_pos (by simpa using c1), Option.bind_some]
            by_cases c2 : (getI n.ports p).native = (getI n.domains d).vlan
            · rw [if_pos (by simpa using c2)]; simp [c1, c2]
            · rw [if_neg (by simpa using c2), Option.bind_some, lawHas_spec (by unfold Few; omega), Option.bind_some]; simp [c1, c2]
          · rw [if_neg (by simpa using c1)]; simp [c1]
        simp only [palinglaw42_LabelsClosed_L4]
        rw [if_pos (by simpa using p1), nth_getI hp, Option.bind_some, hJ, Option.bind_some]
        rw [wr64 (by omega) (by omega), nth_getI hio, Option.bind_some, Option.bind_some, Option.bind_some]
        by_cases c : (getI n.ports p).dev = (getI n.domains d).dev ∧ ((getI n.ports p).native = (getI n.domains d).vlan ∨ (getI n.domains d).vlan ∈ (getI n.ports p).tagged)
        · rw [if_pos (decide_eq_true c)]
          by_cases c0 : 0 ≤ getI of p
          · obtain ⟨t, ht⟩ : ∃ t : Nat, getI of p = (t : Int) := ⟨(getI of p).toNat, by omega⟩
            have hv0 := (hr.bare d hdn).2.1
            have hmem : p ∈ membersL n d := mem_membersL.2 ⟨hp, c.1, by omega, c.2.elim (fun h => .inl h.symm) .inr⟩
            have htb := (hb.plain d hdn t).2 (.seed ⟨hdn, p, hmem, ht⟩)
            have hp1 := hlb.p1
            rw [if_pos (by simpa using c0), if_pos (by simp; omega), if_pos (by simpa using c0), ht, shift_bit hlb.p0 (by omega) (by omega), if_pos htb]
            simp
          · rw [if_neg (by simpa using c0)]
        · rw [if_neg (by simpa using c)]) (by simp [palinglaw42_LabelsClosed_L4])
    simp only [palinglaw42_LabelsClosed_L1]
    rw [if_pos (by simp; omega), if_pos (linT hd), getI_get? hd, Option.bind_some, reach_Hops_spec hg hr hdn, Option.bind_some]
    rw [e1, Option.bind_some]
    simp only
    rw [e2, Option.bind_some]
    rw [e3, Option.bind_some]
    simp only
    rw [e4, Option.bind_some, wr64 (by omega) (by omega)]
  simp only [Option.bind_some, Bool.not_true, Bool.false_eq_true, if_false]
  rw [if_neg (by simp), if_neg (by have := ho.1; simp; omega), key]
  rfl
end
end Go.Eng
