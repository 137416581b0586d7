/- Chapter 28: what goes out at a port of a link comes in at the other one: LeaveCrosses. -/
import Derived.Test.YtakijieekhbhfaaGreatEngB7p
set_option linter.unusedVariables false
set_option linter.unusedSectionVars false
set_option linter.unusedSimpArgs false
namespace Go.Eng
open Go Classical
attribute [local congr] ite_cg
section
variable {n : Api_Net}

theorem othI_link (hr : RightP n) {p : Int} (hp : inL n.ports p) (hl : 0 ≤ (getI n.ports p).link) : 0 ≤ othI n p := by
  obtain ⟨hk, he⟩ := hr.link hp hl
  obtain ⟨ha, hb, _⟩ := hr.links _ hk
  unfold othI
  rw [if_pos ⟨hr, hp, hl⟩]
  split
  · exact hb.1
  · exact ha.1
theorem enter_bare (hs : SmN n) (hr : RightP n) {q : Int} (hq : inL n.ports q) {f : Api_Frame} (hd : 0 ≤ f.dst ∧ f.dst ≤ 281474976710655) (hsr : 0 ≤ f.src ∧ f.src ≤ 281474976710655) (ht : 0 ≤ f.type_ ∧ f.type_ ≤ 65535) (hb : f.body.length ≤ 1504) (hB : BytesP f.body) (hu : f.type_ ≠ 33024) (hg : ¬ GrpP f.src) :
    enter_At n q (frB f) = some (if (getI n.ports q).native = 0 then ([], 0, 0, 0, 0, 0, 16) else (f.body, f.body.length, domIx n.domains (getI n.ports q).dev (getI n.ports q).native, f.dst, f.src, f.type_, 0)) := by
  have hfl := frB_len (f := f)
  have h1 : ¬ q < 0 := by have := hq.1; omega
  have h2 : ¬ q ≥ (n.ports.length : Int) := by have := hq.2; omega
  unfold enter_At
  rw [if_neg (by simpa using h1), if_neg (by simpa using h2), names_Right_spec hs, ether_Take_spec (frB_bytes hB) (by omega), take_frB hd hsr ht hb]
  simp only [Option.bind_some, hr, tag_Is, enter_At_J1, enter_At_J2, enter_At_J3, decide_true, Bool.not_true, Bool.false_eq_true, if_false, beq_self_eq_true, if_true]
  rw [show (f.type_ == 33024) = false from by simpa using hu]
  simp only [Bool.false_eq_true, if_false, Option.bind_some, beq_self_eq_true, if_true, mac_Group_spec hsr.1 (show f.src < 18446744073709551616 by omega), hg, decide_false, nth_getI hq, enter_Vlan, Bool.not_false]
  by_cases c : (getI n.ports q).native = 0
  · simp [c]
  · simp [c, names_Domain_spec hs, hr]
theorem strip_tagged {f : Api_Frame} {t v : Int} {b : List Int} (hf : f.type_ = 33024) (hfb : f.body = [v / 256 % 256, v % 256, t / 256 % 256, t % 256] ++ b) (hv : 0 ≤ v ∧ v ≤ 4094) (ht : 0 ≤ t ∧ t ≤ 65535) (hu : t ≠ 33024) (hb : b.length ≤ 1000000) :
    ∃ pr, tag_Strip f = some (b, f.dst, f.src, t, v, pr, 0) := by
  unfold tag_Strip tag_Is
  have n0 : nth f.body 0 = some (v / 256 % 256) := by rw [hfb]; rfl
  have n1 : nth f.body 1 = some (v % 256) := by rw [hfb]; rfl
  have n2 : nth f.body 2 = some (t / 256 % 256) := by rw [hfb]; rfl
  have n3 : nth f.body 3 = some (t % 256) := by rw [hfb]; rfl
  have hl : f.body.length = 4 + b.length := by rw [hfb]; simp; omega
  rw [Option.bind_some, if_neg (by simpa using hf), if_neg (by simp; omega), n0, Option.bind_some, n1, Option.bind_some, n2, Option.bind_some, n3, Option.bind_some, or_i64_8 (by omega) (by omega) (by omega) (by omega), or_i64_8 (by omega) (by omega) (by omega) (by omega)]
  have e1 : v / 256 % 256 * 256 + v % 256 = v := by omega
  have e2 : t / 256 % 256 * 256 + t % 256 = t := by omega
  have e3 : v % 4096 = v := by omega
  rw [e1, e2, and_i64_12 (by omega) (by omega), e3, if_neg (by simp; omega), if_neg (by simpa using hu)]
  have hsl : slok f.body.length 4 (f.body.length : Int) = true := by rw [slok_dec]; exact decide_eq_true (by omega)
  have ed : List.drop (Int.toNat 4) (List.take (Int.toNat ((f.body.length : Nat) : Int)) f.body) = b := by
    rw [Int.toNat_natCast, List.take_length, hfb]; rfl
  rw [if_pos hsl, ed]
  unfold slices_Clone_byte
  rw [if_pos (roomy_few (by omega))]
  exact ⟨_, rfl⟩
theorem enter_tagged (hs : SmN n) (hr : RightP n) {q : Int} (hq : inL n.ports q) {d s t v : Int} {b : List Int} (hd : 0 ≤ d ∧ d ≤ 281474976710655) (hsr : 0 ≤ s ∧ s ≤ 281474976710655) (ht : 0 ≤ t ∧ t ≤ 65535) (hu : t ≠ 33024) (hv : 1 ≤ v ∧ v ≤ 4094) (hb : b.length ≤ 1500) (hB : BytesP b) (hg : ¬ GrpP s) :
    enter_At n q (frB ⟨d, s, 33024, [v / 256 % 256, v % 256, t / 256 % 256, t % 256] ++ b⟩) = some (if v ∈ (getI n.ports q).tagged then (b, b.length, domIx n.domains (getI n.ports q).dev v, d, s, t, 0) else ([], 0, 0, 0, 0, 0, 16)) := by
  have hfl := frB_len (f := ⟨d, s, 33024, [v / 256 % 256, v % 256, t / 256 % 256, t % 256] ++ b⟩)
  have hbl : ([v / 256 % 256, v % 256, t / 256 % 256, t % 256] ++ b).length = 4 + b.length := by simp; omega
  have hB2 : BytesP ([v / 256 % 256, v % 256, t / 256 % 256, t % 256] ++ b) := by
    intro x hx
    simp only [List.mem_append, List.mem_cons, List.not_mem_nil, or_false] at hx
    rcases hx with h | h
    · omega
    · exact hB x h
  have h1 : ¬ q < 0 := by have := hq.1; omega
  have h2 : ¬ q ≥ (n.ports.length : Int) := by have := hq.2; omega
  obtain ⟨pr, hst⟩ := strip_tagged (f := ⟨d, s, 33024, [v / 256 % 256, v % 256, t / 256 % 256, t % 256] ++ b⟩) (b := b) rfl rfl (show 0 ≤ v ∧ v ≤ 4094 by omega) ht hu (by omega)
  unfold enter_At
  rw [if_neg (by simpa using h1), if_neg (by simpa using h2), names_Right_spec hs, ether_Take_spec (frB_bytes hB2) (by simp only at hfl; omega), take_frB hd hsr (by simp only; omega) (by simp only; omega)]
  have hv0 : (v == 0) = false := by simp; omega
  simp only [Option.bind_some, hr, tag_Is, enter_At_J1, enter_At_J2, enter_At_J3, decide_true, Bool.not_true, Bool.false_eq_true, if_false, beq_self_eq_true, if_true, hst, mac_Group_spec hsr.1 (show s < 18446744073709551616 by omega), hg, decide_false, nth_getI hq, enter_Vlan, hv0, Contains_int_spec (hs.tagged _ (getI_mem hq))]
  by_cases c : v ∈ (getI n.ports q).tagged
  · simp [c, names_Domain_spec hs, hr]
  · simp [c]
theorem putE_mk {f : Api_Frame} (h : (putE f).2 = 0) : putE f = (frB f, 0) := by
  have := (putE_len h).1
  rw [← this, ← h]
theorem leaveCrosses (n : Api_Net) (p d : Int) (f : Api_Frame) (hn : n.Ok) (_ : okI .i64 p) (_ : okI .i64 d) (hf : f.Ok) : palinglaw28_LeaveCrosses n p d f = some true := by
  unfold palinglaw28_LeaveCrosses
  rw [works28, Option.bind_some, if_neg (by simp), Great_spec, Option.bind_some]
  by_cases hg : BndN n 200 100
  case neg => rw [if_pos (by simpa using hg)]
  rw [if_neg (by simpa using hg)]
  have hs := hg.sm
  by_cases c : (f.body.length : Int) > 4000
  · rw [if_pos (decide_eq_true c)]
  have hds := okU64 hf.1
  have hss := okU64 hf.2.1
  have hB := bytes_ok hf.2.2.2.1
  rw [if_neg (by simpa using c), mac_Group_spec hss.1 hss.2, Option.bind_some]
  by_cases hgr : GrpP f.src
  · rw [if_pos (decide_eq_true hgr)]
  rw [if_neg (by simpa using hgr), leave_At_spec hs]
  simp only [Option.bind_some]
  by_cases c1 : (atS n p d f).2 = 0
  case neg =>
    rw [if_pos (by simpa using c1)]
    unfold atS at *
    split
    · rfl
    split
    · rfl
    split
    · rfl
    split
    · rename_i h1 h2 h3 h4
      rw [if_neg h1, if_neg h2, if_neg h3, if_pos h4] at c1
      unfold putE at *
      split
      · rfl
      split
      · rfl
      · rename_i h5 h6; rw [if_neg h5, if_neg h6] at c1; exact absurd rfl c1
    split
    · rfl
    · rename_i h1 h2 h3 h4 h0
      rw [if_neg h1, if_neg h2, if_neg h3, if_neg h4, if_neg h0] at c1
      unfold putE at *
      split
      · rfl
      split
      · rfl
      · rename_i h5 h6; rw [if_neg h5, if_neg h6] at c1; exact absurd rfl c1
  rw [if_neg (by simpa using c1)]
  have hcond : RightP n ∧ inL n.ports p ∧ inL n.domains d := by
    apply Classical.byContradiction; intro h
    unfold atS at c1; rw [if_pos h] at c1; cases c1
  obtain ⟨hr, hp, hd⟩ := hcond
  have hin : InDom n d (getI n.ports p) := by
    apply Classical.byContradiction; intro h
    unfold atS at c1; rw [if_neg (not_not.2 ⟨hr, hp, hd⟩), if_pos h] at c1; cases c1
  have hty : f.type_ ≠ 33024 := by
    intro h
    unfold atS at c1; rw [if_neg (not_not.2 ⟨hr, hp, hd⟩), if_neg (not_not.2 hin), if_pos h] at c1; cases c1
  have a1 : ¬ d < 0 := by have := hd.1; omega
  have a2 : ¬ d ≥ (n.domains.length : Int) := by have := hd.2; omega
  have a3 : ¬ p < 0 := by have := hp.1; omega
  have a4 : ¬ p ≥ (n.ports.length : Int) := by have := hp.2; omega
  rw [if_neg (by simpa using a1), if_neg (by simpa using a2), if_neg (by simpa using a3), if_neg (by simpa using a4), nth_getI hp, Option.bind_some]
  by_cases hl : (getI n.ports p).link < 0
  · rw [if_pos (decide_eq_true hl)]
  have ho := othI_link hr hp (by omega)
  have hO := othI_othP ho
  have hbare := hr.bare d hd
  rw [if_neg (by simpa using hl)]
  unfold leave_Link
  rw [links_Other_spec hs]
  simp only [Option.bind_some]
  rw [if_neg (show ¬ decide (othI n p < 0) = true from by simp; omega), nth_getI hd]
  simp only [Option.bind_some, links_Domain_spec hs hr]
  have hmem : MemP (getI n.ports p) (getI n.domains d).vlan := hin.2
  have hcr : (crossI n p (getI n.domains d).vlan) = if toI n p (othI n p) (getI n.domains d).vlan ≠ 0 then (othI n p, toI n p (othI n p) (getI n.domains d).vlan, true) else (0, 0, false) := by
    unfold crossI
    by_cases h : toI n p (othI n p) (getI n.domains d).vlan ≠ 0
    · rw [if_pos ⟨ho, hmem, h⟩, if_pos h]
    · rw [if_neg (fun q => h q.2.2), if_neg h]
  have same : ∀ l : List Int, ether_Same f ⟨f.dst, f.src, f.type_, f.body⟩ = some true := fun _ => by simp [ether_Same, seqB_self]
  by_cases cv : (getI n.domains d).vlan = (getI n.ports p).native
  · have hat : atS n p d f = putE f := by
      unfold atS
      rw [if_neg (not_not.2 ⟨hr, hp, hd⟩), if_neg (not_not.2 hin), if_neg hty, if_pos cv]
    rw [hat] at c1 ⊢
    obtain ⟨_, b1, b2, b3, b4, b5⟩ := putE_len c1
    rw [putE_mk c1, enter_bare hs hr hO.iq ⟨hds.1, b3⟩ ⟨hss.1, b4⟩ ⟨b1, b2⟩ b5 hB hty hgr]
    have hto : toI n p (othI n p) (getI n.domains d).vlan = (getI n.ports (othI n p)).native := by unfold toI; rw [if_pos cv]
    rw [hcr, hto]
    by_cases c0 : (getI n.ports (othI n p)).native = 0
    · simp [c0]
    · simp [c0, same f.body]
  · have hv : 1 ≤ (getI n.domains d).vlan ∧ (getI n.domains d).vlan ≤ 4094 := ⟨hbare.2.1, hbare.2.2.1⟩
    have hto : toI n p (othI n p) (getI n.domains d).vlan = if (getI n.domains d).vlan ∈ (getI n.ports (othI n p)).tagged then (getI n.domains d).vlan else 0 := by unfold toI; rw [if_neg cv]
    have hts : (tagS f (getI n.domains d).vlan).2.2.2.2 = 0 := by
      apply Classical.byContradiction; intro h
      unfold atS at c1; rw [if_neg (not_not.2 ⟨hr, hp, hd⟩), if_neg (not_not.2 hin), if_neg hty, if_neg cv, if_pos h] at c1; exact h c1
    have hat : atS n p d f = putE ⟨(tagS f (getI n.domains d).vlan).2.1, (tagS f (getI n.domains d).vlan).2.2.1, (tagS f (getI n.domains d).vlan).2.2.2.1, (tagS f (getI n.domains d).vlan).1⟩ := by
      unfold atS
      rw [if_neg (not_not.2 ⟨hr, hp, hd⟩), if_neg (not_not.2 hin), if_neg hty, if_neg cv, if_neg (not_not.2 hts)]
    have ht2 : (0 ≤ f.type_ ∧ f.type_ ≤ 65535) ∧ f.body.length ≤ 1500 ∧ tagS f (getI n.domains d).vlan = ([(getI n.domains d).vlan / 256 % 256, (getI n.domains d).vlan % 256, f.type_ / 256 % 256, f.type_ % 256] ++ f.body, f.dst, f.src, 33024, 0) := by
      unfold tagS at hts ⊢
      split at hts
      · cases hts
      rename_i h1
      split at hts
      · cases hts
      rename_i h2
      split at hts
      · cases hts
      rename_i h3
      rw [if_neg h1, if_neg h2, if_neg h3]
      exact ⟨by omega, by omega, rfl⟩
    obtain ⟨t1, t2, t3⟩ := ht2
    rw [t3] at hat
    simp only at hat
    rw [hat] at c1 ⊢
    obtain ⟨_, b1, b2, b3, b4, b5⟩ := putE_len c1
    rw [putE_mk c1, enter_tagged hs hr hO.iq ⟨hds.1, b3⟩ ⟨hss.1, b4⟩ t1 hty hv t2 hB hgr, hcr, hto]
    by_cases c0 : (getI n.domains d).vlan ∈ (getI n.ports (othI n p)).tagged
    · have hv0 : (getI n.domains d).vlan ≠ 0 := by omega
      simp [c0, hv0, same f.body, hto]
    · simp [c0]
end
end Go.Eng
