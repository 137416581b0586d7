/- Plain laws of chapter 20 (vrfs): what leaks, and whose an address is, as the document has it. -/
import Derived.Test.YtgemllooojijnaaGreatEngP20
import Derived.Test.YtgemllooojijnaaGreatEngR15
set_option linter.unusedVariables false
set_option linter.unusedSectionVars false
set_option linter.unusedSimpArgs false
namespace Go.Eng
open Go Classical
attribute [local congr] ite_cg
section
variable {n : Api_Net}
def LeakP (n : Api_Net) (a b : Int) : Prop := inL n.vrfs a ∧ inL n.vrfs b ∧ (a = b ∨ ((getI n.vrfs a).dev = (getI n.vrfs b).dev ∧ ∃ x ∈ (getI n.vrfs a).exports, x ∈ (getI n.vrfs b).imports))
theorem leaks_fn {l : List Int} {v : Api_Vrf} (hl : Few l) (hv : Few v.imports) : slices_ContainsFunc_int_Leaks_1 l v = some (decide (∃ x ∈ l, x ∈ v.imports)) := by
  have h : slices_IndexFunc_int_Leaks_1 l v = some (fstI l fun x => x ∈ v.imports) := by
    unfold slices_IndexFunc_int_Leaks_1
    rw [loop_first l (fun x => x ∈ v.imports) hl (fun i h0 h1 h2 => by
      simp (disch := omega) only [slices_IndexFunc_int_Leaks_1_L1, vrfs_Leaks_1, Contains_int_spec hv, h1, nth_getI h2, wr64, bind_ite, Option.bind_some, dif1, dif2, dif3, dif4, dif5, dif6, dif7, dnot, ibeq, ibne, decide_eq_true_eq, if_not2, ge_iff_le, gt_iff_lt, fst_ret, Bool.false_eq_true, decide_false, mrg1, mrg2, mrg3, mrg4, mrg5, mrg6, mrg7, decide_true, if_true]; first | exact fpos Iff.rfl | (split <;> rfl)) (by simp [slices_IndexFunc_int_Leaks_1_L1])]
    simp only [bind_ite, Option.bind_some, dif1, dif2, dif3, dif4, dif5, dif6, dif7, dnot, ibeq, ibne, decide_eq_true_eq, if_not2, ge_iff_le, gt_iff_lt, fst_ret, Bool.false_eq_true, decide_false]
  unfold slices_ContainsFunc_int_Leaks_1
  rw [h]
  simp only [bind_ite, Option.bind_some, dif1, dif2, dif3, dif4, dif5, dif6, dif7, dnot, ibeq, ibne, decide_eq_true_eq, if_not2, ge_iff_le, gt_iff_lt, fst_ret, Bool.false_eq_true, decide_false]
  refine sdec ?_
  have := fstI_none_mem (l := l) (P := fun x => x ∈ v.imports)
  constructor
  · intro h
    apply Classical.byContradiction
    intro hn
    have := this.2 (fun y hy e => hn ⟨y, hy, e⟩); omega
  · rintro ⟨x, hx, hx2⟩
    apply Classical.byContradiction
    intro hn
    exact this.1 (by omega) x hx hx2
theorem vrfs_Leaks_spec (hs : SmN n) {a b : Int} : vrfs_Leaks n a b = some (decide (RightP n ∧ LeakP n a b)) := by
  unfold vrfs_Leaks
  by_cases c1 : a < 0
  · rw [if_pos (decide_eq_true c1), decide_eq_false (fun h => by have := h.2.1.1; omega)]
  rw [if_neg (by simpa using c1)]
  by_cases c2 : b < 0
  · rw [if_pos (decide_eq_true c2), decide_eq_false (fun h => by have := h.2.2.1.1; omega)]
  rw [if_neg (by simpa using c2)]
  by_cases c3 : a ≥ (n.vrfs.length : Int)
  · rw [if_pos (decide_eq_true c3), decide_eq_false (fun h => by have := h.2.1.2; omega)]
  rw [if_neg (by simpa using c3)]
  by_cases c4 : b ≥ (n.vrfs.length : Int)
  · rw [if_pos (decide_eq_true c4), decide_eq_false (fun h => by have := h.2.2.1.2; omega)]
  rw [if_neg (by simpa using c4), names_Right_spec hs, Option.bind_some]
  by_cases hr : RightP n
  case neg => rw [if_pos (by simpa using hr), decide_eq_false (fun h => hr h.1)]
  have ha : inL n.vrfs a := ⟨by omega, by omega⟩
  have hb : inL n.vrfs b := ⟨by omega, by omega⟩
  rw [if_neg (by simpa using hr), nth_getI ha, Option.bind_some, nth_getI hb, Option.bind_some, leaks_fn (hs.exports _ (getI_mem ha)) (hs.imports _ (getI_mem hb))]
  by_cases c5 : a = b
  · rw [if_pos (by simpa using c5), decide_eq_true ⟨hr, ha, hb, .inl c5⟩]
  rw [if_neg (by simpa using c5)]
  by_cases c6 : (getI n.vrfs a).dev = (getI n.vrfs b).dev
  · rw [if_pos (by simpa using c6), Option.bind_some]
    exact sdec ⟨fun h => ⟨hr, ha, hb, .inr ⟨c6, h⟩⟩, fun h => (h.2.2.2.resolve_left c5).2⟩
  · rw [if_neg (by simpa using c6), decide_eq_false (fun h => c6 (h.2.2.2.resolve_left c5).1)]
theorem rLeaks_spec (hs : SmN n) {a b : Int} : palingref20_Leaks n a b = some (decide (LeakP n a b)) := by
  unfold palingref20_Leaks
  rw [rPlace_spec, Option.bind_some]
  by_cases ha : inL n.vrfs a
  case neg => rw [if_pos (by simpa using ha), decide_eq_false (fun h => ha h.1)]
  rw [if_neg (by simpa using ha), rPlace_spec, Option.bind_some]
  by_cases hb : inL n.vrfs b
  case neg => rw [if_pos (by simpa using hb), decide_eq_false (fun h => hb h.2.1)]
  rw [if_neg (by simpa using hb)]
  by_cases c5 : a = b
  · rw [if_pos (by simpa using c5), decide_eq_true ⟨ha, hb, .inl c5⟩]
  rw [if_neg (by simpa using c5)]
  have fe := hs.exports _ (getI_mem ha)
  have fi := hs.imports _ (getI_mem hb)
  have hloop : loopM (palingref20_Leaks_L1 n a b) 0 = if EachP (getI n.vrfs a).exports (fun _ x => ¬ ((getI n.vrfs a).dev = (getI n.vrfs b).dev ∧ x ∈ (getI n.vrfs b).imports)) then some (Sum.inr () : Unit ⊕ Unit) else some (Sum.inl ()) :=
    loop_each (getI n.vrfs a).exports (fun _ x => ¬ ((getI n.vrfs a).dev = (getI n.vrfs b).dev ∧ x ∈ (getI n.vrfs b).imports)) (Sum.inl () : Unit ⊕ Unit) (Sum.inr () : Unit ⊕ Unit) fe (fun i h0 h1 h2 => by
      have hw := wr64 (n := i + 1) (by omega) (by unfold Few at fe; omega)
      simp only [palingref20_Leaks_L1, nth_getI ha, nth_getI hb, h1, nth_getI h2, rIn_spec fi, hw, decide_true, if_true, Option.bind_some]
      by_cases c6 : (getI n.vrfs a).dev = (getI n.vrfs b).dev
      · by_cases c7 : getI (getI n.vrfs a).exports i ∈ (getI n.vrfs b).imports <;> simp [c6, c7]
      · simp [c6]) (by simp [palingref20_Leaks_L1, nth_getI ha])
  rw [hloop]
  by_cases hE : EachP (getI n.vrfs a).exports (fun _ x => ¬ ((getI n.vrfs a).dev = (getI n.vrfs b).dev ∧ x ∈ (getI n.vrfs b).imports))
  · rw [if_pos hE, decide_eq_false (fun h => by
      obtain ⟨c6, x, hx, hx2⟩ := h.2.2.resolve_left c5
      exact eachP_mem.1 hE x hx ⟨c6, hx2⟩)]
    rfl
  · rw [if_neg hE, decide_eq_true]
    · rfl
    · refine ⟨ha, hb, .inr ?_⟩
      apply Classical.byContradiction
      intro hn
      exact hE (eachP_mem.2 fun x hx h => hn ⟨h.1, x, hx, h.2⟩)
theorem rHost_spec {a : Int} (h0 : 0 ≤ a) (h1 : a < 4294967296) : palingref01_Host a = some (2199023255552 + a) := by
  unfold palingref01_Host
  rw [wr64u h0 (by omega), wr64u (by omega) (by omega)]
theorem rRouter_spec (hs : SmN n) (hn : n.Ok) (hr : RightP n) {d m : Int} : palingref20_Router n d m =
    some (if RightP n ∧ inL n.domains d ∧ 0 ≤ (getI n.domains d).irb ∧ 2199023255552 + (getI n.irbs (getI n.domains d).irb).net.addr = m then ((getI n.domains d).irb, true) else (0, false)) := by
  have hfi := hs.irbs
  have hloop : palingref20_Router n d m = some (if 0 ≤ fstI n.irbs (fun x => x.domain = d ∧ 2199023255552 + x.net.addr = m) then (fstI n.irbs (fun x => x.domain = d ∧ 2199023255552 + x.net.addr = m), true) else (0, false)) := by
    unfold palingref20_Router
    rw [loop_first n.irbs (fun x => x.domain = d ∧ 2199023255552 + x.net.addr = m) hs.irbs (fun i h0 h1 h2 => by
      have ho : okI .u32 (getI n.irbs i).net.addr := (hn.2.2.2.2.2.2.2.1.2 _ (getI_mem h2)).2.2.2.1.1
      have o0 : (0 : Int) ≤ (getI n.irbs i).net.addr := ho.1
      have o1 : (getI n.irbs i).net.addr ≤ 4294967295 := ho.2
      have hw := wr64 (n := i + 1) (by omega) (by unfold Few at hfi; omega)
      simp only [palingref20_Router_L1, h1, nth_getI h2, rHost_spec o0 (by omega : (getI n.irbs i).net.addr < 4294967296), hw, decide_true, if_true, Option.bind_some]
      by_cases c1 : (getI n.irbs i).domain = d <;> by_cases c2 : 2199023255552 + (getI n.irbs i).net.addr = m <;> simp [c1, c2]) (by simp [palingref20_Router_L1])]
    split <;> simp_all
  rw [hloop]
  congr 1
  by_cases hc : RightP n ∧ inL n.domains d ∧ 0 ≤ (getI n.domains d).irb ∧ 2199023255552 + (getI n.irbs (getI n.domains d).irb).net.addr = m
  · rw [if_pos hc]
    obtain ⟨_, hd, hi, hm⟩ := hc
    have hii : inL n.irbs (getI n.domains d).irb ∧ (getI n.irbs (getI n.domains d).irb).domain = d := by
      rcases (hr.bare d hd).2.2.2.2.2.1 with e | e
      · omega
      · exact e
    have : fstI n.irbs (fun x => x.domain = d ∧ 2199023255552 + x.net.addr = m) = (getI n.domains d).irb := by
      refine (fstI_eq hii.1).2 ⟨⟨hii.2, hm⟩, fun j hj hlt hp => ?_⟩
      have := (hr.irbs j hj).2.2.2.1
      rw [hp.1] at this
      omega
    rw [this, if_pos hi]
  · rw [if_neg hc, if_neg]
    intro h
    have hin := fstI_inL.1 h
    have hp := fstI_is h
    obtain ⟨q1, q2, q3, q4, q5⟩ := hr.irbs _ hin
    rw [hp.1] at q1 q4
    refine hc ⟨hr, q1, by omega, ?_⟩
    rw [q4]; exact hp.2
theorem vrfsTells (n : Api_Net) (a b m : Int) (hn : n.Ok) (_ : okI .i64 a) (_ : okI .i64 b) (_ : okI .u64 m) : palinglaw20_VrfsTells n a b m = some true := by
  unfold palinglaw20_VrfsTells
  rw [Great_spec, works20, Option.bind_some]
  by_cases hg : BndN n 200 100
  case neg => simp [hg]
  rw [if_neg (by simp [hg])]
  have hs := hg.sm
  rw [vrfs_Leaks_spec hs, router_spec hs hn, rRight_spec hs]
  simp only [Option.bind_some]
  by_cases hr : RightP n
  case neg =>
    simp [hr]
  rw [if_neg (by simpa using hr), rRouter_spec hs hn hr, rLeaks_spec hs]
  simp only [Option.bind_some, hr, true_and, beq_self_eq_true, if_true]
end
end Go.Eng
