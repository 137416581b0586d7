/- The plain law of NamesPorts. -/
import Derived.Test.YtlhijokgjllkpaaEngP15
set_option linter.unusedVariables false
set_option linter.unusedSectionVars false
set_option linter.unusedSimpArgs false
namespace Go.Eng
open Go Classical
attribute [local congr] ite_cg
variable {n : Api_Net}

theorem RightP.vlan (h : RightP n) {i : Int} (hi : inL n.ports i) {v : Int} (hv : v ∈ (getI n.ports i).tagged ∨ ((getI n.ports i).native ≠ 0 ∧ v = (getI n.ports i).native)) :
    v ≠ 0 ∧ MemP (getI n.ports i) v ∧ inL n.domains (domIx n.domains (getI n.ports i).dev v) ∧ InDom n (domIx n.domains (getI n.ports i).dev v) (getI n.ports i) := by
  have hp := h.ports i hi
  have hm : MemP (getI n.ports i) v ∧ 0 ≤ domIx n.domains (getI n.ports i).dev v := by
    rcases hv with hv | ⟨h0, rfl⟩
    · refine ⟨⟨?_, .inr hv⟩, hp.2.2.2.2.2.2.1 v hv⟩
      rcases hp.2.2.2.1 with e | e
      · rw [e] at hv; cases hv
      · obtain ⟨j, hj, rfl⟩ := mem_getI hv
        have := (e.1 j hj).1
        omega
    · exact ⟨⟨h0, .inl rfl⟩, hp.2.2.2.2.2.2.2.1 (by have := hp.2.1; omega)⟩
  have hd : inL n.domains (domIx n.domains (getI n.ports i).dev v) := fstI_inL.1 hm.2
  have he := fstI_is hm.2
  refine ⟨hm.1.1, hm.1, hd, ?_⟩
  unfold InDom
  unfold domIx
  rw [he.1, he.2]
  exact ⟨rfl, hm.1⟩

theorem L35_spec {g : Bool × Int → Option ((Bool × Int) ⊕ Bool)} {i : Int} {r : List Int} (hr : Few r)
    (hg : ∀ b v, g (b, v) = if (decide (v < (r.length : Int))) = true then (nth r v).bind fun x30 => if b = true then some (Sum.inl (true, wr_i64 (v + 1))) else some (Sum.inl (x30 == i, wr_i64 (v + 1))) else some (Sum.inr b)) :
    loopM g (false, 0) = some (decide (i ∈ r)) := by
  rw [loop_any r (fun _ x => x = i) (out := id) hr (fun j b h0 h1 h2 => by
    simp (disch := omega) only [hg, h1, nth_getI h2, wr64, bind_ite, Option.bind_some, dif1, dif2, dif3, dif4, dif5, dif6, dif7, dnot, ibeq, ibne, decide_eq_true_eq, if_not2, ge_iff_le, gt_iff_lt, fst_ret, decide_true, if_true]
    cases b <;> simp) (fun b => by simp [hg])]
  simp only [any_mem]; rfl

theorem L2_spec (hs : SmN n) (h : RightP n) {i : Int} (hi : inL n.ports i) {f : Int → Option (Int ⊕ (Unit ⊕ Unit))} {all : List Int} (hall : Few all)
    (hsub : ∀ v ∈ all, v ∈ (getI n.ports i).tagged ∨ ((getI n.ports i).native ≠ 0 ∧ v = (getI n.ports i).native))
    (hf : (all = ([] ++ (getI n.ports i).tagged) ++ [(getI n.ports i).native] ∧ f = palinglaw15_NamesPorts_L2 n i (getI n.ports i)) ∨ (all = [] ++ (getI n.ports i).tagged ∧ f = palinglaw15_NamesPorts_L4 n i (getI n.ports i))) :
    loopM f 0 = some (.inr ()) := by
  have key : ∀ k : Int, 0 ≤ k → k < all.length → inL all k → f k = some (.inl (k + 1)) := by
    intro k h0 h1 h2
    have hv := h.vlan hi (hsub _ (getI_mem h2))
    have hmem : i ∈ membersL n (domIx n.domains (getI n.ports i).dev (getI all k)) := mem_gatherI.2 ⟨i, hi, hv.2.2.2, rfl⟩
    have hlen : Few (membersL n (domIx n.domains (getI n.ports i).dev (getI all k))) := by
      have := gatherI_len (l := n.ports) (P := fun _ p => InDom n (domIx n.domains (getI n.ports i).dev (getI all k)) p) (e := fun i _ => i)
      have := hs.ports
      unfold membersL; omega
    have hM := names_Members_spec hs (k := domIx n.domains (getI n.ports i).dev (getI all k))
    rw [if_pos ⟨h, hv.2.2.1⟩] at hM
    have hD := names_Domain_spec hs (a := (getI n.ports i).dev) (b := getI all k)
    rw [if_pos h] at hD
    have hb : Few (getI n.ports i).tagged := hs.tagged _ (getI_mem hi)
    have hw := wr64 (n := k + 1) (by omega) (by omega)
    rcases hf with ⟨rfl, rfl⟩ | ⟨rfl, rfl⟩
    · simp only [palinglaw15_NamesPorts_L2, h1, lin_dec, h2, getI_get? h2, hD, hM, Option.bind_some, decide_true, if_true]
      rw [L35_spec hlen (i := i) (fun b v => rfl)]
      simp only [hmem, Member_spec hb, hv.2.1, hw, Option.bind_some, decide_true, Bool.not_true, Bool.false_eq_true, if_false]
    · simp only [palinglaw15_NamesPorts_L4, h1, lin_dec, h2, getI_get? h2, hD, hM, Option.bind_some, decide_true, if_true]
      rw [L35_spec hlen (i := i) (fun b v => rfl)]
      simp only [hmem, Member_spec hb, hv.2.1, hw, Option.bind_some, decide_true, Bool.not_true, Bool.false_eq_true, if_false]
  exact loop_pass all (.inr ()) hall key (by rcases hf with ⟨rfl, rfl⟩ | ⟨rfl, rfl⟩ <;> simp [palinglaw15_NamesPorts_L2, palinglaw15_NamesPorts_L4])

theorem namesPorts (n : Api_Net) (_ : n.Ok) : palinglaw15_NamesPorts n = some true := by
  simp only [palinglaw15_NamesPorts, works15, Great_spec, bind_ite, Option.bind_some, dif1, dif2, dif3, dif4, dif5, dif6, dif7, dnot, ibeq, ibne, decide_eq_true_eq, if_not2, ge_iff_le, gt_iff_lt, fst_ret]
  by_cases hg : BndN n 200 100
  case neg => simp [hg]
  have hs := hg.sm
  simp only [names_Right_spec hs, bind_ite, Option.bind_some, dif1, dif2, dif3, dif4, dif5, dif6, dif7, dnot, ibeq, ibne, decide_eq_true_eq, if_not2, ge_iff_le, gt_iff_lt, fst_ret]
  by_cases hr : RightP n
  case neg => simp [hr]
  simp only [hg, hr, if_true]
  rw [loop_pass n.ports (.inr ()) hs.ports (fun i h0 h1 h2 => by
      have hb := hg.tagged _ (getI_mem h2)
      have hw := wr64 (n := i + 1) (by omega) (by have := hg.ports; omega)
      have r1 : roomy 8 ([] ++ (getI n.ports i).tagged) = true := roomy_few (by simp; omega)
      have r2 : roomy 8 (([] ++ (getI n.ports i).tagged) ++ [(getI n.ports i).native]) = true := roomy_few (by simp; omega)
      simp only [palinglaw15_NamesPorts_L1, h1, nth_getI h2, r1, r2, bind_ite, Option.bind_some, dif1, dif2, dif3, dif4, dif5, dif6, dif7, dnot, ibeq, ibne, decide_eq_true_eq, if_not2, ge_iff_le, gt_iff_lt, fst_ret, decide_true, if_true]
      by_cases hn : (getI n.ports i).native = 0
      case neg =>
        rw [if_neg hn, L2_spec hs hr h2 (all := ([] ++ (getI n.ports i).tagged) ++ [(getI n.ports i).native]) (by simp [Few]; omega) (by intro v hv; simp at hv; rcases hv with hv | hv; exact .inl hv; exact .inr ⟨hn, hv⟩) (.inl ⟨rfl, rfl⟩)]
        simp [hw]
      · rw [if_pos hn, L2_spec hs hr h2 (all := [] ++ (getI n.ports i).tagged) (by simp [Few]; omega) (by intro v hv; simp at hv; exact .inl hv) (.inr ⟨rfl, rfl⟩)]
        simp [hw]) (by simp [palinglaw15_NamesPorts_L1])]
  simp only [Option.bind_some]
  rw [loop_pass n.links (.inr ()) hs.links (fun i h0 h1 h2 => by
      have hl := hr.links i h2
      have ha := hl.1; have hb := hl.2.1; have hc := hl.2.2
      have hw := wr64 (n := i + 1) (by omega) (by have := hg.links; omega)
      have a1 := ha.1; have a2 := ha.2; have b1 := hb.1; have b2 := hb.2
      simp only [palinglaw15_NamesPorts_L6, h1, nth_getI h2, nth_getI ha, nth_getI hb, hw, bind_ite, Option.bind_some, dif1, dif2, dif3, dif4, dif5, dif6, dif7, dnot, ibeq, ibne, decide_eq_true_eq, if_not2, ge_iff_le, gt_iff_lt, fst_ret, decide_true, if_true]
      grind) (by simp [palinglaw15_NamesPorts_L6])]
  simp
end Go.Eng
