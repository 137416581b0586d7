/- Plain laws of chapter 15: nets held against one another, and copies. -/
import Derived.Test.YtlinloabahbioaaEngP15
import Derived.Test.YtlinloabahbioaaEngPE
set_option linter.unusedVariables false
set_option linter.unusedSectionVars false
set_option linter.unusedSimpArgs false
namespace Go.Eng
open Go Classical
attribute [local congr] ite_cg
theorem eqDevice_dec {x y : Api_Device} : eq_Api_Device x y = decide (x = y) := by
  unfold eq_Api_Device; rw [seqB_dec, Bool.eq_iff_iff]; cases x; cases y; simp
theorem eqLink_dec {x y : Api_Link} : eq_Api_Link x y = decide (x = y) := by
  unfold eq_Api_Link; rw [Bool.eq_iff_iff]; cases x; cases y; simp
theorem eqStatic_dec {x y : Api_Static} : eq_Api_Static x y = decide (x = y) := by
  unfold eq_Api_Static; rw [Bool.eq_iff_iff]; cases x; cases y; simp
theorem eqPrefix_dec {x y : Api_Prefix} : eq_Api_Prefix x y = decide (x = y) := by
  unfold eq_Api_Prefix; rw [Bool.eq_iff_iff]; cases x; cases y; simp
theorem eqIrb_dec {x y : Api_Irb} : eq_Api_Irb x y = decide (x = y) := by
  unfold eq_Api_Irb; rw [eqPrefix_dec, Bool.eq_iff_iff]; cases x; cases y; simp
theorem port_eq {x y : Api_Port} : x = y ↔ x.row = y.row ∧ x.dev = y.dev ∧ x.native = y.native ∧ x.cost = y.cost ∧ x.link = y.link ∧ x.name = y.name ∧ x.tagged = y.tagged := by cases x; cases y; simp
theorem domain_eq {x y : Api_Domain} : x = y ↔ x.dev = y.dev ∧ x.vlan = y.vlan ∧ x.vni = y.vni ∧ x.irb = y.irb ∧ x.row = y.row ∧ x.peers = y.peers := by cases x; cases y; simp
theorem flood_eq {x y : Api_Flood} : x = y ↔ x.row = y.row ∧ x.dev = y.dev ∧ x.vni = y.vni ∧ x.addrs = y.addrs := by cases x; cases y; simp
theorem vrf_eq {x y : Api_Vrf} : x = y ↔ x.row = y.row ∧ x.dev = y.dev ∧ x.name = y.name ∧ x.imports = y.imports ∧ x.exports = y.exports := by cases x; cases y; simp
theorem net_eq {x y : Api_Net} : x = y ↔ x.devices = y.devices ∧ x.ports = y.ports ∧ x.links = y.links ∧ x.domains = y.domains ∧ x.statics = y.statics ∧ x.floods = y.floods ∧ x.vrfs = y.vrfs ∧ x.irbs = y.irbs := by cases x; cases y; simp

section
theorem Equal_Device_spec {l r : List Api_Device} (hb : Few l) : slices_Equal_Device l r = some (decide (l = r)) := by
  by_cases hl : l.length = r.length
  · have hli : ¬ ((l.length : Int) ≠ (r.length : Int)) := by omega
    simp only [slices_Equal_Device, ibne, decide_eq_true_eq, if_neg hli]
    rw [loop_eq l r hl hb (fun i h0 h1 h2 h3 => by
      simp (disch := omega) only [slices_Equal_Device_L1, h1, nth_getI h2, nth_getI h3, eqDevice_dec, wr64, bind_ite, Option.bind_some, dif1, dif2, dif3, dif4, dif5, dif6, dif7, dnot, ibeq, ibne, decide_eq_true_eq, if_not2, ge_iff_le, gt_iff_lt, fst_ret, Bool.false_eq_true, decide_false, mrg1, mrg2, mrg3, mrg4, mrg5, mrg6, mrg7, decide_true, if_true]; exact fpos Iff.rfl) (by simp [slices_Equal_Device_L1])]
    simp only [bind_ite, Option.bind_some, dif1, dif2, dif3, dif4, dif5, dif6, dif7, dnot, ibeq, ibne, decide_eq_true_eq, if_not2, ge_iff_le, gt_iff_lt, fst_ret, Bool.false_eq_true, decide_false]
  · have hli : ((l.length : Int) ≠ (r.length : Int)) := by omega
    have : ¬ l = r := fun e => hl (by rw [e])
    simp [slices_Equal_Device, hli, this]
theorem Equal_Link_spec {l r : List Api_Link} (hb : Few l) : slices_Equal_Link l r = some (decide (l = r)) := by
  by_cases hl : l.length = r.length
  · have hli : ¬ ((l.length : Int) ≠ (r.length : Int)) := by omega
    simp only [slices_Equal_Link, ibne, decide_eq_true_eq, if_neg hli]
    rw [loop_eq l r hl hb (fun i h0 h1 h2 h3 => by
      simp (disch := omega) only [slices_Equal_Link_L1, h1, nth_getI h2, nth_getI h3, eqLink_dec, wr64, bind_ite, Option.bind_some, dif1, dif2, dif3, dif4, dif5, dif6, dif7, dnot, ibeq, ibne, decide_eq_true_eq, if_not2, ge_iff_le, gt_iff_lt, fst_ret, Bool.false_eq_true, decide_false, mrg1, mrg2, mrg3, mrg4, mrg5, mrg6, mrg7, decide_true, if_true]; exact fpos Iff.rfl) (by simp [slices_Equal_Link_L1])]
    simp only [bind_ite, Option.bind_some, dif1, dif2, dif3, dif4, dif5, dif6, dif7, dnot, ibeq, ibne, decide_eq_true_eq, if_not2, ge_iff_le, gt_iff_lt, fst_ret, Bool.false_eq_true, decide_false]
  · have hli : ((l.length : Int) ≠ (r.length : Int)) := by omega
    have : ¬ l = r := fun e => hl (by rw [e])
    simp [slices_Equal_Link, hli, this]
theorem Equal_Static_spec {l r : List Api_Static} (hb : Few l) : slices_Equal_Static l r = some (decide (l = r)) := by
  by_cases hl : l.length = r.length
  · have hli : ¬ ((l.length : Int) ≠ (r.length : Int)) := by omega
    simp only [slices_Equal_Static, ibne, decide_eq_true_eq, if_neg hli]
    rw [loop_eq l r hl hb (fun i h0 h1 h2 h3 => by
      simp (disch := omega) only [slices_Equal_Static_L1, h1, nth_getI h2, nth_getI h3, eqStatic_dec, wr64, bind_ite, Option.bind_some, dif1, dif2, dif3, dif4, dif5, dif6, dif7, dnot, ibeq, ibne, decide_eq_true_eq, if_not2, ge_iff_le, gt_iff_lt, fst_ret, Bool.false_eq_true, decide_false, mrg1, mrg2, mrg3, mrg4, mrg5, mrg6, mrg7, decide_true, if_true]; exact fpos Iff.rfl) (by simp [slices_Equal_Static_L1])]
    simp only [bind_ite, Option.bind_some, dif1, dif2, dif3, dif4, dif5, dif6, dif7, dnot, ibeq, ibne, decide_eq_true_eq, if_not2, ge_iff_le, gt_iff_lt, fst_ret, Bool.false_eq_true, decide_false]
  · have hli : ((l.length : Int) ≠ (r.length : Int)) := by omega
    have : ¬ l = r := fun e => hl (by rw [e])
    simp [slices_Equal_Static, hli, this]
theorem Equal_Irb_spec {l r : List Api_Irb} (hb : Few l) : slices_Equal_Irb l r = some (decide (l = r)) := by
  by_cases hl : l.length = r.length
  · have hli : ¬ ((l.length : Int) ≠ (r.length : Int)) := by omega
    simp only [slices_Equal_Irb, ibne, decide_eq_true_eq, if_neg hli]
    rw [loop_eq l r hl hb (fun i h0 h1 h2 h3 => by
      simp (disch := omega) only [slices_Equal_Irb_L1, h1, nth_getI h2, nth_getI h3, eqIrb_dec, wr64, bind_ite, Option.bind_some, dif1, dif2, dif3, dif4, dif5, dif6, dif7, dnot, ibeq, ibne, decide_eq_true_eq, if_not2, ge_iff_le, gt_iff_lt, fst_ret, Bool.false_eq_true, decide_false, mrg1, mrg2, mrg3, mrg4, mrg5, mrg6, mrg7, decide_true, if_true]; exact fpos Iff.rfl) (by simp [slices_Equal_Irb_L1])]
    simp only [bind_ite, Option.bind_some, dif1, dif2, dif3, dif4, dif5, dif6, dif7, dnot, ibeq, ibne, decide_eq_true_eq, if_not2, ge_iff_le, gt_iff_lt, fst_ret, Bool.false_eq_true, decide_false]
  · have hli : ((l.length : Int) ≠ (r.length : Int)) := by omega
    have : ¬ l = r := fun e => hl (by rw [e])
    simp [slices_Equal_Irb, hli, this]
theorem Equal_int_spec {l r : List Int} (hb : Few l) : slices_Equal_int l r = some (decide (l = r)) := by
  by_cases hl : l.length = r.length
  · have hli : ¬ ((l.length : Int) ≠ (r.length : Int)) := by omega
    simp only [slices_Equal_int, ibne, decide_eq_true_eq, if_neg hli]
    rw [loop_eq l r hl hb (fun i h0 h1 h2 h3 => by
      simp (disch := omega) only [slices_Equal_int_L1, h1, nth_getI h2, nth_getI h3, wr64, bind_ite, Option.bind_some, dif1, dif2, dif3, dif4, dif5, dif6, dif7, dnot, ibeq, ibne, decide_eq_true_eq, if_not2, ge_iff_le, gt_iff_lt, fst_ret, Bool.false_eq_true, decide_false, mrg1, mrg2, mrg3, mrg4, mrg5, mrg6, mrg7, decide_true, if_true]; exact fpos Iff.rfl) (by simp [slices_Equal_int_L1])]
    simp only [bind_ite, Option.bind_some, dif1, dif2, dif3, dif4, dif5, dif6, dif7, dnot, ibeq, ibne, decide_eq_true_eq, if_not2, ge_iff_le, gt_iff_lt, fst_ret, Bool.false_eq_true, decide_false]
  · have hli : ((l.length : Int) ≠ (r.length : Int)) := by omega
    have : ¬ l = r := fun e => hl (by rw [e])
    simp [slices_Equal_int, hli, this]
theorem Equal_uint32_spec {l r : List Int} (hb : Few l) : slices_Equal_uint32 l r = some (decide (l = r)) := by
  by_cases hl : l.length = r.length
  · have hli : ¬ ((l.length : Int) ≠ (r.length : Int)) := by omega
    simp only [slices_Equal_uint32, ibne, decide_eq_true_eq, if_neg hli]
    rw [loop_eq l r hl hb (fun i h0 h1 h2 h3 => by
      simp (disch := omega) only [slices_Equal_uint32_L1, h1, nth_getI h2, nth_getI h3, wr64, bind_ite, Option.bind_some, dif1, dif2, dif3, dif4, dif5, dif6, dif7, dnot, ibeq, ibne, decide_eq_true_eq, if_not2, ge_iff_le, gt_iff_lt, fst_ret, Bool.false_eq_true, decide_false, mrg1, mrg2, mrg3, mrg4, mrg5, mrg6, mrg7, decide_true, if_true]; exact fpos Iff.rfl) (by simp [slices_Equal_uint32_L1])]
    simp only [bind_ite, Option.bind_some, dif1, dif2, dif3, dif4, dif5, dif6, dif7, dnot, ibeq, ibne, decide_eq_true_eq, if_not2, ge_iff_le, gt_iff_lt, fst_ret, Bool.false_eq_true, decide_false]
  · have hli : ((l.length : Int) ≠ (r.length : Int)) := by omega
    have : ¬ l = r := fun e => hl (by rw [e])
    simp [slices_Equal_uint32, hli, this]
theorem EF_Port_spec {l r : List Api_Port} (hb : Few l) (ht : ∀ p ∈ l, Few p.tagged) : slices_EqualFunc_Port_Same_1 l r = some (decide (l = r)) := by
  by_cases hl : l.length = r.length
  · have hli : ¬ ((l.length : Int) ≠ (r.length : Int)) := by omega
    simp only [slices_EqualFunc_Port_Same_1, ibne, decide_eq_true_eq, if_neg hli]
    rw [loop_eq l r hl hb (fun i h0 h1 h2 h3 => by
      simp (disch := omega) only [slices_EqualFunc_Port_Same_1_L1, names_Same_1, h1, nth_getI h2, nth_getI h3, seqB_dec, Equal_int_spec (ht _ (getI_mem h2)), wr64, bind_ite, Option.bind_some, dif1, dif2, dif3, dif4, dif5, dif6, dif7, dnot, ibeq, ibne, decide_eq_true_eq, if_not2, ge_iff_le, gt_iff_lt, fst_ret, Bool.false_eq_true, decide_false, mrg1, mrg2, mrg3, mrg4, mrg5, mrg6, mrg7, decide_true, if_true]; rw [port_eq]; first | (refine fpos ?_; grind) | (refine fneg ?_; grind)) (by simp [slices_EqualFunc_Port_Same_1_L1])]
    simp only [bind_ite, Option.bind_some, dif1, dif2, dif3, dif4, dif5, dif6, dif7, dnot, ibeq, ibne, decide_eq_true_eq, if_not2, ge_iff_le, gt_iff_lt, fst_ret, Bool.false_eq_true, decide_false]
  · have hli : ((l.length : Int) ≠ (r.length : Int)) := by omega
    have : ¬ l = r := fun e => hl (by rw [e])
    simp [slices_EqualFunc_Port_Same_1, hli, this]
theorem EF_Domain_spec {l r : List Api_Domain} (hb : Few l) (ht : ∀ p ∈ l, Few p.peers) : slices_EqualFunc_Domain_Same_2 l r = some (decide (l = r)) := by
  by_cases hl : l.length = r.length
  · have hli : ¬ ((l.length : Int) ≠ (r.length : Int)) := by omega
    simp only [slices_EqualFunc_Domain_Same_2, ibne, decide_eq_true_eq, if_neg hli]
    rw [loop_eq l r hl hb (fun i h0 h1 h2 h3 => by
      simp (disch := omega) only [slices_EqualFunc_Domain_Same_2_L1, names_Same_2, h1, nth_getI h2, nth_getI h3, Equal_int_spec (ht _ (getI_mem h2)), wr64, bind_ite, Option.bind_some, dif1, dif2, dif3, dif4, dif5, dif6, dif7, dnot, ibeq, ibne, decide_eq_true_eq, if_not2, ge_iff_le, gt_iff_lt, fst_ret, Bool.false_eq_true, decide_false, mrg1, mrg2, mrg3, mrg4, mrg5, mrg6, mrg7, decide_true, if_true]; rw [domain_eq]; first | (refine fpos ?_; grind) | (refine fneg ?_; grind)) (by simp [slices_EqualFunc_Domain_Same_2_L1])]
    simp only [bind_ite, Option.bind_some, dif1, dif2, dif3, dif4, dif5, dif6, dif7, dnot, ibeq, ibne, decide_eq_true_eq, if_not2, ge_iff_le, gt_iff_lt, fst_ret, Bool.false_eq_true, decide_false]
  · have hli : ((l.length : Int) ≠ (r.length : Int)) := by omega
    have : ¬ l = r := fun e => hl (by rw [e])
    simp [slices_EqualFunc_Domain_Same_2, hli, this]
theorem EF_Flood_spec {l r : List Api_Flood} (hb : Few l) (ht : ∀ p ∈ l, Few p.addrs) : slices_EqualFunc_Flood_Same_3 l r = some (decide (l = r)) := by
  by_cases hl : l.length = r.length
  · have hli : ¬ ((l.length : Int) ≠ (r.length : Int)) := by omega
    simp only [slices_EqualFunc_Flood_Same_3, ibne, decide_eq_true_eq, if_neg hli]
    rw [loop_eq l r hl hb (fun i h0 h1 h2 h3 => by
      simp (disch := omega) only [slices_EqualFunc_Flood_Same_3_L1, names_Same_3, h1, nth_getI h2, nth_getI h3, Equal_uint32_spec (ht _ (getI_mem h2)), wr64, bind_ite, Option.bind_some, dif1, dif2, dif3, dif4, dif5, dif6, dif7, dnot, ibeq, ibne, decide_eq_true_eq, if_not2, ge_iff_le, gt_iff_lt, fst_ret, Bool.false_eq_true, decide_false, mrg1, mrg2, mrg3, mrg4, mrg5, mrg6, mrg7, decide_true, if_true]; rw [flood_eq]; first | (refine fpos ?_; grind) | (refine fneg ?_; grind)) (by simp [slices_EqualFunc_Flood_Same_3_L1])]
    simp only [bind_ite, Option.bind_some, dif1, dif2, dif3, dif4, dif5, dif6, dif7, dnot, ibeq, ibne, decide_eq_true_eq, if_not2, ge_iff_le, gt_iff_lt, fst_ret, Bool.false_eq_true, decide_false]
  · have hli : ((l.length : Int) ≠ (r.length : Int)) := by omega
    have : ¬ l = r := fun e => hl (by rw [e])
    simp [slices_EqualFunc_Flood_Same_3, hli, this]
theorem EF_Vrf_spec {l r : List Api_Vrf} (hb : Few l) (ht : ∀ p ∈ l, Few p.imports) (ht2 : ∀ p ∈ l, Few p.exports) : slices_EqualFunc_Vrf_Same_4 l r = some (decide (l = r)) := by
  by_cases hl : l.length = r.length
  · have hli : ¬ ((l.length : Int) ≠ (r.length : Int)) := by omega
    simp only [slices_EqualFunc_Vrf_Same_4, ibne, decide_eq_true_eq, if_neg hli]
    rw [loop_eq l r hl hb (fun i h0 h1 h2 h3 => by
      simp (disch := omega) only [slices_EqualFunc_Vrf_Same_4_L1, names_Same_4, h1, nth_getI h2, nth_getI h3, seqB_dec, Equal_int_spec (ht _ (getI_mem h2)), Equal_int_spec (ht2 _ (getI_mem h2)), wr64, bind_ite, Option.bind_some, dif1, dif2, dif3, dif4, dif5, dif6, dif7, dnot, ibeq, ibne, decide_eq_true_eq, if_not2, ge_iff_le, gt_iff_lt, fst_ret, Bool.false_eq_true, decide_false, mrg1, mrg2, mrg3, mrg4, mrg5, mrg6, mrg7, decide_true, if_true]; rw [vrf_eq]; first | (refine fpos ?_; grind) | (refine fneg ?_; grind)) (by simp [slices_EqualFunc_Vrf_Same_4_L1])]
    simp only [bind_ite, Option.bind_some, dif1, dif2, dif3, dif4, dif5, dif6, dif7, dnot, ibeq, ibne, decide_eq_true_eq, if_not2, ge_iff_le, gt_iff_lt, fst_ret, Bool.false_eq_true, decide_false]
  · have hli : ((l.length : Int) ≠ (r.length : Int)) := by omega
    have : ¬ l = r := fun e => hl (by rw [e])
    simp [slices_EqualFunc_Vrf_Same_4, hli, this]

theorem names_Same_spec {a b : Api_Net} (hs : SmN a) : names_Same a b = some (decide (a = b)) := by
  simp only [names_Same, Equal_Device_spec hs.devices, Equal_Link_spec hs.links, Equal_Static_spec hs.statics, Equal_Irb_spec hs.irbs, EF_Port_spec hs.ports hs.tagged, EF_Domain_spec hs.domains hs.peers, EF_Flood_spec hs.floods hs.addrs, EF_Vrf_spec hs.vrfs hs.imports hs.exports, bind_ite, Option.bind_some, dif1, dif2, dif3, dif4, dif5, dif6, dif7, dnot, ibeq, ibne, decide_eq_true_eq, if_not2, ge_iff_le, gt_iff_lt, fst_ret, Bool.false_eq_true, decide_false]
  exact sdec (by rw [net_eq]; constructor <;> (rintro ⟨a, b, c, d, e, f, g, h⟩; exact ⟨by assumption, by assumption, by assumption, by assumption, by assumption, by assumption, by assumption, by assumption⟩))

/-! ### A copy -/
/-- An index runs through a list and sets each to what it is. -/
theorem loop_setsame {α ρ : Type} [Inhabited α] {f : List α × Int → Option ((List α × Int) ⊕ ρ)} (l : List α) (out : List α → ρ) (hb : Few l)
    (h1 : ∀ i : Int, 0 ≤ i → i < l.length → inL l i → f (l, i) = some (.inl (l, i + 1))) (h2 : f (l, l.length) = some (.inr (out l))) : loopM f (l, 0) = some (out l) := by
  have hb' := hb
  unfold Few at hb'
  exact loopM_trace (fun i => (l, (i : Int))) l.length (by omega) (fun i hi => by rw [h1 i (by omega) (by omega) ⟨by omega, by omega⟩]; simp) h2
theorem set_getI {α : Type} [Inhabited α] {l : List α} {i : Int} (h : inL l i) : l.set i.toNat (getI l i) = l := by
  have h2 := getI_get? h
  apply List.ext_getElem?
  intro k
  rw [List.getElem?_set]
  split
  · rename_i e; subst e; split
    · exact h2.symm
    · have := h.2; have := h.1; omega
  · rfl

theorem roomyN {α : Type} {l : List α} {b : Nat} (h : Few l) (hb : b ≤ 100000000 := by decide) : roomy b l = true := roomy_few (by unfold Few at h; omega) hb
theorem Clone_Device_spec {l : List Api_Device} (h : Few l) : slices_Clone_Device l = some l := if_pos (roomyN h)
theorem Clone_Port_spec {l : List Api_Port} (h : Few l) : slices_Clone_Port l = some l := if_pos (roomyN h)
theorem Clone_Link_spec {l : List Api_Link} (h : Few l) : slices_Clone_Link l = some l := if_pos (roomyN h)
theorem Clone_Domain_spec {l : List Api_Domain} (h : Few l) : slices_Clone_Domain l = some l := if_pos (roomyN h)
theorem Clone_Static_spec {l : List Api_Static} (h : Few l) : slices_Clone_Static l = some l := if_pos (roomyN h)
theorem Clone_Flood_spec {l : List Api_Flood} (h : Few l) : slices_Clone_Flood l = some l := if_pos (roomyN h)
theorem Clone_Vrf_spec {l : List Api_Vrf} (h : Few l) : slices_Clone_Vrf l = some l := if_pos (roomyN h)
theorem Clone_Irb_spec {l : List Api_Irb} (h : Few l) : slices_Clone_Irb l = some l := if_pos (roomyN h)
theorem Clone_int_spec {l : List Int} (h : Few l) : slices_Clone_int l = some l := if_pos (roomyN h)
theorem Clone_uint32_spec {l : List Int} (h : Few l) : slices_Clone_uint32 l = some l := if_pos (roomyN h)
theorem names_Copy_spec {a : Api_Net} (hs : SmN a) : names_Copy a = some (a.devices, a.ports, a.links, a.domains, a.statics, a.floods, a.vrfs, a.irbs, a.ports.length, a.domains.length, a.floods.length, a.vrfs.length) := by
  simp only [names_Copy, Clone_Device_spec hs.devices, Clone_Port_spec hs.ports, Clone_Link_spec hs.links, Clone_Domain_spec hs.domains, Clone_Static_spec hs.statics, Clone_Flood_spec hs.floods, Clone_Vrf_spec hs.vrfs, Clone_Irb_spec hs.irbs, Option.bind_some]
  rw [loop_setsame a.ports id hs.ports (fun i h0 h1 h2 => by
    have := hs.ports
    have hw := wr64 (n := i + 1) (by omega) (by omega)
    simp only [names_Copy_L1, h1, lin_dec, h2, getI_get? h2, Clone_int_spec (hs.tagged _ (getI_mem h2)), decide_true, if_true, Option.bind_some, hw]
    rw [set_getI h2]) (by simp [names_Copy_L1])]
  simp only [id, Option.bind_some]
  rw [loop_setsame a.domains id hs.domains (fun i h0 h1 h2 => by
    have := hs.domains
    have hw := wr64 (n := i + 1) (by omega) (by omega)
    simp only [names_Copy_L2, h1, lin_dec, h2, getI_get? h2, Clone_int_spec (hs.peers _ (getI_mem h2)), decide_true, if_true, Option.bind_some, hw]
    rw [set_getI h2]) (by simp [names_Copy_L2])]
  simp only [id, Option.bind_some]
  rw [loop_setsame a.floods id hs.floods (fun i h0 h1 h2 => by
    have := hs.floods
    have hw := wr64 (n := i + 1) (by omega) (by omega)
    simp only [names_Copy_L3, h1, lin_dec, h2, getI_get? h2, Clone_uint32_spec (hs.addrs _ (getI_mem h2)), decide_true, if_true, Option.bind_some, hw]
    rw [set_getI h2]) (by simp [names_Copy_L3])]
  simp only [id, Option.bind_some]
  rw [loop_setsame a.vrfs id hs.vrfs (fun i h0 h1 h2 => by
    have := hs.vrfs
    have hw := wr64 (n := i + 1) (by omega) (by omega)
    simp only [names_Copy_L4, h1, lin_dec, h2, getI_get? h2, Clone_int_spec (hs.imports _ (getI_mem h2)), Clone_int_spec (hs.exports _ (getI_mem h2)), decide_true, if_true, Option.bind_some, hw]
    rw [set_getI h2, getI_get? h2]
    simp only [Option.bind_some]
    rw [set_getI h2]) (by simp [names_Copy_L4])]
  rfl

end
end Go.Eng
