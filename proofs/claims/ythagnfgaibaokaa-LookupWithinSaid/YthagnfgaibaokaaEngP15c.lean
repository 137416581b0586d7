/- Plain laws of chapter 15: nets held against one another, and copies. -/
import Derived.Test.YthagnfgaibaokaaEngR15
set_option linter.unusedVariables false
set_option linter.unusedSectionVars false
set_option linter.unusedSimpArgs false
namespace Go.Eng
open Go Classical
attribute [local congr] ite_cg

theorem seqB_dec {x y : ByteArray} : seqB x y = decide (x = y) := by
  unfold seqB
  rw [Bool.eq_iff_iff]
  simp only [beq_iff_eq, decide_eq_true_eq]
  constructor
  · intro h
    rw [ByteArray.toList_eq, ByteArray.toList_eq] at h
    obtain ⟨⟨x⟩⟩ := x
    obtain ⟨⟨y⟩⟩ := y
    simpa using h
  · intro h; rw [h]

theorem list_eqI {α : Type} [Inhabited α] {l r : List α} : l = r ↔ l.length = r.length ∧ EachP l (fun i x => x = getI r i) := by
  constructor
  · intro h; subst h; exact ⟨rfl, fun i hi => rfl⟩
  · rintro ⟨h, he⟩
    apply List.ext_getElem h
    intro i h1 h2
    have := he i ⟨by omega, by omega⟩
    rwa [getI_nat (List.getElem?_eq_getElem h1), getI_nat (List.getElem?_eq_getElem h2)] at this
theorem loop_eq {α : Type} [Inhabited α] {f : Int → Option (Int ⊕ (Unit ⊕ Unit))} (l r : List α) (hl : l.length = r.length) (hb : Few l)
    (h1 : ∀ i : Int, 0 ≤ i → i < l.length → inL l i → inL r i → f i = some (if getI l i = getI r i then .inl (i + 1) else .inr (.inl ()))) (h2 : f l.length = some (.inr (.inr ()))) :
    loopM f 0 = if l = r then some (.inr ()) else some (.inl ()) := by
  rw [loop_each l (fun i x => x = getI r i) (.inl ()) (.inr ()) hb (fun i a b c => h1 i a b c ⟨a, by omega⟩) h2]
  simp only [list_eqI, hl, true_and]
theorem lenne {α β : Type} {l : List α} {r : List β} : ((l.length : Int) ≠ (r.length : Int)) ↔ ¬ l.length = r.length := by omega
theorem dlen {α : Type} {l r : List α} : (¬ ¬ l.length = r.length ∧ (l = r)) ↔ l = r := ⟨fun h => h.2, fun h => ⟨by simp [h], h⟩⟩

theorem eqDevice_dec {x y : Api_Device} : eq_Api_Device x y = decide (x = y) := by
  unfold eq_Api_Device; rw [seqB_dec, Bool.eq_iff_iff]; cases x; cases y; simp
theorem eqLink_dec {x y : Api_Link} : eq_Api_Link x y = decide (x = y) := by
  unfold eq_Api_Link; rw [Bool.eq_iff_iff]; cases x; cases y; simp
theorem eqStatic_dec {x y : Api_Static} : eq_Api_Static x y = decide (x = y) := by
  unfold eq_Api_Static; rw [Bool.eq_iff_iff]; cases x; cases y; simp
theorem eqPrefix_dec {x y : Api_Prefix} : eq_Api_Prefix x y = decide (x = y) := by
  unfold eq_Api_Prefix; rw [Bool.eq_iff_iff]; cases x; cases y; simp
theorem eqIrb_dec {x y : Api_Irb} : eq_Api_Irb x y = decide (x = y) := by
  unfold eq_Api_Irb; rw [eqPrefix_dec, Bool.eq_iff_iff]; cases x; cases y; simp
theorem port_eq {x y : Api_Port} : x = y ↔ x.row = y.row ∧ x.dev = y.dev ∧ x.native = y.native ∧ x.cost = y.cost ∧ x.link = y.link ∧ x.name = y.name ∧ x.tagged = y.tagged := by cases x; cases y; simp
theorem domain_eq {x y : Api_Domain} : x = y ↔ x.dev = y.dev ∧ x.vlan = y.vlan ∧ x.vni = y.vni ∧ x.irb = y.irb ∧ x.row = y.row ∧ x.peers = y.peers := by cases x; cases y; simp
theorem flood_eq {x y : Api_Flood} : x = y ↔ x.row = y.row ∧ x.dev = y.dev ∧ x.vni = y.vni ∧ x.addrs = y.addrs := by cases x; cases y; simp
theorem vrf_eq {x y : Api_Vrf} : x = y ↔ x.row = y.row ∧ x.dev = y.dev ∧ x.name = y.name ∧ x.imports = y.imports ∧ x.exports = y.exports := by cases x; cases y; simp
theorem net_eq {x y : Api_Net} : x = y ↔ x.devices = y.devices ∧ x.ports = y.ports ∧ x.links = y.links ∧ x.domains = y.domains ∧ x.statics = y.statics ∧ x.floods = y.floods ∧ x.vrfs = y.vrfs ∧ x.irbs = y.irbs := by cases x; cases y; simp

section
theorem Equal_Device_spec {l r : List Api_Device} (hb : Few l) : slices_Equal_Device l r = some (decide (l = r)) := by
  by_cases hl : l.length = r.length
  · have hli : ¬ ((l.length : Int) ≠ (r.length : Int)) := by omega
    simp only [slices_Equal_Device, ibne, decide_eq_true_eq, if_neg hli]
    rw [loop_eq l r hl hb (fun i h0 h1 h2 h3 => by
      simp (disch := omega) only [slices_Equal_Device_L1, h1, nth_getI h2, nth_getI h3, eqDevice_dec, wr64, bind_ite, Option.bind_some, dif1, dif2, dif3, dif4, dif5, dif6, dif7, dnot, ibeq, ibne, decide_eq_true_eq, if_not2, ge_iff_le, gt_iff_lt, fst_ret, Bool.false_eq_true, decide_false, mrg1, mrg2, mrg3, mrg4, mrg5, mrg6, mrg7, decide_true, if_true]; exact fpos Iff.rfl) (by simp [slices_Equal_Device_L1])]
    simp only [bind_ite, Option.bind_some, dif1, dif2, dif3, dif4, dif5, dif6, dif7, dnot, ibeq, ibne, decide_eq_true_eq, if_not2, ge_iff_le, gt_iff_lt, fst_ret, Bool.false_eq_true, decide_false]
  · have hli : ((l.length : Int) ≠ (r.length : Int)) := by omega
    have : ¬ l = r := fun e => hl (by rw [e])
    simp [slices_Equal_Device, hli, this]
theorem Equal_Link_spec {l r : List Api_Link} (hb : Few l) : slices_Equal_Link l r = some (decide (l = r)) := by
  by_cases hl : l.length = r.length
  · have hli : ¬ ((l.length : Int) ≠ (r.length : Int)) := by omega
    simp only [slices_Equal_Link, ibne, decide_eq_true_eq, if_neg hli]
    rw [loop_eq l r hl hb (fun i h0 h1 h2 h3 => by
      simp (disch := omega) only [slices_Equal_Link_L1, h1, nth_getI h2, nth_getI h3, eqLink_dec, wr64, bind_ite, Option.bind_some, dif1, dif2, dif3, dif4, dif5, dif6, dif7, dnot, ibeq, ibne, decide_eq_true_eq, if_not2, ge_iff_le, gt_iff_lt, fst_ret, Bool.false_eq_true, decide_false, mrg1, mrg2, mrg3, mrg4, mrg5, mrg6, mrg7, decide_true, if_true]; exact fpos Iff.rfl) (by simp [slices_Equal_Link_L1])]
    simp only [bind_ite, Option.bind_some, dif1, dif2, dif3, dif4, dif5, dif6, dif7, dnot, ibeq, ibne, decide_eq_true_eq, if_not2, ge_iff_le, gt_iff_lt, fst_ret, Bool.false_eq_true, decide_false]
  · have hli : ((l.length : Int) ≠ (r.length : Int)) := by omega
    have : ¬ l = r := fun e => hl (by rw [e])
    simp [slices_Equal_Link, hli, this]
theorem Equal_Static_spec {l r : List Api_Static} (hb : Few l) : slices_Equal_Static l r = some (decide (l = r)) := by
  by_cases hl : l.length = r.length
  · have hli : ¬ ((l.length : Int) ≠ (r.length : Int)) := by omega
    simp only [slices_Equal_Static, ibne, decide_eq_true_eq, if_neg hli]
    rw [loop_eq l r hl hb (fun i h0 h1 h2 h3 => by
      simp (disch := omega) only [slices_Equal_Static_L1, h1, nth_getI h2, nth_getI h3, eqStatic_dec, wr64, bind_ite, Option.bind_some, dif1, dif2, dif3, dif4, dif5, dif6, dif7, dnot, ibeq, ibne, decide_eq_true_eq, if_not2, ge_iff_le, gt_iff_lt, fst_ret, Bool.false_eq_true, decide_false, mrg1, mrg2, mrg3, mrg4, mrg5, mrg6, mrg7, decide_true, if_true]; exact fpos Iff.rfl) (by simp [slices_Equal_Static_L1])]
    simp only [bind_ite, Option.bind_some, dif1, dif2, dif3, dif4, dif5, dif6, dif7, dnot, ibeq, ibne, decide_eq_true_eq, if_not2, ge_iff_le, gt_iff_lt, fst_ret, Bool.false_eq_true, decide_false]
  · have hli : ((l.length : Int) ≠ (r.length : Int)) := by omega
    have : ¬ l = r := fun e => hl (by rw [e])
    simp [slices_Equal_Static, hli, this]
theorem Equal_Irb_spec {l r : List Api_Irb} (hb : Few l) : slices_Equal_Irb l r = some (decide (l = r)) := by
  by_cases hl : l.length = r.length
  · have hli : ¬ ((l.length : Int) ≠ (r.length : Int)) := by omega
    simp only [slices_Equal_Irb, ibne, decide_eq_true_eq, if_neg hli]
    rw [loop_eq l r hl hb (fun i h0 h1 h2 h3 => by
      simp (disch := omega) only [slices_Equal_Irb_L1, h1, nth_getI h2, nth_getI h3, eqIrb_dec, wr64, bind_ite, Option.bind_some, dif1, dif2, dif3, dif4, dif5, dif6, dif7, dnot, ibeq, ibne, decide_eq_true_eq, if_not2, ge_iff_le, gt_iff_lt, fst_ret, Bool.false_eq_true, decide_false, mrg1, mrg2, mrg3, mrg4, mrg5, mrg6, mrg7, decide_true, if_true]; exact fpos Iff.rfl) (by simp [slices_Equal_Irb_L1])]
    simp only [bind_ite, Option.bind_some, dif1, dif2, dif3, dif4, dif5, dif6, dif7, dnot, ibeq, ibne, decide_eq_true_eq, if_not2, ge_iff_le, gt_iff_lt, fst_ret, Bool.false_eq_true, decide_false]
  · have hli : ((l.length : Int) ≠ (r.length : Int)) := by omega
    have : ¬ l = r := fun e => hl (by rw [e])
    simp [slices_Equal_Irb, hli, this]
theorem Equal_int_spec {l r : List Int} (hb : Few l) : slices_Equal_int l r = some (decide (l = r)) := by
  by_cases hl : l.length = r.length
  · have hli : ¬ ((l.length : Int) ≠ (r.length : Int)) := by omega
    simp only [slices_Equal_int, ibne, decide_eq_true_eq, if_neg hli]
    rw [loop_eq l r hl hb (fun i h0 h1 h2 h3 => by
      simp (disch := omega) only [slices_Equal_int_L1, h1, nth_getI h2, nth_getI h3, wr64, bind_ite, Option.bind_some, dif1, dif2, dif3, dif4, dif5, dif6, dif7, dnot, ibeq, ibne, decide_eq_true_eq, if_not2, ge_iff_le, gt_iff_lt, fst_ret, Bool.false_eq_true, decide_false, mrg1, mrg2, mrg3, mrg4, mrg5, mrg6, mrg7, decide_true, if_true]; exact fpos Iff.rfl) (by simp [slices_Equal_int_L1])]
    simp only [bind_ite, Option.bind_some, dif1, dif2, dif3, dif4, dif5, dif6, dif7, dnot, ibeq, ibne, decide_eq_true_eq, if_not2, ge_iff_le, gt_iff_lt, fst_ret, Bool.false_eq_true, decide_false]
  · have hli : ((l.length : Int) ≠ (r.length : Int)) := by omega
    have : ¬ l = r := fun e => hl (by rw [e])
    simp [slices_Equal_int, hli, this]
theorem Equal_uint32_spec {l r : List Int} (hb : Few l) : slices_Equal_uint32 l r = some (decide (l = r)) := by
  by_cases hl : l.length = r.length
  · have hli : ¬ ((l.length : Int) ≠ (r.length : Int)) := by omega
    simp only [slices_Equal_uint32, ibne, decide_eq_true_eq, if_neg hli]
    rw [loop_eq l r hl hb (fun i h0 h1 h2 h3 => by
      simp (disch := omega) only [slices_Equal_uint32_L1, h1, nth_getI h2, nth_getI h3, wr64, bind_ite, Option.bind_some, dif1, dif2, dif3, dif4, dif5, dif6, dif7, dnot, ibeq, ibne, decide_eq_true_eq, if_not2, ge_iff_le, gt_iff_lt, fst_ret, Bool.false_eq_true, decide_false, mrg1, mrg2, mrg3, mrg4, mrg5, mrg6, mrg7, decide_true, if_true]; exact fpos Iff.rfl) (by simp [slices_Equal_uint32_L1])]
    simp only [bind_ite, Option.bind_some, dif1, dif2, dif3, dif4, dif5, dif6, dif7, dnot, ibeq, ibne, decide_eq_true_eq, if_not2, ge_iff_le, gt_iff_lt, fst_ret, Bool.false_eq_true, decide_false]
  · have hli : ((l.length : Int) ≠ (r.length : Int)) := by omega
    have : ¬ l = r := fun e => hl (by rw [e])
    simp [slices_Equal_uint32, hli, this]
theorem rInts_spec {l r : List Int} (hb : Few l) : palingref03_Ints l r = some (decide (l = r)) := by
  by_cases hl : l.length = r.length
  · have hli : ¬ ((l.length : Int) ≠ (r.length : Int)) := by omega
    simp only [palingref03_Ints, ibne, decide_eq_true_eq, if_neg hli]
    rw [loop_eq l r hl hb (fun i h0 h1 h2 h3 => by
      simp (disch := omega) only [palingref03_Ints_L1, h1, nth_getI h2, nth_getI h3, wr64, bind_ite, Option.bind_some, dif1, dif2, dif3, dif4, dif5, dif6, dif7, dnot, ibeq, ibne, decide_eq_true_eq, if_not2, ge_iff_le, gt_iff_lt, fst_ret, Bool.false_eq_true, decide_false, mrg1, mrg2, mrg3, mrg4, mrg5, mrg6, mrg7, decide_true, if_true]; exact fpos Iff.rfl) (by simp [palingref03_Ints_L1])]
    simp only [bind_ite, Option.bind_some, dif1, dif2, dif3, dif4, dif5, dif6, dif7, dnot, ibeq, ibne, decide_eq_true_eq, if_not2, ge_iff_le, gt_iff_lt, fst_ret, Bool.false_eq_true, decide_false]
  · have hli : ((l.length : Int) ≠ (r.length : Int)) := by omega
    have : ¬ l = r := fun e => hl (by rw [e])
    simp [palingref03_Ints, hli, this]
theorem rAddrs_spec {l r : List Int} (hb : Few l) : palingref03_Addrs l r = some (decide (l = r)) := by
  by_cases hl : l.length = r.length
  · have hli : ¬ ((l.length : Int) ≠ (r.length : Int)) := by omega
    simp only [palingref03_Addrs, ibne, decide_eq_true_eq, if_neg hli]
    rw [loop_eq l r hl hb (fun i h0 h1 h2 h3 => by
      simp (disch := omega) only [palingref03_Addrs_L1, h1, nth_getI h2, nth_getI h3, wr64, bind_ite, Option.bind_some, dif1, dif2, dif3, dif4, dif5, dif6, dif7, dnot, ibeq, ibne, decide_eq_true_eq, if_not2, ge_iff_le, gt_iff_lt, fst_ret, Bool.false_eq_true, decide_false, mrg1, mrg2, mrg3, mrg4, mrg5, mrg6, mrg7, decide_true, if_true]; exact fpos Iff.rfl) (by simp [palingref03_Addrs_L1])]
    simp only [bind_ite, Option.bind_some, dif1, dif2, dif3, dif4, dif5, dif6, dif7, dnot, ibeq, ibne, decide_eq_true_eq, if_not2, ge_iff_le, gt_iff_lt, fst_ret, Bool.false_eq_true, decide_false]
  · have hli : ((l.length : Int) ≠ (r.length : Int)) := by omega
    have : ¬ l = r := fun e => hl (by rw [e])
    simp [palingref03_Addrs, hli, this]

theorem EF_Port_spec {l r : List Api_Port} (hb : Few l) (ht : ∀ p ∈ l, Few p.tagged) : slices_EqualFunc_Port_Same_1 l r = some (decide (l = r)) := by
  by_cases hl : l.length = r.length
  · have hli : ¬ ((l.length : Int) ≠ (r.length : Int)) := by omega
    simp only [slices_EqualFunc_Port_Same_1, ibne, decide_eq_true_eq, if_neg hli]
    rw [loop_eq l r hl hb (fun i h0 h1 h2 h3 => by
      simp (disch := omega) only [slices_EqualFunc_Port_Same_1_L1, names_Same_1, h1, nth_getI h2, nth_getI h3, seqB_dec, Equal_int_spec (ht _ (getI_mem h2)), wr64, bind_ite, Option.bind_some, dif1, dif2, dif3, dif4, dif5, dif6, dif7, dnot, ibeq, ibne, decide_eq_true_eq, if_not2, ge_iff_le, gt_iff_lt, fst_ret, Bool.false_eq_true, decide_false, mrg1, mrg2, mrg3, mrg4, mrg5, mrg6, mrg7, decide_true, if_true]; rw [port_eq]; first | (refine fpos ?_; grind) | (refine fneg ?_; grind)) (by simp [slices_EqualFunc_Port_Same_1_L1])]
    simp only [bind_ite, Option.bind_some, dif1, dif2, dif3, dif4, dif5, dif6, dif7, dnot, ibeq, ibne, decide_eq_true_eq, if_not2, ge_iff_le, gt_iff_lt, fst_ret, Bool.false_eq_true, decide_false]
  · have hli : ((l.length : Int) ≠ (r.length : Int)) := by omega
    have : ¬ l = r := fun e => hl (by rw [e])
    simp [slices_EqualFunc_Port_Same_1, hli, this]
theorem EF_Domain_spec {l r : List Api_Domain} (hb : Few l) (ht : ∀ p ∈ l, Few p.peers) : slices_EqualFunc_Domain_Same_2 l r = some (decide (l = r)) := by
  by_cases hl : l.length = r.length
  · have hli : ¬ ((l.length : Int) ≠ (r.length : Int)) := by omega
    simp only [slices_EqualFunc_Domain_Same_2, ibne, decide_eq_true_eq, if_neg hli]
    rw [loop_eq l r hl hb (fun i h0 h1 h2 h3 => by
      simp (disch := omega) only [slices_EqualFunc_Domain_Same_2_L1, names_Same_2, h1, nth_getI h2, nth_getI h3, Equal_int_spec (ht _ (getI_mem h2)), wr64, bind_ite, Option.bind_some, dif1, dif2, dif3, dif4, dif5, dif6, dif7, dnot, ibeq, ibne, decide_eq_true_eq, if_not2, ge_iff_le, gt_iff_lt, fst_ret, Bool.false_eq_true, decide_false, mrg1, mrg2, mrg3, mrg4, mrg5, mrg6, mrg7, decide_true, if_true]; rw [domain_eq]; first | (refine fpos ?_; grind) | (refine fneg ?_; grind)) (by simp [slices_EqualFunc_Domain_Same_2_L1])]
    simp only [bind_ite, Option.bind_some, dif1, dif2, dif3, dif4, dif5, dif6, dif7, dnot, ibeq, ibne, decide_eq_true_eq, if_not2, ge_iff_le, gt_iff_lt, fst_ret, Bool.false_eq_true, decide_false]
  · have hli : ((l.length : Int) ≠ (r.length : Int)) := by omega
    have : ¬ l = r := fun e => hl (by rw [e])
    simp [slices_EqualFunc_Domain_Same_2, hli, this]
theorem EF_Flood_spec {l r : List Api_Flood} (hb : Few l) (ht : ∀ p ∈ l, Few p.addrs) : slices_EqualFunc_Flood_Same_3 l r = some (decide (l = r)) := by
  by_cases hl : l.length = r.length
  · have hli : ¬ ((l.length : Int) ≠ (r.length : Int)) := by omega
    simp only [slices_EqualFunc_Flood_Same_3, ibne, decide_eq_true_eq, if_neg hli]
    rw [loop_eq l r hl hb (fun i h0 h1 h2 h3 => by
      simp (disch := omega) only [slices_EqualFunc_Flood_Same_3_L1, names_Same_3, h1, nth_getI h2, nth_getI h3, Equal_uint32_spec (ht _ (getI_mem h2)), wr64, bind_ite, Option.bind_some, dif1, dif2, dif3, dif4, dif5, dif6, dif7, dnot, ibeq, ibne, decide_eq_true_eq, if_not2, ge_iff_le, gt_iff_lt, fst_ret, Bool.false_eq_true, decide_false, mrg1, mrg2, mrg3, mrg4, mrg5, mrg6, mrg7, decide_true, if_true]; rw [flood_eq]; first | (refine fpos ?_; grind) | (refine fneg ?_; grind)) (by simp [slices_EqualFunc_Flood_Same_3_L1])]
    simp only [bind_ite, Option.bind_some, dif1, dif2, dif3, dif4, dif5, dif6, dif7, dnot, ibeq, ibne, decide_eq_true_eq, if_not2, ge_iff_le, gt_iff_lt, fst_ret, Bool.false_eq_true, decide_false]
  · have hli : ((l.length : Int) ≠ (r.length : Int)) := by omega
    have : ¬ l = r := fun e => hl (by rw [e])
    simp [slices_EqualFunc_Flood_Same_3, hli, this]
theorem EF_Vrf_spec {l r : List Api_Vrf} (hb : Few l) (ht : ∀ p ∈ l, Few p.imports) (ht2 : ∀ p ∈ l, Few p.exports) : slices_EqualFunc_Vrf_Same_4 l r = some (decide (l = r)) := by
  by_cases hl : l.length = r.length
  · have hli : ¬ ((l.length : Int) ≠ (r.length : Int)) := by omega
    simp only [slices_EqualFunc_Vrf_Same_4, ibne, decide_eq_true_eq, if_neg hli]
    rw [loop_eq l r hl hb (fun i h0 h1 h2 h3 => by
      simp (disch := omega) only [slices_EqualFunc_Vrf_Same_4_L1, names_Same_4, h1, nth_getI h2, nth_getI h3, seqB_dec, Equal_int_spec (ht _ (getI_mem h2)), Equal_int_spec (ht2 _ (getI_mem h2)), wr64, bind_ite, Option.bind_some, dif1, dif2, dif3, dif4, dif5, dif6, dif7, dnot, ibeq, ibne, decide_eq_true_eq, if_not2, ge_iff_le, gt_iff_lt, fst_ret, Bool.false_eq_true, decide_false, mrg1, mrg2, mrg3, mrg4, mrg5, mrg6, mrg7, decide_true, if_true]; rw [vrf_eq]; first | (refine fpos ?_; grind) | (refine fneg ?_; grind)) (by simp [slices_EqualFunc_Vrf_Same_4_L1])]
    simp only [bind_ite, Option.bind_some, dif1, dif2, dif3, dif4, dif5, dif6, dif7, dnot, ibeq, ibne, decide_eq_true_eq, if_not2, ge_iff_le, gt_iff_lt, fst_ret, Bool.false_eq_true, decide_false]
  · have hli : ((l.length : Int) ≠ (r.length : Int)) := by omega
    have : ¬ l = r := fun e => hl (by rw [e])
    simp [slices_EqualFunc_Vrf_Same_4, hli, this]

theorem names_Same_spec {a b : Api_Net} (hs : SmN a) : names_Same a b = some (decide (a = b)) := by
  simp only [names_Same, Equal_Device_spec hs.devices, Equal_Link_spec hs.links, Equal_Static_spec hs.statics, Equal_Irb_spec hs.irbs, EF_Port_spec hs.ports hs.tagged, EF_Domain_spec hs.domains hs.peers, EF_Flood_spec hs.floods hs.addrs, EF_Vrf_spec hs.vrfs hs.imports hs.exports, bind_ite, Option.bind_some, dif1, dif2, dif3, dif4, dif5, dif6, dif7, dnot, ibeq, ibne, decide_eq_true_eq, if_not2, ge_iff_le, gt_iff_lt, fst_ret, Bool.false_eq_true, decide_false]
  exact sdec (by rw [net_eq]; constructor <;> (rintro ⟨a, b, c, d, e, f, g, h⟩; exact ⟨by assumption, by assumption, by assumption, by assumption, by assumption, by assumption, by assumption, by assumption⟩))

theorem rtops_spec {a b : Api_Net} (hs : SmN a) : palingref15_tops a b = some (decide (a.devices = b.devices ∧ a.links = b.links ∧ a.statics = b.statics ∧ a.irbs = b.irbs)) := by
  by_cases h1 : a.devices.length = b.devices.length
  case neg =>
    have : ¬ a.devices = b.devices := fun e => h1 (by rw [e])
    have h1' : ((a.devices.length : Int) ≠ b.devices.length) := by omega
    simp [palingref15_tops, h1', this]
  by_cases h2 : a.links.length = b.links.length
  case neg =>
    have : ¬ a.links = b.links := fun e => h2 (by rw [e])
    have h2' : ((a.links.length : Int) ≠ b.links.length) := by omega
    simp [palingref15_tops, h1, h2', this]
  by_cases h3 : a.statics.length = b.statics.length
  case neg =>
    have : ¬ a.statics = b.statics := fun e => h3 (by rw [e])
    have h3' : ((a.statics.length : Int) ≠ b.statics.length) := by omega
    simp [palingref15_tops, h1, h2, h3', this]
  by_cases h4 : a.irbs.length = b.irbs.length
  case neg =>
    have : ¬ a.irbs = b.irbs := fun e => h4 (by rw [e])
    have h4' : ((a.irbs.length : Int) ≠ b.irbs.length) := by omega
    simp [palingref15_tops, h1, h2, h3, h4', this]
  have e1 : ¬ ((a.devices.length : Int) ≠ b.devices.length) := by omega
  have e2 : ¬ ((a.links.length : Int) ≠ b.links.length) := by omega
  have e3 : ¬ ((a.statics.length : Int) ≠ b.statics.length) := by omega
  have e4 : ¬ ((a.irbs.length : Int) ≠ b.irbs.length) := by omega
  simp only [palingref15_tops, ibne, decide_eq_true_eq, if_neg e1, if_neg e2, if_neg e3, if_neg e4]
  rw [loop_eq a.devices b.devices h1 hs.devices (fun i h0 h1 h2 h3 => by
      have := hs.devices
      simp (disch := omega) only [palingref15_tops_L1, h1, nth_getI h2, nth_getI h3, eqDevice_dec, wr64, bind_ite, Option.bind_some, dif1, dif2, dif3, dif4, dif5, dif6, dif7, dnot, ibeq, ibne, decide_eq_true_eq, if_not2, ge_iff_le, gt_iff_lt, fst_ret, Bool.false_eq_true, decide_false, mrg1, mrg2, mrg3, mrg4, mrg5, mrg6, mrg7, decide_true, if_true]; exact fpos Iff.rfl) (by simp [palingref15_tops_L1]),
    loop_eq a.links b.links h2 hs.links (fun i h0 h1 h2 h3 => by
      have := hs.links
      simp (disch := omega) only [palingref15_tops_L2, h1, nth_getI h2, nth_getI h3, eqLink_dec, wr64, bind_ite, Option.bind_some, dif1, dif2, dif3, dif4, dif5, dif6, dif7, dnot, ibeq, ibne, decide_eq_true_eq, if_not2, ge_iff_le, gt_iff_lt, fst_ret, Bool.false_eq_true, decide_false, mrg1, mrg2, mrg3, mrg4, mrg5, mrg6, mrg7, decide_true, if_true]; exact fpos Iff.rfl) (by simp [palingref15_tops_L2]),
    loop_eq a.statics b.statics h3 hs.statics (fun i h0 h1 h2 h3 => by
      have := hs.statics
      simp (disch := omega) only [palingref15_tops_L3, h1, nth_getI h2, nth_getI h3, eqStatic_dec, wr64, bind_ite, Option.bind_some, dif1, dif2, dif3, dif4, dif5, dif6, dif7, dnot, ibeq, ibne, decide_eq_true_eq, if_not2, ge_iff_le, gt_iff_lt, fst_ret, Bool.false_eq_true, decide_false, mrg1, mrg2, mrg3, mrg4, mrg5, mrg6, mrg7, decide_true, if_true]; exact fpos Iff.rfl) (by simp [palingref15_tops_L3]),
    loop_eq a.irbs b.irbs h4 hs.irbs (fun i h0 h1 h2 h3 => by
      have := hs.irbs
      simp (disch := omega) only [palingref15_tops_L4, h1, nth_getI h2, nth_getI h3, eqIrb_dec, wr64, bind_ite, Option.bind_some, dif1, dif2, dif3, dif4, dif5, dif6, dif7, dnot, ibeq, ibne, decide_eq_true_eq, if_not2, ge_iff_le, gt_iff_lt, fst_ret, Bool.false_eq_true, decide_false, mrg1, mrg2, mrg3, mrg4, mrg5, mrg6, mrg7, decide_true, if_true]; exact fpos Iff.rfl) (by simp [palingref15_tops_L4])]
  simp only [bind_ite, Option.bind_some, dif1, dif2, dif3, dif4, dif5, dif6, dif7, dnot, ibeq, ibne, decide_eq_true_eq, if_not2, ge_iff_le, gt_iff_lt, fst_ret, Bool.false_eq_true, decide_false]

theorem rSame_spec {a b : Api_Net} (hs : SmN a) : palingref15_Same a b = some (decide (a = b)) := by
  have hne : ∀ {p : Prop}, (a = b → p) → ¬ p → decide (a = b) = false := fun h hp => decide_eq_false (fun e => hp (h e))
  by_cases ht : a.devices = b.devices ∧ a.links = b.links ∧ a.statics = b.statics ∧ a.irbs = b.irbs
  case neg =>
    rw [hne (fun e => by subst e; exact ⟨rfl, rfl, rfl, rfl⟩) ht]
    simp [palingref15_Same, rtops_spec hs, ht]
  by_cases h1 : a.ports.length = b.ports.length
  case neg =>
    rw [hne (fun e => by rw [e]) h1]
    have h1' : ((a.ports.length : Int) ≠ b.ports.length) := by omega
    simp only [palingref15_Same, rtops_spec hs, ht, bind_ite, Option.bind_some, dif1, dif2, dif3, dif4, dif5, dif6, dif7, dnot, ibeq, ibne, decide_eq_true_eq, if_not2, ge_iff_le, gt_iff_lt, fst_ret, Bool.false_eq_true, decide_false, h1', if_true, decide_true, Bool.not_true, ne_eq, not_false_eq_true, if_false, and_self]
  by_cases h2 : a.domains.length = b.domains.length
  case neg =>
    rw [hne (fun e => by rw [e]) h2]
    have h1' : ((a.ports.length : Int) = b.ports.length) := by omega
    have h2' : ((a.domains.length : Int) ≠ b.domains.length) := by omega
    simp only [palingref15_Same, rtops_spec hs, ht, bind_ite, Option.bind_some, dif1, dif2, dif3, dif4, dif5, dif6, dif7, dnot, ibeq, ibne, decide_eq_true_eq, if_not2, ge_iff_le, gt_iff_lt, fst_ret, Bool.false_eq_true, decide_false, h1', h2', if_true, decide_true, Bool.not_true, ne_eq, not_false_eq_true, not_true_eq_false, if_false, and_self]
  by_cases h3 : a.floods.length = b.floods.length
  case neg =>
    rw [hne (fun e => by rw [e]) h3]
    have h1' : ((a.ports.length : Int) = b.ports.length) := by omega
    have h2' : ((a.domains.length : Int) = b.domains.length) := by omega
    have h3' : ((a.floods.length : Int) ≠ b.floods.length) := by omega
    simp only [palingref15_Same, rtops_spec hs, ht, bind_ite, Option.bind_some, dif1, dif2, dif3, dif4, dif5, dif6, dif7, dnot, ibeq, ibne, decide_eq_true_eq, if_not2, ge_iff_le, gt_iff_lt, fst_ret, Bool.false_eq_true, decide_false, h1', h2', h3', if_true, decide_true, Bool.not_true, ne_eq, not_false_eq_true, not_true_eq_false, if_false, and_self]
  by_cases h4 : a.vrfs.length = b.vrfs.length
  case neg =>
    rw [hne (fun e => by rw [e]) h4]
    have h1' : ((a.ports.length : Int) = b.ports.length) := by omega
    have h2' : ((a.domains.length : Int) = b.domains.length) := by omega
    have h3' : ((a.floods.length : Int) = b.floods.length) := by omega
    have h4' : ((a.vrfs.length : Int) ≠ b.vrfs.length) := by omega
    simp only [palingref15_Same, rtops_spec hs, ht, bind_ite, Option.bind_some, dif1, dif2, dif3, dif4, dif5, dif6, dif7, dnot, ibeq, ibne, decide_eq_true_eq, if_not2, ge_iff_le, gt_iff_lt, fst_ret, Bool.false_eq_true, decide_false, h1', h2', h3', h4', if_true, decide_true, Bool.not_true, ne_eq, not_false_eq_true, not_true_eq_false, if_false, and_self]
  have e1 : ¬ ((a.ports.length : Int) ≠ b.ports.length) := by omega
  have e2 : ¬ ((a.domains.length : Int) ≠ b.domains.length) := by omega
  have e3 : ¬ ((a.floods.length : Int) ≠ b.floods.length) := by omega
  have e4 : ¬ ((a.vrfs.length : Int) ≠ b.vrfs.length) := by omega
  simp only [palingref15_Same, rtops_spec hs, ht, Option.bind_some, and_self, decide_true, Bool.not_true, Bool.false_eq_true, if_false, ibne, decide_eq_true_eq, if_neg e1, if_neg e2, if_neg e3, if_neg e4]
  rw [loop_eq a.ports b.ports h1 hs.ports (fun i h0 h1 h2 h3 => by
      have := hs.ports
      simp (disch := omega) only [palingref15_Same_L1, h1, nth_getI h2, nth_getI h3, seqB_dec, rInts_spec (hs.tagged _ (getI_mem h2)), wr64, bind_ite, Option.bind_some, dif1, dif2, dif3, dif4, dif5, dif6, dif7, dnot, ibeq, ibne, decide_eq_true_eq, if_not2, ge_iff_le, gt_iff_lt, fst_ret, Bool.false_eq_true, decide_false, mrg1, mrg2, mrg3, mrg4, mrg5, mrg6, mrg7, decide_true, if_true]
      rw [port_eq]
      first | refine fpos ?_ | refine fneg ?_
      grind) (by simp [palingref15_Same_L1]),
    loop_eq a.domains b.domains h2 hs.domains (fun i h0 h1 h2 h3 => by
      have := hs.domains
      simp (disch := omega) only [palingref15_Same_L2, h1, nth_getI h2, nth_getI h3, rInts_spec (hs.peers _ (getI_mem h2)), wr64, bind_ite, Option.bind_some, dif1, dif2, dif3, dif4, dif5, dif6, dif7, dnot, ibeq, ibne, decide_eq_true_eq, if_not2, ge_iff_le, gt_iff_lt, fst_ret, Bool.false_eq_true, decide_false, mrg1, mrg2, mrg3, mrg4, mrg5, mrg6, mrg7, decide_true, if_true]
      rw [domain_eq]
      first | refine fpos ?_ | refine fneg ?_
      grind) (by simp [palingref15_Same_L2]),
    loop_eq a.floods b.floods h3 hs.floods (fun i h0 h1 h2 h3 => by
      have := hs.floods
      simp (disch := omega) only [palingref15_Same_L3, h1, nth_getI h2, nth_getI h3, rAddrs_spec (hs.addrs _ (getI_mem h2)), wr64, bind_ite, Option.bind_some, dif1, dif2, dif3, dif4, dif5, dif6, dif7, dnot, ibeq, ibne, decide_eq_true_eq, if_not2, ge_iff_le, gt_iff_lt, fst_ret, Bool.false_eq_true, decide_false, mrg1, mrg2, mrg3, mrg4, mrg5, mrg6, mrg7, decide_true, if_true]
      rw [flood_eq]
      first | refine fpos ?_ | refine fneg ?_
      grind) (by simp [palingref15_Same_L3]),
    loop_eq a.vrfs b.vrfs h4 hs.vrfs (fun i h0 h1 h2 h3 => by
      have := hs.vrfs
      simp (disch := omega) only [palingref15_Same_L4, h1, nth_getI h2, nth_getI h3, seqB_dec, rInts_spec (hs.imports _ (getI_mem h2)), rInts_spec (hs.exports _ (getI_mem h2)), wr64, bind_ite, Option.bind_some, dif1, dif2, dif3, dif4, dif5, dif6, dif7, dnot, ibeq, ibne, decide_eq_true_eq, if_not2, ge_iff_le, gt_iff_lt, fst_ret, Bool.false_eq_true, decide_false, mrg1, mrg2, mrg3, mrg4, mrg5, mrg6, mrg7, decide_true, if_true]
      rw [vrf_eq]
      first | refine fpos ?_ | refine fneg ?_
      grind) (by simp [palingref15_Same_L4])]
  simp only [bind_ite, Option.bind_some, dif1, dif2, dif3, dif4, dif5, dif6, dif7, dnot, ibeq, ibne, decide_eq_true_eq, if_not2, ge_iff_le, gt_iff_lt, fst_ret, Bool.false_eq_true, decide_false]
  refine sdec ?_
  rw [net_eq]
  obtain ⟨t1, t2, t3, t4⟩ := ht
  simp [t1, t2, t3, t4]

/-! ### A copy -/
/-- An index runs through a list and sets each to what it is. -/
theorem loop_setsame {α ρ : Type} [Inhabited α] {f : List α × Int → Option ((List α × Int) ⊕ ρ)} (l : List α) (out : List α → ρ) (hb : Few l)
    (h1 : ∀ i : Int, 0 ≤ i → i < l.length → inL l i → f (l, i) = some (.inl (l, i + 1))) (h2 : f (l, l.length) = some (.inr (out l))) : loopM f (l, 0) = some (out l) := by
  have hb' := hb
  unfold Few at hb'
  exact loopM_trace (fun i => (l, (i : Int))) l.length (by omega) (fun i hi => by rw [h1 i (by omega) (by omega) ⟨by omega, by omega⟩]; simp) h2
theorem set_getI {α : Type} [Inhabited α] {l : List α} {i : Int} (h : inL l i) : l.set i.toNat (getI l i) = l := by
  have h2 := getI_get? h
  apply List.ext_getElem?
  intro k
  rw [List.getElem?_set]
  split
  · rename_i e; subst e; split
    · exact h2.symm
    · have := h.2; have := h.1; omega
  · rfl

theorem roomyN {α : Type} {l : List α} {b : Nat} (h : Few l) (hb : b ≤ 100000000 := by decide) : roomy b l = true := roomy_few (by unfold Few at h; omega) hb
theorem Clone_Device_spec {l : List Api_Device} (h : Few l) : slices_Clone_Device l = some l := if_pos (roomyN h)
theorem Clone_Port_spec {l : List Api_Port} (h : Few l) : slices_Clone_Port l = some l := if_pos (roomyN h)
theorem Clone_Link_spec {l : List Api_Link} (h : Few l) : slices_Clone_Link l = some l := if_pos (roomyN h)
theorem Clone_Domain_spec {l : List Api_Domain} (h : Few l) : slices_Clone_Domain l = some l := if_pos (roomyN h)
theorem Clone_Static_spec {l : List Api_Static} (h : Few l) : slices_Clone_Static l = some l := if_pos (roomyN h)
theorem Clone_Flood_spec {l : List Api_Flood} (h : Few l) : slices_Clone_Flood l = some l := if_pos (roomyN h)
theorem Clone_Vrf_spec {l : List Api_Vrf} (h : Few l) : slices_Clone_Vrf l = some l := if_pos (roomyN h)
theorem Clone_Irb_spec {l : List Api_Irb} (h : Few l) : slices_Clone_Irb l = some l := if_pos (roomyN h)
theorem Clone_int_spec {l : List Int} (h : Few l) : slices_Clone_int l = some l := if_pos (roomyN h)
theorem Clone_uint32_spec {l : List Int} (h : Few l) : slices_Clone_uint32 l = some l := if_pos (roomyN h)
theorem names_Copy_spec {a : Api_Net} (hs : SmN a) : names_Copy a = some (a.devices, a.ports, a.links, a.domains, a.statics, a.floods, a.vrfs, a.irbs, a.ports.length, a.domains.length, a.floods.length, a.vrfs.length) := by
  simp only [names_Copy, Clone_Device_spec hs.devices, Clone_Port_spec hs.ports, Clone_Link_spec hs.links, Clone_Domain_spec hs.domains, Clone_Static_spec hs.statics, Clone_Flood_spec hs.floods, Clone_Vrf_spec hs.vrfs, Clone_Irb_spec hs.irbs, Option.bind_some]
  rw [loop_setsame a.ports id hs.ports (fun i h0 h1 h2 => by
    have := hs.ports
    have hw := wr64 (n := i + 1) (by omega) (by omega)
    simp only [names_Copy_L1, h1, lin_dec, h2, getI_get? h2, Clone_int_spec (hs.tagged _ (getI_mem h2)), decide_true, if_true, Option.bind_some, hw]
    rw [set_getI h2]) (by simp [names_Copy_L1])]
  simp only [id, Option.bind_some]
  rw [loop_setsame a.domains id hs.domains (fun i h0 h1 h2 => by
    have := hs.domains
    have hw := wr64 (n := i + 1) (by omega) (by omega)
    simp only [names_Copy_L2, h1, lin_dec, h2, getI_get? h2, Clone_int_spec (hs.peers _ (getI_mem h2)), decide_true, if_true, Option.bind_some, hw]
    rw [set_getI h2]) (by simp [names_Copy_L2])]
  simp only [id, Option.bind_some]
  rw [loop_setsame a.floods id hs.floods (fun i h0 h1 h2 => by
    have := hs.floods
    have hw := wr64 (n := i + 1) (by omega) (by omega)
    simp only [names_Copy_L3, h1, lin_dec, h2, getI_get? h2, Clone_uint32_spec (hs.addrs _ (getI_mem h2)), decide_true, if_true, Option.bind_some, hw]
    rw [set_getI h2]) (by simp [names_Copy_L3])]
  simp only [id, Option.bind_some]
  rw [loop_setsame a.vrfs id hs.vrfs (fun i h0 h1 h2 => by
    have := hs.vrfs
    have hw := wr64 (n := i + 1) (by omega) (by omega)
    simp only [names_Copy_L4, h1, lin_dec, h2, getI_get? h2, Clone_int_spec (hs.imports _ (getI_mem h2)), Clone_int_spec (hs.exports _ (getI_mem h2)), decide_true, if_true, Option.bind_some, hw]
    rw [set_getI h2, getI_get? h2]
    simp only [Option.bind_some]
    rw [set_getI h2]) (by simp [names_Copy_L4])]
  rfl

theorem namesRights (a b : Api_Net) (_ : a.Ok) (_ : b.Ok) : palinglaw15_NamesRights a b = some true := by
  simp only [palinglaw15_NamesRights, works15, Great_spec, bind_ite, Option.bind_some, dif1, dif2, dif3, dif4, dif5, dif6, dif7, dnot, ibeq, ibne, decide_eq_true_eq, if_not2, ge_iff_le, gt_iff_lt, fst_ret, Bool.false_eq_true, decide_false]
  by_cases ha : BndN a 200 100
  case neg => simp [ha]
  by_cases hb : BndN b 200 100
  case neg => simp [ha, hb]
  have hs := ha.sm
  have hc := names_Copy_spec hs
  simp only [ha, hb, not_true_eq_false, if_false, if_true, names_Right_spec hs, rRight_spec hs, names_Same_spec hs, rSame_spec hs, hc, Option.bind_some, beq_self_eq_true, decide_true]
end
end Go.Eng
