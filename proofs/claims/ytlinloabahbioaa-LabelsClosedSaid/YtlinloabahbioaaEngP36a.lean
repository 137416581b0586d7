/- Plain laws of chapters 20, 30, 36: addresses, leaks, routes, chosen addresses. -/
import Derived.Test.YtlinloabahbioaaEngPB
import Derived.Test.YtlinloabahbioaaEngP15
set_option linter.unusedVariables false
set_option linter.unusedSectionVars false
set_option linter.unusedSimpArgs false
namespace Go.Eng
open Go Classical
attribute [local congr] ite_cg

/-! ### Gathering that may stop -/
theorem gatherI_sorted {α : Type} [Inhabited α] {l : List α} {P : Int → α → Prop} : (gatherI l P (fun i _ => i)).Pairwise (· < ·) := by
  have key : ∀ (l : List α) (k : Nat), (((l.zipIdx k).filterMap fun q => if P q.2 q.1 then some (q.2 : Int) else none).Pairwise (· < ·)) ∧ ∀ x ∈ ((l.zipIdx k).filterMap fun q => if P q.2 q.1 then some (q.2 : Int) else none), (k : Int) ≤ x := by
    intro l
    induction l with
    | nil => intro k; simp
    | cons a l ih =>
      intro k
      obtain ⟨h1, h2⟩ := ih (k + 1)
      rw [List.zipIdx_cons, List.filterMap_cons]
      by_cases hp : P k a
      · simp only [hp, if_true]
        refine ⟨List.pairwise_cons.2 ⟨fun x hx => by have := h2 x hx; omega, h1⟩, fun x hx => ?_⟩
        rcases List.mem_cons.1 hx with rfl | hx
        · omega
        · have := h2 x hx; omega
      · simp only [hp, if_false]
        exact ⟨h1, fun x hx => by have := h2 x hx; omega⟩
  exact (key l 0).1

theorem loop_gatherx {α β : Type} [Inhabited α] {f : List β × Int → Option ((List β × Int) ⊕ (Unit ⊕ List β))} (l : List α) (X P : Int → α → Prop) (e : Int → α → β) (hb : Few l)
    (h1 : ∀ (i : Int) (s : List β), 0 ≤ i → i < l.length → inL l i → s.length ≤ i → f (s, i) = some (if X i (getI l i) then .inr (.inl ()) else .inl (if P i (getI l i) then s ++ [e i (getI l i)] else s, i + 1)))
    (h2 : ∀ s, f (s, l.length) = some (.inr (.inr s))) : loopM f ([], 0) = if ∃ i, inL l i ∧ X i (getI l i) then some (.inl ()) else some (.inr (gatherI l P e)) := by
  by_cases hx : ∃ i, inL l i ∧ X i (getI l i)
  · rw [if_pos hx]
    obtain ⟨i0, hi0, hX⟩ := hx
    obtain ⟨r, hr, hq⟩ := loopM_rule (f := f) (fun s => 0 ≤ s.2 ∧ s.2 ≤ i0 ∧ s.1.length ≤ s.2) (fun r => r = .inl ()) (fun s => (i0 - s.2).toNat) (s := ([], 0)) (fun s hs => by
      obtain ⟨s, i⟩ := s
      obtain ⟨g0, g1, g2⟩ := hs
      simp only at g0 g1 g2
      have h0 := hi0.1; have hl := hi0.2
      rw [h1 i s g0 (by omega) ⟨g0, by omega⟩ g2]
      by_cases hXi : X i (getI l i)
      · exact ⟨_, rfl, by simp [hXi]⟩
      · have hne : i ≠ i0 := fun e => hXi (e ▸ hX)
        refine ⟨_, rfl, ?_⟩
        rw [if_neg hXi]
        simp only
        refine ⟨⟨by omega, by omega, ?_⟩, by omega⟩
        split
        · simp; omega
        · omega) ⟨by simp, hi0.1, by simp⟩ (by simp; have := hi0.2; omega)
    rw [hr, hq]
  · rw [if_neg hx]
    exact loop_gather l P e (out := fun s => Sum.inr s) hb (fun i s a b c d => by rw [h1 i s a b c d, if_neg (fun h => hx ⟨i, c, h⟩)]) h2

/-! ### Prefixes -/
def kOf (p : Api_Prefix) : Nat := (32 - p.bits).toNat
def pw (k : Nat) : Int := ((2 ^ k : Nat) : Int)
def firstA (p : Api_Prefix) : Int := p.addr - p.addr % pw (kOf p)
def lastA (p : Api_Prefix) : Int := p.addr - p.addr % pw (kOf p) + (pw (kOf p) - 1)
structure PreOk (p : Api_Prefix) : Prop where
  b0 : 0 ≤ p.bits
  b1 : p.bits ≤ 32
  a0 : 0 ≤ p.addr
  a1 : p.addr < 4294967296
theorem pw_pos (k : Nat) : 0 < pw k := by unfold pw; have := Nat.two_pow_pos k; omega
theorem pw_le {k : Nat} (h : k ≤ 32) : pw k ≤ 4294967296 := by
  unfold pw
  have : 2 ^ k ≤ 2 ^ 32 := Nat.pow_le_pow_right (by decide) h
  omega
theorem kOf_le {p : Api_Prefix} (h : PreOk p) : kOf p ≤ 32 := by have := h.b0; unfold kOf; omega
theorem addr_rest_spec {p : Api_Prefix} (h : PreOk p) : addr_rest p = some (pw (kOf p) - 1) := by
  have h0 := h.b0; have h1 := h.b1
  unfold addr_rest
  rw [wr64 (by omega) (by omega)]
  simp only [show decide (0 ≤ 32 - p.bits) = true from decide_eq_true (by omega), if_true]
  have hk : min (32 - p.bits).toNat 32 = kOf p := by unfold kOf; omega
  rw [hk, Int.one_mul]
  have hp := pw_pos (kOf p)
  have hl := pw_le (kOf_le h)
  have e : ((2 : Int) ^ kOf p) = pw (kOf p) := by unfold pw; simp
  rw [e]
  congr 1
  by_cases hz : pw (kOf p) = 4294967296
  · rw [hz]; decide
  · have e1 : wr_u32 (pw (kOf p)) = pw (kOf p) := wr32 (by omega) (by omega)
    rw [e1, wr32 (by omega) (by omega)]
theorem addr_Right_spec {p : Api_Prefix} (h : PreOk p) : addr_Right p = some true := by
  have h0 := h.b0; have h1 := h.b1
  simp [addr_Right, h0, h1]
theorem first_le {p : Api_Prefix} (h : PreOk p) : 0 ≤ firstA p ∧ firstA p ≤ p.addr ∧ p.addr ≤ lastA p ∧ lastA p < 4294967296 := by
  have hp := pw_pos (kOf p)
  have hm := Int.emod_nonneg p.addr (by omega : pw (kOf p) ≠ 0)
  have hm2 := Int.emod_lt_of_pos p.addr hp
  have hd := Int.mul_ediv_add_emod p.addr (pw (kOf p))
  have a0 := h.a0; have a1 := h.a1
  refine ⟨?_, ?_, ?_, ?_⟩
  · unfold firstA
    have := Int.ediv_nonneg a0 (by omega : 0 ≤ pw (kOf p))
    have := Int.mul_nonneg (by omega : 0 ≤ pw (kOf p)) this
    omega
  · unfold firstA; omega
  · unfold lastA; omega
  · have := or_u32 (x := p.addr) (k := kOf p) a0 a1 (kOf_le h)
    have hw : bits_or .u32 p.addr ((2 ^ kOf p - 1 : Nat) : Int) < 4294967296 := by
      unfold bits_or IntKind.wrap
      simp [IntKind.signed, IntKind.bits]
      omega
    unfold lastA pw
    omega
def HasP (p : Api_Prefix) (a : Int) : Prop := firstA p ≤ a ∧ a ≤ lastA p
theorem hasP_div {p : Api_Prefix} {a : Int} : p.addr / pw (kOf p) = a / pw (kOf p) ↔ HasP p a := by
  have hp := pw_pos (kOf p)
  have hd := Int.mul_ediv_add_emod p.addr (pw (kOf p))
  have hd2 := Int.mul_ediv_add_emod a (pw (kOf p))
  have hm := Int.emod_nonneg a (by omega : pw (kOf p) ≠ 0)
  have hm2 := Int.emod_lt_of_pos a hp
  unfold HasP firstA lastA
  constructor
  · intro h; rw [← h] at hd2; omega
  · rintro ⟨h1, h2⟩
    have e1 : p.addr - p.addr % pw (kOf p) = pw (kOf p) * (p.addr / pw (kOf p)) := by omega
    rw [e1] at h1 h2
    have g1 : p.addr / pw (kOf p) ≤ a / pw (kOf p) := by
      rw [Int.le_ediv_iff_mul_le hp, Int.mul_comm]; exact h1
    have g2 : a / pw (kOf p) < p.addr / pw (kOf p) + 1 := by
      rw [Int.ediv_lt_iff_lt_mul hp, Int.add_mul, Int.mul_comm]; omega
    omega
theorem addr_Has_spec {p : Api_Prefix} {a : Int} (h : PreOk p) (h0 : 0 ≤ a) (h1 : a < 4294967296) : addr_Has p a = some (decide (HasP p a)) := by
  have := xorNot_u32 (x := p.addr) (y := a) (k := kOf p) h.a0 h.a1 h0 h1 (kOf_le h)
  have e : ((2 ^ kOf p - 1 : Nat) : Int) = pw (kOf p) - 1 := by unfold pw; have := Nat.two_pow_pos (kOf p); omega
  rw [e] at this
  simp only [addr_Has, addr_Right_spec h, addr_rest_spec h, Option.bind_some, if_true, ibeq]
  exact sdec (this.trans hasP_div)

/-! ### Leaks, and what an interface sees -/
section
variable {n : Api_Net}
def LeaksP (n : Api_Net) (a b : Int) : Prop := a = b ∨ (getI n.vrfs a).dev = (getI n.vrfs b).dev ∧ ∃ t ∈ (getI n.vrfs a).exports, t ∈ (getI n.vrfs b).imports
theorem vrfs_Leaks_spec (hs : SmN n) (hr : RightP n) {a b : Int} (ha : inL n.vrfs a) (hb : inL n.vrfs b) : vrfs_Leaks n a b = some (decide (LeaksP n a b)) := by
  have a0 : ¬ a < 0 := by have := ha.1; omega
  have b0 : ¬ b < 0 := by have := hb.1; omega
  have a1 : ¬ (n.vrfs.length : Int) ≤ a := by have := ha.2; omega
  have b1 : ¬ (n.vrfs.length : Int) ≤ b := by have := hb.2; omega
  have fi := hs.imports _ (getI_mem hb)
  have fe := hs.exports _ (getI_mem ha)
  have hc : slices_ContainsFunc_int_Leaks_1 (getI n.vrfs a).exports (getI n.vrfs b) = some (decide (∃ t ∈ (getI n.vrfs a).exports, t ∈ (getI n.vrfs b).imports)) := by
    unfold slices_ContainsFunc_int_Leaks_1 slices_IndexFunc_int_Leaks_1
    rw [loop_first (getI n.vrfs a).exports (fun t => t ∈ (getI n.vrfs b).imports) fe (fun i h0 h1 h2 => by
      simp (disch := omega) only [slices_IndexFunc_int_Leaks_1_L1, vrfs_Leaks_1, Contains_int_spec fi, h1, nth_getI h2, wr64, bind_ite, Option.bind_some, dif1, dif2, dif3, dif4, dif5, dif6, dif7, dnot, ibeq, ibne, decide_eq_true_eq, if_not2, ge_iff_le, gt_iff_lt, fst_ret, Bool.false_eq_true, decide_false, decide_true, if_true]
      exact fpos Iff.rfl) (by simp [slices_IndexFunc_int_Leaks_1_L1])]
    simp only [bind_ite, Option.bind_some, dif1, dif2, dif3, dif4, dif5, dif6, dif7, dnot, ibeq, ibne, decide_eq_true_eq, if_not2, ge_iff_le, gt_iff_lt, fst_ret, Bool.false_eq_true, decide_false]
    refine sdec ?_
    have := fstI_none_mem (l := (getI n.vrfs a).exports) (P := fun t => t ∈ (getI n.vrfs b).imports)
    constructor
    · intro h
      apply Classical.byContradiction
      intro hn
      have := this.2 (fun y hy e => hn ⟨y, hy, e⟩); omega
    · rintro ⟨t, h1, h2⟩
      apply Classical.byContradiction
      intro hn
      exact this.1 (by omega) t h1 h2
  simp only [vrfs_Leaks, a0, b0, a1, b1, names_Right_spec hs, hr, nth_getI ha, nth_getI hb, hc, bind_ite, Option.bind_some, dif1, dif2, dif3, dif4, dif5, dif6, dif7, dnot, ibeq, ibne, decide_eq_true_eq, if_not2, ge_iff_le, gt_iff_lt, fst_ret, Bool.false_eq_true, decide_false, decide_true, if_false, Bool.not_true]
  exact sdec (by unfold LeaksP; simp)

noncomputable def irbDev (n : Api_Net) (i : Int) : Int := (getI n.domains (getI n.irbs i).domain).dev
theorem RightP.irb (hr : RightP n) {i : Int} (hi : inL n.irbs i) : IrbP n i (getI n.irbs i) := hr.irbs i hi
theorem route_device_spec (hr : RightP n) {i : Int} (hi : inL n.irbs i) : route_device n i = some (irbDev n i) := by
  simp only [route_device, nth_getI hi, nth_getI (hr.irb hi).1, Option.bind_some]; rfl
def SeesP (n : Api_Net) (irb i : Int) : Prop := irbDev n irb = irbDev n i ∧ LeaksP n (getI n.irbs i).vrf (getI n.irbs irb).vrf
theorem route_sees_spec (hs : SmN n) (hr : RightP n) {irb i : Int} (h1 : inL n.irbs irb) (h2 : inL n.irbs i) : route_sees n irb i = some (decide (SeesP n irb i)) := by
  simp only [route_sees, route_device_spec hr h1, route_device_spec hr h2, nth_getI h1, nth_getI h2, vrfs_Leaks_spec hs hr (hr.irb h2).2.1 (hr.irb h1).2.1, bind_ite, Option.bind_some, dif1, dif2, dif3, dif4, dif5, dif6, dif7, dnot, ibeq, ibne, decide_eq_true_eq, if_not2, ge_iff_le, gt_iff_lt, fst_ret, Bool.false_eq_true, decide_false]
  exact sdec Iff.rfl

theorem irb_pre (ho : n.Ok) (hr : RightP n) {i : Int} (hi : inL n.irbs i) : PreOk (getI n.irbs i).net ∧ 1 ≤ (getI n.irbs i).net.bits ∧ (getI n.irbs i).net.bits ≤ 30 := by
  have h := (hr.irb hi).2.2.2.2
  have h2 : okI .u32 (getI n.irbs i).net.addr := (ho.2.2.2.2.2.2.2.1.2 _ (getI_mem hi)).2.2.2.1.1
  simp [okI, IntKind.min, IntKind.max, IntKind.signed, IntKind.bits] at h2
  exact ⟨⟨by omega, by omega, by omega, by omega⟩, h.1, h.2⟩

/-! ### Where an address is led -/
noncomputable def keyI (n : Api_Net) (irb i : Int) : Int := 2 * (getI n.irbs i).net.bits + if (getI n.irbs i).vrf = (getI n.irbs irb).vrf then 1 else 0
theorem lookup_2_spec {a b irb : Int} (hr : RightP n) (ha : inL n.irbs a) (hb : inL n.irbs b) (hi : inL n.irbs irb) : ∃ r, route_lookup_2 a b n n irb = some r ∧ (r > 0 ↔ keyI n irb b < keyI n irb a) := by
  have h1 := (hr.irb ha).2.2.2.2
  have h2 := (hr.irb hb).2.2.2.2
  simp only [route_lookup_2, route_lookup_1, nth_getI ha, nth_getI hb, nth_getI hi, bind_ite, Option.bind_some, dif1, dif2, dif3, dif4, dif5, dif6, dif7, dnot, ibeq, ibne, decide_eq_true_eq, if_not2, ge_iff_le, gt_iff_lt, fst_ret, Bool.false_eq_true, decide_false]
  by_cases hn : (getI n.irbs a).net.bits = (getI n.irbs b).net.bits
  · simp only [hn, ne_eq, not_true_eq_false, if_false, if_true]
    by_cases c1 : (getI n.irbs a).vrf = (getI n.irbs irb).vrf <;> by_cases c2 : (getI n.irbs b).vrf = (getI n.irbs irb).vrf <;> simp only [c1, c2, if_true, if_false, Option.bind_some] <;> refine ⟨_, rfl, ?_⟩ <;> rw [wr64 (by omega) (by omega)] <;> unfold keyI <;> simp [c1, c2, hn] <;> omega
  · simp only [hn, ne_eq, not_false_eq_true, if_true, if_false]
    refine ⟨_, rfl, ?_⟩
    rw [wr64 (by omega) (by omega)]
    unfold keyI
    split <;> split <;> omega

/-- The best of a list, the first of alike ones. -/
def BestP (key : Int → Int) (l : List Int) (m : Int) : Prop := ∃ k, inL l k ∧ getI l k = m ∧ ∀ j, inL l j → key (getI l j) ≤ key m ∧ (j < k → key (getI l j) < key m)
theorem MaxFunc_spec {l : List Int} {irb : Int} (hr : RightP n) (hl : Few l) (h0 : 0 < l.length) (hall : ∀ x ∈ l, inL n.irbs x) (hi : inL n.irbs irb) : ∃ m, slices_MaxFunc_int_lookup_2 l n n irb = some m ∧ BestP (keyI n irb) l m := by
  have hz : inL l 0 := ⟨by omega, by omega⟩
  have g0 : ¬ (l.length : Int) < 1 := by omega
  simp only [slices_MaxFunc_int_lookup_2, g0, nth_getI hz, bind_ite, Option.bind_some, dif1, dif2, dif3, dif4, dif5, dif6, dif7, dnot, ibeq, ibne, decide_eq_true_eq, if_not2, ge_iff_le, gt_iff_lt, fst_ret, Bool.false_eq_true, decide_false, if_false]
  obtain ⟨r, hr2, hq⟩ := loopM_rule (f := fun s : Int × Int => match s with | (v8, v9) => slices_MaxFunc_int_lookup_2_L1 l n n irb v8 v9)
    (fun s => 1 ≤ s.2 ∧ s.2 ≤ l.length ∧ ∃ k, inL l k ∧ k < s.2 ∧ getI l k = s.1 ∧ ∀ j, inL l j → j < s.2 → keyI n irb (getI l j) ≤ keyI n irb s.1 ∧ (j < k → keyI n irb (getI l j) < keyI n irb s.1))
    (fun m => BestP (keyI n irb) l m) (fun s => (l.length - s.2).toNat) (s := (getI l 0, 1)) (fun s hs => by
      obtain ⟨m, i⟩ := s
      obtain ⟨h1, h2, k, hk, hki, hm, hall2⟩ := hs
      simp only at h1 h2 hki hm hall2 ⊢
      by_cases hlt : i < l.length
      · have hii : inL l i := ⟨by omega, hlt⟩
        have hmI : inL n.irbs m := hm ▸ hall _ (getI_mem hk)
        obtain ⟨r, e1, e2⟩ := lookup_2_spec hr (hall _ (getI_mem hii)) hmI hi
        have hw := wr64 (n := i + 1) (by omega) (by omega)
        simp only [slices_MaxFunc_int_lookup_2_L1, hlt, nth_getI hii, e1, hw, bind_ite, Option.bind_some, dif1, dif2, dif3, dif4, dif5, dif6, dif7, dnot, ibeq, ibne, decide_eq_true_eq, if_not2, ge_iff_le, gt_iff_lt, fst_ret, Bool.false_eq_true, decide_false, decide_true, if_true]
        by_cases hg : keyI n irb m < keyI n irb (getI l i)
        · rw [if_pos (e2.2 hg)]
          refine ⟨_, rfl, ⟨by omega, by omega, i, hii, by omega, rfl, fun j hj hjl => ?_⟩, by omega⟩
          simp only at hjl ⊢
          by_cases hji : j = i
          · subst hji; exact ⟨Int.le_refl _, fun h => by omega⟩
          · have := (hall2 j hj (by omega)).1
            exact ⟨by omega, fun _ => by omega⟩
        · rw [if_neg (fun h => hg (e2.1 h))]
          refine ⟨_, rfl, ⟨by omega, by omega, k, hk, by omega, hm, fun j hj hjl => ?_⟩, by omega⟩
          simp only at hjl ⊢
          by_cases hji : j = i
          · subst hji; exact ⟨by omega, fun h => by omega⟩
          · exact hall2 j hj (by omega)
      · have : i = l.length := by omega
        subst this
        refine ⟨.inr m, by simp [slices_MaxFunc_int_lookup_2_L1], k, hk, hm, fun j hj => ?_⟩
        exact hall2 j hj hj.2) ⟨by simp, by simp; omega, 0, hz, by simp, rfl, fun j hj hjl => by
          simp only at hjl
          have : j = 0 := by have := hj.1; omega
          subst this; exact ⟨Int.le_refl _, fun h => by omega⟩⟩ (by simp only; unfold Few at hl; omega)
  exact ⟨r, by rw [hr2]; rfl, hq⟩

def OwnA (n : Api_Net) (irb x : Int) : Prop := ∃ i, inL n.irbs i ∧ (irbDev n i = irbDev n irb ∧ (getI n.irbs i).net.addr = x)
def CandP (n : Api_Net) (irb x i : Int) : Prop := HasP (getI n.irbs i).net x ∧ SeesP n irb i
/-- What a look-up answers. -/
structure LedP (n : Api_Net) (irb x m : Int) : Prop where
  own : ¬ OwnA n irb x
  im : inL n.irbs m
  cand : CandP n irb x m
  best : ∀ j, inL n.irbs j → CandP n irb x j → keyI n irb j ≤ keyI n irb m ∧ (j < m → keyI n irb j < keyI n irb m)
def NoLed (n : Api_Net) (irb x : Int) : Prop := OwnA n irb x ∨ ∀ j, inL n.irbs j → ¬ CandP n irb x j

theorem route_lookup_spec (ho : n.Ok) (hs : SmN n) (hr : RightP n) {irb x : Int} (hi : inL n.irbs irb) (x0 : 0 ≤ x) (x1 : x < 4294967296) :
    ∃ r, route_lookup n irb x = some r ∧ ((r = (0, false) ∧ NoLed n irb x) ∨ ∃ m, r = (m, true) ∧ LedP n irb x m) := by
  have hf := hs.irbs
  have hcand : ∀ y, y ∈ gatherI n.irbs (fun i _ => CandP n irb x i) (fun i _ => i) ↔ inL n.irbs y ∧ CandP n irb x y := by
    intro y
    rw [mem_gatherI]
    constructor
    · rintro ⟨i, h1, h2, rfl⟩; exact ⟨h1, h2⟩
    · rintro ⟨h1, h2⟩; exact ⟨y, h1, h2, rfl⟩
  unfold route_lookup
  rw [loop_gatherx n.irbs (fun i y => irbDev n i = irbDev n irb ∧ y.net.addr = x) (fun i _ => CandP n irb x i) (fun i _ => i) hf (fun i s h0 h1 h2 h3 => by
    have h5 : roomy 8 (s ++ [i]) = true := roomy_few (by simp; omega)
    have hP := (irb_pre ho hr h2).1
    simp (disch := omega) only [route_lookup_L1, route_lookup_J2, h1, nth_getI h2, route_device_spec hr h2, route_device_spec hr hi, addr_Has_spec hP x0 x1, route_sees_spec hs hr hi h2, h5, wr64, bind_ite, Option.bind_some, dif1, dif2, dif3, dif4, dif5, dif6, dif7, dnot, ibeq, ibne, decide_eq_true_eq, if_not2, ge_iff_le, gt_iff_lt, fst_ret, Bool.false_eq_true, decide_false, mrg1, mrg2, mrg3, mrg4, mrg5, mrg6, mrg7, decide_true, if_true]
    unfold CandP
    by_cases c1 : irbDev n i = irbDev n irb ∧ (getI n.irbs i).net.addr = x
    · simp [c1]
    · simp only [c1, if_false]
      by_cases c2 : HasP (getI n.irbs i).net x <;> by_cases c3 : SeesP n irb i <;> simp [c2, c3]) (fun s => by simp [route_lookup_L1])]
  by_cases hown : OwnA n irb x
  · have hown' : ∃ i, inL n.irbs i ∧ (irbDev n i = irbDev n irb ∧ (getI n.irbs i).net.addr = x) := hown
    rw [if_pos hown']
    exact ⟨_, rfl, .inl ⟨rfl, .inl hown⟩⟩
  · have hown' : ¬ ∃ i, inL n.irbs i ∧ (irbDev n i = irbDev n irb ∧ (getI n.irbs i).net.addr = x) := hown
    rw [if_neg hown']
    simp only [Option.bind_some, ibeq, decide_eq_true_eq]
    have hsort := gatherI_sorted (l := n.irbs) (P := fun i _ => CandP n irb x i)
    have hlen := gatherI_len (l := n.irbs) (P := fun i _ => CandP n irb x i) (e := fun i _ => i)
    generalize gatherI n.irbs (fun i _ => CandP n irb x i) (fun i _ => i) = l at *
    by_cases hl : (l.length : Int) = 0
    · rw [if_pos hl]
      refine ⟨_, rfl, .inl ⟨rfl, .inr fun j hj hc => ?_⟩⟩
      have := (hcand j).2 ⟨hj, hc⟩
      rw [List.eq_nil_of_length_eq_zero (by omega : l.length = 0)] at this
      cases this
    · rw [if_neg hl]
      obtain ⟨m, hm, k, hk, rfl, hbest⟩ := MaxFunc_spec (n := n) (irb := irb) hr (by unfold Few at hf ⊢; omega) (by omega) (fun y hy => ((hcand y).1 hy).1) hi
      rw [hm]
      have hmem := (hcand _).1 (getI_mem hk)
      refine ⟨_, rfl, .inr ⟨_, rfl, hown, hmem.1, hmem.2, fun j hj hc => ?_⟩⟩
      obtain ⟨q, hq, rfl⟩ := mem_getI ((hcand j).2 ⟨hj, hc⟩)
      refine ⟨(hbest q hq).1, fun hlt => (hbest q hq).2 ?_⟩
      apply Classical.byContradiction
      intro hn
      have hk0 := hk.1; have hq0 := hq.1; have hq1 := hq.2; have hk1 := hk.2
      by_cases e : q = k
      · subst e; omega
      · have := List.pairwise_iff_getElem.1 hsort k.toNat q.toNat (by omega) (by omega) (by omega)
        have e1 := (List.getElem?_eq_some_iff.1 (getI_get? hk)).2
        have e2 := (List.getElem?_eq_some_iff.1 (getI_get? hq)).2
        rw [e1, e2] at this
        omega

/-- The look-up in any net. -/
theorem route_Lookup_spec (ho : n.Ok) (hs : SmN n) {irb x : Int} (x0 : 0 ≤ x) (x1 : x < 4294967296) :
    ∃ r, route_Lookup n irb x = some r ∧ ((r = (0, false) ∧ (RightP n → inL n.irbs irb → NoLed n irb x)) ∨ ∃ m, r = (m, true) ∧ RightP n ∧ inL n.irbs irb ∧ LedP n irb x m) := by
  by_cases hi : inL n.irbs irb
  case neg =>
    have : irb < 0 ∨ (n.irbs.length : Int) ≤ irb := by unfold inL at hi; omega
    refine ⟨(0, false), ?_, .inl ⟨rfl, fun _ h => absurd h hi⟩⟩
    rcases this with h | h
    · simp [route_Lookup, h]
    · simp only [route_Lookup, bind_ite, Option.bind_some, dif1, dif2, dif3, dif4, dif5, dif6, dif7, dnot, ibeq, ibne, decide_eq_true_eq, if_not2, ge_iff_le, gt_iff_lt, fst_ret, Bool.false_eq_true, decide_false, h]; simp
  have a0 : ¬ irb < 0 := by have := hi.1; omega
  have a1 : ¬ (n.irbs.length : Int) ≤ irb := by have := hi.2; omega
  by_cases hr : RightP n
  case neg => exact ⟨(0, false), by simp only [route_Lookup, a0, a1, names_Right_spec hs, hr, bind_ite, Option.bind_some, dif1, dif2, dif3, dif4, dif5, dif6, dif7, dnot, ibeq, ibne, decide_eq_true_eq, if_not2, ge_iff_le, gt_iff_lt, fst_ret, Bool.false_eq_true, decide_false]; simp, .inl ⟨rfl, fun h => absurd h hr⟩⟩
  obtain ⟨r, h1, h2⟩ := route_lookup_spec ho hs hr hi x0 x1
  refine ⟨r, ?_, ?_⟩
  · simp only [route_Lookup, a0, a1, names_Right_spec hs, hr, h1, bind_ite, Option.bind_some, dif1, dif2, dif3, dif4, dif5, dif6, dif7, dnot, ibeq, ibne, decide_eq_true_eq, if_not2, ge_iff_le, gt_iff_lt, fst_ret, Bool.false_eq_true, decide_false]; simp
  · rcases h2 with ⟨e, h⟩ | ⟨m, e, h⟩
    · exact .inl ⟨e, fun _ _ => h⟩
    · exact .inr ⟨m, e, hr, hi, h⟩

end
end Go.Eng
