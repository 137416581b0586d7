/- Part of the proof of AuditOrder: plain laws of the printed mirrors. No conditions. -/
import Derived.Test.YtdlaaoajcoogbaaGreatDoorEngGP1
set_option linter.unusedVariables false
set_option linter.unusedSectionVars false
set_option linter.unusedSimpArgs false
namespace Go.Eng
open Go Classical
attribute [local congr] ite_cg

/-! ### Gathering that may stop -/
theorem gatherI_sorted {α : Type} [Inhabited α] {l : List α} {P : Int → α → Prop} : (gatherI l P (fun i _ => i)).Pairwise (· < ·) := by
  have key : ∀ (l : List α) (k : Nat), (((l.zipIdx k).filterMap fun q => if P q.2 q.1 then some (q.2 : Int) else none).Pairwise (· < ·)) ∧ ∀ x ∈ ((l.zipIdx k).filterMap fun q => if P q.2 q.1 then some (q.2 : Int) else none), (k : Int) ≤ x := by
    intro l
    induction l with
    | nil => intro k; simp
    | cons a l ih =>
      intro k
      obtain ⟨h1, h2⟩ := ih (k + 1)
      rw [List.zipIdx_cons, List.filterMap_cons]
      by_cases hp : P k a
      · simp only [hp, if_true]
        refine ⟨List.pairwise_cons.2 ⟨fun x hx => by have := h2 x hx; omega, h1⟩, fun x hx => ?_⟩
        rcases List.mem_cons.1 hx with rfl | hx
        · omega
        · have := h2 x hx; omega
      · simp only [hp, if_false]
        exact ⟨h1, fun x hx => by have := h2 x hx; omega⟩
  exact (key l 0).1

theorem loop_gatherx {α β : Type} [Inhabited α] {f : List β × Int → Option ((List β × Int) ⊕ (Unit ⊕ List β))} (l : List α) (X P : Int → α → Prop) (e : Int → α → β) (hb : Few l)
    (h1 : ∀ (i : Int) (s : List β), 0 ≤ i → i < l.length → inL l i → s.length ≤ i → f (s, i) = some (if X i (getI l i) then .inr (.inl ()) else .inl (if P i (getI l i) then s ++ [e i (getI l i)] else s, i + 1)))
    (h2 : ∀ s, f (s, l.length) = some (.inr (.inr s))) : loopM f ([], 0) = if ∃ i, inL l i ∧ X i (getI l i) then some (.inl ()) else some (.inr (gatherI l P e)) := by
  by_cases hx : ∃ i, inL l i ∧ X i (getI l i)
  · rw [if_pos hx]
    obtain ⟨i0, hi0, hX⟩ := hx
    obtain ⟨r, hr, hq⟩ := loopM_rule (f := f) (fun s => 0 ≤ s.2 ∧ s.2 ≤ i0 ∧ s.1.length ≤ s.2) (fun r => r = .inl ()) (fun s => (i0 - s.2).toNat) (s := ([], 0)) (fun s hs => by
      obtain ⟨s, i⟩ := s
      obtain ⟨g0, g1, g2⟩ := hs
      simp only at g0 g1 g2
      have h0 := hi0.1; have hl := hi0.2
      rw [h1 i s g0 (by omega) ⟨g0, by omega⟩ g2]
      by_cases hXi : X i (getI l i)
      · exact ⟨_, rfl, by simp [hXi]⟩
      · have hne : i ≠ i0 := fun e => hXi (e ▸ hX)
        refine ⟨_, rfl, ?_⟩
        rw [if_neg hXi]
        simp only
        refine ⟨⟨by omega, by omega, ?_⟩, by omega⟩
        split
        · simp; omega
        · omega) ⟨by simp, hi0.1, by simp⟩ (by simp; have := hi0.2; omega)
    rw [hr, hq]
  · rw [if_neg hx]
    exact loop_gather l P e (out := fun s => Sum.inr s) hb (fun i s a b c d => by rw [h1 i s a b c d, if_neg (fun h => hx ⟨i, c, h⟩)]) h2

/-! ### Prefixes -/
def kOf (p : Api_Prefix) : Nat := (32 - p.bits).toNat
def pw (k : Nat) : Int := ((2 ^ k : Nat) : Int)
def firstA (p : Api_Prefix) : Int := p.addr - p.addr % pw (kOf p)
def lastA (p : Api_Prefix) : Int := p.addr - p.addr % pw (kOf p) + (pw (kOf p) - 1)
structure PreOk (p : Api_Prefix) : Prop where
  b0 : 0 ≤ p.bits
  b1 : p.bits ≤ 32
  a0 : 0 ≤ p.addr
  a1 : p.addr < 4294967296
theorem pw_pos (k : Nat) : 0 < pw k := by unfold pw; have := Nat.two_pow_pos k; omega
theorem pw_le {k : Nat} (h : k ≤ 32) : pw k ≤ 4294967296 := by
  unfold pw
  have : 2 ^ k ≤ 2 ^ 32 := Nat.pow_le_pow_right (by decide) h
  omega
theorem kOf_le {p : Api_Prefix} (h : PreOk p) : kOf p ≤ 32 := by have := h.b0; unfold kOf; omega
theorem addr_rest_spec {p : Api_Prefix} (h : PreOk p) : addr_rest p = some (pw (kOf p) - 1) := by
  have h0 := h.b0; have h1 := h.b1
  unfold addr_rest
  rw [wr64 (by omega) (by omega)]
  simp only [show decide (0 ≤ 32 - p.bits) = true from decide_eq_true (by omega), if_true]
  have hk : min (32 - p.bits).toNat 32 = kOf p := by unfold kOf; omega
  rw [hk, Int.one_mul]
  have hp := pw_pos (kOf p)
  have hl := pw_le (kOf_le h)
  have e : ((2 : Int) ^ kOf p) = pw (kOf p) := by unfold pw; simp
  rw [e]
  congr 1
  by_cases hz : pw (kOf p) = 4294967296
  · rw [hz]; decide
  · have e1 : wr_u32 (pw (kOf p)) = pw (kOf p) := wr32 (by omega) (by omega)
    rw [e1, wr32 (by omega) (by omega)]
theorem addr_Right_spec {p : Api_Prefix} (h : PreOk p) : addr_Right p = some true := by
  have h0 := h.b0; have h1 := h.b1
  simp [addr_Right, h0, h1]
theorem first_le {p : Api_Prefix} (h : PreOk p) : 0 ≤ firstA p ∧ firstA p ≤ p.addr ∧ p.addr ≤ lastA p ∧ lastA p < 4294967296 := by
  have hp := pw_pos (kOf p)
  have hm := Int.emod_nonneg p.addr (by omega : pw (kOf p) ≠ 0)
  have hm2 := Int.emod_lt_of_pos p.addr hp
  have hd := Int.mul_ediv_add_emod p.addr (pw (kOf p))
  have a0 := h.a0; have a1 := h.a1
  refine ⟨?_, ?_, ?_, ?_⟩
  · unfold firstA
    have := Int.ediv_nonneg a0 (by omega : 0 ≤ pw (kOf p))
    have := Int.mul_nonneg (by omega : 0 ≤ pw (kOf p)) this
    omega
  · unfold firstA; omega
  · unfold lastA; omega
  · have := or_u32 (x := p.addr) (k := kOf p) a0 a1 (kOf_le h)
    have hw : bits_or .u32 p.addr ((2 ^ kOf p - 1 : Nat) : Int) < 4294967296 := by
      unfold bits_or IntKind.wrap
      simp [IntKind.signed, IntKind.bits]
      omega
    unfold lastA pw
    omega
def HasP (p : Api_Prefix) (a : Int) : Prop := firstA p ≤ a ∧ a ≤ lastA p
theorem hasP_div {p : Api_Prefix} {a : Int} : p.addr / pw (kOf p) = a / pw (kOf p) ↔ HasP p a := by
  have hp := pw_pos (kOf p)
  have hd := Int.mul_ediv_add_emod p.addr (pw (kOf p))
  have hd2 := Int.mul_ediv_add_emod a (pw (kOf p))
  have hm := Int.emod_nonneg a (by omega : pw (kOf p) ≠ 0)
  have hm2 := Int.emod_lt_of_pos a hp
  unfold HasP firstA lastA
  constructor
  · intro h; rw [← h] at hd2; omega
  · rintro ⟨h1, h2⟩
    have e1 : p.addr - p.addr % pw (kOf p) = pw (kOf p) * (p.addr / pw (kOf p)) := by omega
    rw [e1] at h1 h2
    have g1 : p.addr / pw (kOf p) ≤ a / pw (kOf p) := by
      rw [Int.le_ediv_iff_mul_le hp, Int.mul_comm]; exact h1
    have g2 : a / pw (kOf p) < p.addr / pw (kOf p) + 1 := by
      rw [Int.ediv_lt_iff_lt_mul hp, Int.add_mul, Int.mul_comm]; omega
    omega
theorem addr_Has_spec {p : Api_Prefix} {a : Int} (h : PreOk p) (h0 : 0 ≤ a) (h1 : a < 4294967296) : addr_Has p a = some (decide (HasP p a)) := by
  have := xorNot_u32 (x := p.addr) (y := a) (k := kOf p) h.a0 h.a1 h0 h1 (kOf_le h)
  have e : ((2 ^ kOf p - 1 : Nat) : Int) = pw (kOf p) - 1 := by unfold pw; have := Nat.two_pow_pos (kOf p); omega
  rw [e] at this
  simp only [addr_Has, addr_Right_spec h, addr_rest_spec h, Option.bind_some, if_true, ibeq]
  exact sdec (this.trans hasP_div)

/-! ### Leaks, and what an interface sees -/
section
variable {n : Api_Net}
def LeaksP (n : Api_Net) (a b : Int) : Prop := a = b ∨ (getI n.vrfs a).dev = (getI n.vrfs b).dev ∧ ∃ t ∈ (getI n.vrfs a).exports, t ∈ (getI n.vrfs b).imports
theorem vrfs_Leaks_spec (hs : SmN n) (hr : RightP n) {a b : Int} (ha : inL n.vrfs a) (hb : inL n.vrfs b) : vrfs_Leaks n a b = some (decide (LeaksP n a b)) := by
  have a0 : ¬ a < 0 := by have := ha.1; omega
  have b0 : ¬ b < 0 := by have := hb.1; omega
  have a1 : ¬ (n.vrfs.length : Int) ≤ a := by have := ha.2; omega
  have b1 : ¬ (n.vrfs.length : Int) ≤ b := by have := hb.2; omega
  have fi := hs.imports _ (getI_mem hb)
  have fe := hs.exports _ (getI_mem ha)
  have hc : slices_ContainsFunc_int_Leaks_1 (getI n.vrfs a).exports (getI n.vrfs b) = some (decide (∃ t ∈ (getI n.vrfs a).exports, t ∈ (getI n.vrfs b).imports)) := by
    unfold slices_ContainsFunc_int_Leaks_1 slices_IndexFunc_int_Leaks_1
    rw [loop_first (getI n.vrfs a).exports (fun t => t ∈ (getI n.vrfs b).imports) fe (fun i h0 h1 h2 => by
      simp (disch := omega) only [slices_IndexFunc_int_Leaks_1_L1, vrfs_Leaks_1, Contains_int_spec fi, h1, nth_getI h2, wr64, bind_ite, Option.bind_some, dif1, dif2, dif3, dif4, dif5, dif6, dif7, dnot, ibeq, ibne, decide_eq_true_eq, if_not2, ge_iff_le, gt_iff_lt, fst_ret, Bool.false_eq_true, decide_false, decide_true, if_true]
      exact fpos Iff.rfl) (by simp [slices_IndexFunc_int_Leaks_1_L1])]
    simp only [bind_ite, Option.bind_some, dif1, dif2, dif3, dif4, dif5, dif6, dif7, dnot, ibeq, ibne, decide_eq_true_eq, if_not2, ge_iff_le, gt_iff_lt, fst_ret, Bool.false_eq_true, decide_false]
    refine sdec ?_
    have := fstI_none_mem (l := (getI n.vrfs a).exports) (P := fun t => t ∈ (getI n.vrfs b).imports)
    constructor
    · intro h
      apply Classical.byContradiction
      intro hn
      have := this.2 (fun y hy e => hn ⟨y, hy, e⟩); omega
    · rintro ⟨t, h1, h2⟩
      apply Classical.byContradiction
      intro hn
      exact this.1 (by omega) t h1 h2
  simp only [vrfs_Leaks, a0, b0, a1, b1, names_Right_spec hs, hr, nth_getI ha, nth_getI hb, hc, bind_ite, Option.bind_some, dif1, dif2, dif3, dif4, dif5, dif6, dif7, dnot, ibeq, ibne, decide_eq_true_eq, if_not2, ge_iff_le, gt_iff_lt, fst_ret, Bool.false_eq_true, decide_false, decide_true, if_false, Bool.not_true]
  exact sdec (by unfold LeaksP; simp)

noncomputable def irbDev (n : Api_Net) (i : Int) : Int := (getI n.domains (getI n.irbs i).domain).dev
theorem RightP.irb (hr : RightP n) {i : Int} (hi : inL n.irbs i) : IrbP n i (getI n.irbs i) := hr.irbs i hi
theorem route_device_spec (hr : RightP n) {i : Int} (hi : inL n.irbs i) : route_device n i = some (irbDev n i) := by
  simp only [route_device, nth_getI hi, nth_getI (hr.irb hi).1, Option.bind_some]; rfl
def SeesP (n : Api_Net) (irb i : Int) : Prop := irbDev n irb = irbDev n i ∧ LeaksP n (getI n.irbs i).vrf (getI n.irbs irb).vrf
theorem route_sees_spec (hs : SmN n) (hr : RightP n) {irb i : Int} (h1 : inL n.irbs irb) (h2 : inL n.irbs i) : route_sees n irb i = some (decide (SeesP n irb i)) := by
  simp only [route_sees, route_device_spec hr h1, route_device_spec hr h2, nth_getI h1, nth_getI h2, vrfs_Leaks_spec hs hr (hr.irb h2).2.1 (hr.irb h1).2.1, bind_ite, Option.bind_some, dif1, dif2, dif3, dif4, dif5, dif6, dif7, dnot, ibeq, ibne, decide_eq_true_eq, if_not2, ge_iff_le, gt_iff_lt, fst_ret, Bool.false_eq_true, decide_false]
  exact sdec Iff.rfl

theorem irb_pre (ho : n.Ok) (hr : RightP n) {i : Int} (hi : inL n.irbs i) : PreOk (getI n.irbs i).net ∧ 1 ≤ (getI n.irbs i).net.bits ∧ (getI n.irbs i).net.bits ≤ 30 := by
  have h := (hr.irb hi).2.2.2.2
  have h2 : okI .u32 (getI n.irbs i).net.addr := (ho.2.2.2.2.2.2.2.1.2 _ (getI_mem hi)).2.2.2.1.1
  simp [okI, IntKind.min, IntKind.max, IntKind.signed, IntKind.bits] at h2
  exact ⟨⟨by omega, by omega, by omega, by omega⟩, h.1, h.2⟩

/-! ### Where an address is led -/
noncomputable def keyI (n : Api_Net) (irb i : Int) : Int := 2 * (getI n.irbs i).net.bits + if (getI n.irbs i).vrf = (getI n.irbs irb).vrf then 1 else 0
theorem lookup_2_spec {a b irb : Int} (hr : RightP n) (ha : inL n.irbs a) (hb : inL n.irbs b) (hi : inL n.irbs irb) : ∃ r, route_lookup_2 a b n n irb = some r ∧ (r > 0 ↔ keyI n irb b < keyI n irb a) := by
  have h1 := (hr.irb ha).2.2.2.2
  have h2 := (hr.irb hb).2.2.2.2
  simp only [route_lookup_2, route_lookup_1, nth_getI ha, nth_getI hb, nth_getI hi, bind_ite, Option.bind_some, dif1, dif2, dif3, dif4, dif5, dif6, dif7, dnot, ibeq, ibne, decide_eq_true_eq, if_not2, ge_iff_le, gt_iff_lt, fst_ret, Bool.false_eq_true, decide_false]
  by_cases hn : (getI n.irbs a).net.bits = (getI n.irbs b).net.bits
  · simp only [hn, ne_eq, not_true_eq_false, if_false, if_true]
    by_cases c1 : (getI n.irbs a).vrf = (getI n.irbs irb).vrf <;> by_cases c2 : (getI n.irbs b).vrf = (getI n.irbs irb).vrf <;> simp only [c1, c2, if_true, if_false, Option.bind_some] <;> refine ⟨_, rfl, ?_⟩ <;> rw [wr64 (by omega) (by omega)] <;> unfold keyI <;> simp [c1, c2, hn] <;> omega
  · simp only [hn, ne_eq, not_false_eq_true, if_true, if_false]
    refine ⟨_, rfl, ?_⟩
    rw [wr64 (by omega) (by omega)]
    unfold keyI
    split <;> split <;> omega

def BestP (key : Int → Int) (l : List Int) (m : Int) : Prop := ∃ k, inL l k ∧ getI l k = m ∧ ∀ j, inL l j → key (getI l j) ≤ key m ∧ (j < k → key (getI l j) < key m)
theorem MaxFunc_spec {l : List Int} {irb : Int} (hr : RightP n) (hl : Few l) (h0 : 0 < l.length) (hall : ∀ x ∈ l, inL n.irbs x) (hi : inL n.irbs irb) : ∃ m, slices_MaxFunc_int_lookup_2 l n n irb = some m ∧ BestP (keyI n irb) l m := by
  have hz : inL l 0 := ⟨by omega, by omega⟩
  have g0 : ¬ (l.length : Int) < 1 := by omega
  simp only [slices_MaxFunc_int_lookup_2, g0, nth_getI hz, bind_ite, Option.bind_some, dif1, dif2, dif3, dif4, dif5, dif6, dif7, dnot, ibeq, ibne, decide_eq_true_eq, if_not2, ge_iff_le, gt_iff_lt, fst_ret, Bool.false_eq_true, decide_false, if_false]
  obtain ⟨r, hr2, hq⟩ := loopM_rule (f := fun s : Int × Int => match s with | (v8, v9) => slices_MaxFunc_int_lookup_2_L1 l n n irb v8 v9)
    (fun s => 1 ≤ s.2 ∧ s.2 ≤ l.length ∧ ∃ k, inL l k ∧ k < s.2 ∧ getI l k = s.1 ∧ ∀ j, inL l j → j < s.2 → keyI n irb (getI l j) ≤ keyI n irb s.1 ∧ (j < k → keyI n irb (getI l j) < keyI n irb s.1))
    (fun m => BestP (keyI n irb) l m) (fun s => (l.length - s.2).toNat) (s := (getI l 0, 1)) (fun s hs => by
      obtain ⟨m, i⟩ := s
      obtain ⟨h1, h2, k, hk, hki, hm, hall2⟩ := hs
      simp only at h1 h2 hki hm hall2 ⊢
      by_cases hlt : i < l.length
      · have hii : inL l i := ⟨by omega, hlt⟩
        have hmI : inL n.irbs m := hm ▸ hall _ (getI_mem hk)
        obtain ⟨r, e1, e2⟩ := lookup_2_spec hr (hall _ (getI_mem hii)) hmI hi
        have hw := wr64 (n := i + 1) (by omega) (by omega)
        simp only [slices_MaxFunc_int_lookup_2_L1, hlt, nth_getI hii, e1, hw, bind_ite, Option.bind_some, dif1, dif2, dif3, dif4, dif5, dif6, dif7, dnot, ibeq, ibne, decide_eq_true_eq, if_not2, ge_iff_le, gt_iff_lt, fst_ret, Bool.false_eq_true, decide_false, decide_true, if_true]
        by_cases hg : keyI n irb m < keyI n irb (getI l i)
        · rw [if_pos (e2.2 hg)]
          refine ⟨_, rfl, ⟨by omega, by omega, i, hii, by omega, rfl, fun j hj hjl => ?_⟩, by omega⟩
          simp only at hjl ⊢
          by_cases hji : j = i
          · subst hji; exact ⟨Int.le_refl _, fun h => by omega⟩
          · have := (hall2 j hj (by omega)).1
            exact ⟨by omega, fun _ => by omega⟩
        · rw [if_neg (fun h => hg (e2.1 h))]
          refine ⟨_, rfl, ⟨by omega, by omega, k, hk, by omega, hm, fun j hj hjl => ?_⟩, by omega⟩
          simp only at hjl ⊢
          by_cases hji : j = i
          · subst hji; exact ⟨by omega, fun h => by omega⟩
          · exact hall2 j hj (by omega)
      · have : i = l.length := by omega
        subst this
        refine ⟨.inr m, by simp [slices_MaxFunc_int_lookup_2_L1], k, hk, hm, fun j hj => ?_⟩
        exact hall2 j hj hj.2) ⟨by simp, by simp; omega, 0, hz, by simp, rfl, fun j hj hjl => by
          simp only at hjl
          have : j = 0 := by have := hj.1; omega
          subst this; exact ⟨Int.le_refl _, fun h => by omega⟩⟩ (by simp only; unfold Few at hl; omega)
  exact ⟨r, by rw [hr2]; rfl, hq⟩

def OwnA (n : Api_Net) (irb x : Int) : Prop := ∃ i, inL n.irbs i ∧ (irbDev n i = irbDev n irb ∧ (getI n.irbs i).net.addr = x)
def CandP (n : Api_Net) (irb x i : Int) : Prop := HasP (getI n.irbs i).net x ∧ SeesP n irb i
structure LedP (n : Api_Net) (irb x m : Int) : Prop where
  own : ¬ OwnA n irb x
  im : inL n.irbs m
  cand : CandP n irb x m
  best : ∀ j, inL n.irbs j → CandP n irb x j → keyI n irb j ≤ keyI n irb m ∧ (j < m → keyI n irb j < keyI n irb m)
def NoLed (n : Api_Net) (irb x : Int) : Prop := OwnA n irb x ∨ ∀ j, inL n.irbs j → ¬ CandP n irb x j

theorem route_lookup_spec (ho : n.Ok) (hs : SmN n) (hr : RightP n) {irb x : Int} (hi : inL n.irbs irb) (x0 : 0 ≤ x) (x1 : x < 4294967296) :
    ∃ r, route_lookup n irb x = some r ∧ ((r = (0, false) ∧ NoLed n irb x) ∨ ∃ m, r = (m, true) ∧ LedP n irb x m) := by
  have hf := hs.irbs
  have hcand : ∀ y, y ∈ gatherI n.irbs (fun i _ => CandP n irb x i) (fun i _ => i) ↔ inL n.irbs y ∧ CandP n irb x y := by
    intro y
    rw [mem_gatherI]
    constructor
    · rintro ⟨i, h1, h2, rfl⟩; exact ⟨h1, h2⟩
    · rintro ⟨h1, h2⟩; exact ⟨y, h1, h2, rfl⟩
  unfold route_lookup
  rw [loop_gatherx n.irbs (fun i y => irbDev n i = irbDev n irb ∧ y.net.addr = x) (fun i _ => CandP n irb x i) (fun i _ => i) hf (fun i s h0 h1 h2 h3 => by
    have h5 : roomy 8 (s ++ [i]) = true := roomy_few (by simp; omega)
    have hP := (irb_pre ho hr h2).1
    simp (disch := omega) only [route_lookup_L1, route_lookup_J2, h1, nth_getI h2, route_device_spec hr h2, route_device_spec hr hi, addr_Has_spec hP x0 x1, route_sees_spec hs hr hi h2, h5, wr64, bind_ite, Option.bind_some, dif1, dif2, dif3, dif4, dif5, dif6, dif7, dnot, ibeq, ibne, decide_eq_true_eq, if_not2, ge_iff_le, gt_iff_lt, fst_ret, Bool.false_eq_true, decide_false, mrg1, mrg2, mrg3, mrg4, mrg5, mrg6, mrg7, decide_true, if_true]
    unfold CandP
    by_cases c1 : irbDev n i = irbDev n irb ∧ (getI n.irbs i).net.addr = x
    · simp [c1]
    · simp only [c1, if_false]
      by_cases c2 : HasP (getI n.irbs i).net x <;> by_cases c3 : SeesP n irb i <;> simp [c2, c3]) (fun s => by simp [route_lookup_L1])]
  by_cases hown : OwnA n irb x
  · have hown' : ∃ i, inL n.irbs i ∧ (irbDev n i = irbDev n irb ∧ (getI n.irbs i).net.addr = x) := hown
    rw [if_pos hown']
    exact ⟨_, rfl, .inl ⟨rfl, .inl hown⟩⟩
  · have hown' : ¬ ∃ i, inL n.irbs i ∧ (irbDev n i = irbDev n irb ∧ (getI n.irbs i).net.addr = x) := hown
    rw [if_neg hown']
    simp only [Option.bind_some, ibeq, decide_eq_true_eq]
    have hsort := gatherI_sorted (l := n.irbs) (P := fun i _ => CandP n irb x i)
    have hlen := gatherI_len (l := n.irbs) (P := fun i _ => CandP n irb x i) (e := fun i _ => i)
    generalize gatherI n.irbs (fun i _ => CandP n irb x i) (fun i _ => i) = l at *
    by_cases hl : (l.length : Int) = 0
    · rw [if_pos hl]
      refine ⟨_, rfl, .inl ⟨rfl, .inr fun j hj hc => ?_⟩⟩
      have := (hcand j).2 ⟨hj, hc⟩
      rw [List.eq_nil_of_length_eq_zero (by omega : l.length = 0)] at this
      cases this
    · rw [if_neg hl]
      obtain ⟨m, hm, k, hk, rfl, hbest⟩ := MaxFunc_spec (n := n) (irb := irb) hr (by unfold Few at hf ⊢; omega) (by omega) (fun y hy => ((hcand y).1 hy).1) hi
      rw [hm]
      have hmem := (hcand _).1 (getI_mem hk)
      refine ⟨_, rfl, .inr ⟨_, rfl, hown, hmem.1, hmem.2, fun j hj hc => ?_⟩⟩
      obtain ⟨q, hq, rfl⟩ := mem_getI ((hcand j).2 ⟨hj, hc⟩)
      refine ⟨(hbest q hq).1, fun hlt => (hbest q hq).2 ?_⟩
      apply Classical.byContradiction
      intro hn
      have hk0 := hk.1; have hq0 := hq.1; have hq1 := hq.2; have hk1 := hk.2
      by_cases e : q = k
      · subst e; omega
      · have := List.pairwise_iff_getElem.1 hsort k.toNat q.toNat (by omega) (by omega) (by omega)
        have e1 := (List.getElem?_eq_some_iff.1 (getI_get? hk)).2
        have e2 := (List.getElem?_eq_some_iff.1 (getI_get? hq)).2
        rw [e1, e2] at this
        omega

theorem route_Lookup_spec (ho : n.Ok) (hs : SmN n) {irb x : Int} (x0 : 0 ≤ x) (x1 : x < 4294967296) :
    ∃ r, route_Lookup n irb x = some r ∧ ((r = (0, false) ∧ (RightP n → inL n.irbs irb → NoLed n irb x)) ∨ ∃ m, r = (m, true) ∧ RightP n ∧ inL n.irbs irb ∧ LedP n irb x m) := by
  by_cases hi : inL n.irbs irb
  case neg =>
    have : irb < 0 ∨ (n.irbs.length : Int) ≤ irb := by unfold inL at hi; omega
    refine ⟨(0, false), ?_, .inl ⟨rfl, fun _ h => absurd h hi⟩⟩
    rcases this with h | h
    · simp [route_Lookup, h]
    · simp only [route_Lookup, bind_ite, Option.bind_some, dif1, dif2, dif3, dif4, dif5, dif6, dif7, dnot, ibeq, ibne, decide_eq_true_eq, if_not2, ge_iff_le, gt_iff_lt, fst_ret, Bool.false_eq_true, decide_false, h]; simp
  have a0 : ¬ irb < 0 := by have := hi.1; omega
  have a1 : ¬ (n.irbs.length : Int) ≤ irb := by have := hi.2; omega
  by_cases hr : RightP n
  case neg => exact ⟨(0, false), by simp only [route_Lookup, a0, a1, names_Right_spec hs, hr, bind_ite, Option.bind_some, dif1, dif2, dif3, dif4, dif5, dif6, dif7, dnot, ibeq, ibne, decide_eq_true_eq, if_not2, ge_iff_le, gt_iff_lt, fst_ret, Bool.false_eq_true, decide_false]; simp, .inl ⟨rfl, fun h => absurd h hr⟩⟩
  obtain ⟨r, h1, h2⟩ := route_lookup_spec ho hs hr hi x0 x1
  refine ⟨r, ?_, ?_⟩
  · simp only [route_Lookup, a0, a1, names_Right_spec hs, hr, h1, bind_ite, Option.bind_some, dif1, dif2, dif3, dif4, dif5, dif6, dif7, dnot, ibeq, ibne, decide_eq_true_eq, if_not2, ge_iff_le, gt_iff_lt, fst_ret, Bool.false_eq_true, decide_false]; simp
  · rcases h2 with ⟨e, h⟩ | ⟨m, e, h⟩
    · exact .inl ⟨e, fun _ _ => h⟩
    · exact .inr ⟨m, e, hr, hi, h⟩

end
end Go.Eng

set_option linter.unusedVariables false
set_option linter.unusedSectionVars false
set_option linter.unusedSimpArgs false
namespace Go.Eng
open Go Classical
attribute [local congr] ite_cg

theorem r02Right_spec {p : Api_Prefix} (h : PreOk p) : palingref02_Right p = some true := by
  have := h.b0; have := h.b1
  simp only [palingref02_Right, bind_ite, Option.bind_some, dif1, dif2, dif3, dif4, dif5, dif6, dif7, dnot, ibeq, ibne, decide_eq_true_eq, if_not2, ge_iff_le, gt_iff_lt, fst_ret, Bool.false_eq_true, decide_false]
  rw [decide_eq_true ⟨by omega, by omega⟩]
theorem pw_succ (k : Nat) : pw (k + 1) = pw k * 2 := by unfold pw; rw [Nat.pow_succ]; simp
theorem r02size_spec {p : Api_Prefix} (h : PreOk p) : palingref02_size p = some (pw (kOf p)) := by
  have b0 := h.b0; have b1 := h.b1
  have hk := kOf_le h
  have hkb : (kOf p : Int) = 32 - p.bits := by unfold kOf; omega
  have := loopM_trace (f := fun s : Int × Int => match s with | (v2, v3) => palingref02_size_L1 v2 v3) (r := pw (kOf p)) (fun i => (pw i, p.bits + (i : Int))) (kOf p) (by omega) (fun i hi => by
    have h1 := pw_pos i
    have h2 := pw_le (k := i) (by omega)
    have e1 := wr64 (n := pw i * 2) (by omega) (by omega)
    have e2 := wr64 (n := p.bits + (i : Int) + 1) (by omega) (by omega)
    have hlt : p.bits + (i : Int) < 32 := by omega
    simp only [palingref02_size_L1, hlt, decide_true, if_true, e1, e2]
    rw [pw_succ]
    simp [Int.add_assoc]) (by
    have hn : ¬ p.bits + (kOf p : Int) < 32 := by omega
    simp [palingref02_size_L1, hn])
  have e0 : (pw 0, p.bits + ((0 : Nat) : Int)) = ((1 : Int), p.bits) := by simp [pw]
  rw [e0] at this
  simp only [palingref02_size, this, Option.bind_some]
theorem r02First_spec {p : Api_Prefix} (h : PreOk p) : palingref02_First p = some (firstA p) := by
  have h1 := first_le h
  have hp := pw_pos (kOf p)
  have hq := pw_le (kOf_le h)
  have ha0 := h.a0; have ha1 := h.a1
  have hd : p.addr / pw (kOf p) * pw (kOf p) = firstA p := by
    unfold firstA
    have := Int.emod_add_mul_ediv p.addr (pw (kOf p))
    rw [Int.mul_comm] at this
    omega
  have e1 := wr64 (n := p.addr) (by omega) (by omega)
  have hdiv : Int.tdiv p.addr (pw (kOf p)) = p.addr / pw (kOf p) := Int.tdiv_eq_ediv_of_nonneg (by omega)
  have hd0 : 0 ≤ p.addr / pw (kOf p) := Int.ediv_nonneg (by omega) (by omega)
  have hd1 : p.addr / pw (kOf p) ≤ p.addr := Int.ediv_le_self _ (by omega)
  have e2 := wr64 (n := p.addr / pw (kOf p)) (by omega) (by omega)
  have e3 := wr64 (n := firstA p) (by omega) (by omega)
  have e4 := wr32 (n := firstA p) (by omega) (by omega)
  have hne : ¬ pw (kOf p) = 0 := by omega
  simp only [palingref02_First, r02Right_spec h, r02size_spec h, bind_ite, Option.bind_some, dif1, dif2, dif3, dif4, dif5, dif6, dif7, dnot, ibeq, ibne, decide_eq_true_eq, if_not2, ge_iff_le, gt_iff_lt, fst_ret, Bool.false_eq_true, decide_false, Bool.not_true, hne, ne_eq, not_false_eq_true, if_true, e1, hdiv, e2, hd, e3, e4, if_false]
theorem r02Last_spec {p : Api_Prefix} (h : PreOk p) : palingref02_Last p = some (lastA p) := by
  have h1 := first_le h
  have hp := pw_pos (kOf p)
  have hq := pw_le (kOf_le h)
  have hl : lastA p = firstA p + (pw (kOf p) - 1) := rfl
  have e1 := wr64 (n := firstA p) (by omega) (by omega)
  have e2 := wr64 (n := firstA p + pw (kOf p)) (by omega) (by omega)
  have e3 := wr64 (n := firstA p + pw (kOf p) - 1) (by omega) (by omega)
  have e4 := wr32 (n := firstA p + pw (kOf p) - 1) (by omega) (by omega)
  simp only [palingref02_Last, r02Right_spec h, r02size_spec h, r02First_spec h, bind_ite, Option.bind_some, dif1, dif2, dif3, dif4, dif5, dif6, dif7, dnot, ibeq, ibne, decide_eq_true_eq, if_not2, ge_iff_le, gt_iff_lt, fst_ret, Bool.false_eq_true, decide_false, Bool.not_true, if_false, e1, e2, e3, e4]
  congr 1; omega
theorem r02Has_spec {p : Api_Prefix} {a : Int} (h : PreOk p) : palingref02_Has p a = some (decide (HasP p a)) := by
  simp only [palingref02_Has, r02Right_spec h, r02First_spec h, r02Last_spec h, bind_ite, Option.bind_some, dif1, dif2, dif3, dif4, dif5, dif6, dif7, dnot, ibeq, ibne, decide_eq_true_eq, if_not2, ge_iff_le, gt_iff_lt, fst_ret, Bool.false_eq_true, decide_false, if_true]
  exact sdec (by unfold HasP; simp)

section
variable {n : Api_Net}
theorem r30device_spec (hr : RightP n) {i : Int} (hi : inL n.irbs i) : palingref30_device n i = some (irbDev n i) := by
  simp only [palingref30_device, nth_getI hi, nth_getI (hr.irb hi).1, Option.bind_some]; rfl
theorem r20Leaks_spec (hs : SmN n) {a b : Int} (ha : inL n.vrfs a) (hb : inL n.vrfs b) : palingref20_Leaks n a b = some (decide (LeaksP n a b)) := by
  have fi := hs.imports _ (getI_mem hb)
  have fe := hs.exports _ (getI_mem ha)
  simp only [palingref20_Leaks, rPlace_spec, ha, hb, bind_ite, Option.bind_some, dif1, dif2, dif3, dif4, dif5, dif6, dif7, dnot, ibeq, ibne, decide_eq_true_eq, if_not2, ge_iff_le, gt_iff_lt, fst_ret, Bool.false_eq_true, decide_false, Bool.not_true, if_false, decide_true]
  rw [loop_each (f := palingref20_Leaks_L1 n a b) (getI n.vrfs a).exports (fun _ t => ¬ ((getI n.vrfs a).dev = (getI n.vrfs b).dev ∧ t ∈ (getI n.vrfs b).imports)) (.inl ()) (.inr ()) fe (fun i h0 h1 h2 => by
    simp (disch := omega) only [palingref20_Leaks_L1, nth_getI ha, nth_getI hb, h1, nth_getI h2, rIn_spec fi, wr64, bind_ite, Option.bind_some, dif1, dif2, dif3, dif4, dif5, dif6, dif7, dnot, ibeq, ibne, decide_eq_true_eq, if_not2, ge_iff_le, gt_iff_lt, fst_ret, Bool.false_eq_true, decide_false, mrg1, mrg2, mrg3, mrg4, mrg5, mrg6, mrg7, decide_true, if_true]
    by_cases c1 : (getI n.vrfs a).dev = (getI n.vrfs b).dev <;> by_cases c2 : getI (getI n.vrfs a).exports i ∈ (getI n.vrfs b).imports <;> simp [c1, c2]) (by simp [palingref20_Leaks_L1, nth_getI ha])]
  have hk : EachP (getI n.vrfs a).exports (fun _ t => ¬ ((getI n.vrfs a).dev = (getI n.vrfs b).dev ∧ t ∈ (getI n.vrfs b).imports)) ↔ ¬ ((getI n.vrfs a).dev = (getI n.vrfs b).dev ∧ ∃ t ∈ (getI n.vrfs a).exports, t ∈ (getI n.vrfs b).imports) := by
    rw [eachP_mem]
    constructor
    · rintro h ⟨h1, t, h2, h3⟩; exact h t h2 ⟨h1, h3⟩
    · rintro h t h2 ⟨h1, h3⟩; exact h ⟨h1, t, h2, h3⟩
  unfold LeaksP
  by_cases e : a = b
  · simp [e]
  · by_cases h : EachP (getI n.vrfs a).exports (fun _ t => ¬ ((getI n.vrfs a).dev = (getI n.vrfs b).dev ∧ t ∈ (getI n.vrfs b).imports))
    · rw [if_pos h]
      have := hk.1 h
      simp only [e, if_false, false_or, Option.bind_some, this, decide_false]
    · rw [if_neg h]
      have := Classical.not_not.1 (fun g => h (hk.2 g))
      simp only [e, if_false, false_or, Option.bind_some]
      rw [decide_eq_true this]

def BestTo (n : Api_Net) (irb x i m : Int) : Prop :=
  (m = -1 ∧ ∀ j, inL n.irbs j → j < i → ¬ CandP n irb x j) ∨
  (inL n.irbs m ∧ m < i ∧ CandP n irb x m ∧ ∀ j, inL n.irbs j → j < i → CandP n irb x j → keyI n irb j ≤ keyI n irb m ∧ (j < m → keyI n irb j < keyI n irb m))
theorem r30better_spec (hr : RightP n) {irb a b : Int} (hi : inL n.irbs irb) (ha : inL n.irbs a) (hb : inL n.irbs b) : palingref30_better n irb a b = some (decide (keyI n irb b < keyI n irb a)) := by
  simp only [palingref30_better, nth_getI hi, nth_getI ha, nth_getI hb, bind_ite, Option.bind_some, dif1, dif2, dif3, dif4, dif5, dif6, dif7, dnot, ibeq, ibne, decide_eq_true_eq, if_not2, ge_iff_le, gt_iff_lt, fst_ret, Bool.false_eq_true, decide_false]
  by_cases h : (getI n.irbs a).net.bits = (getI n.irbs b).net.bits
  · by_cases c1 : (getI n.irbs a).vrf = (getI n.irbs irb).vrf <;> by_cases c2 : (getI n.irbs b).vrf = (getI n.irbs irb).vrf <;> simp [c1, c2, keyI, h] <;> try omega
  · by_cases c1 : (getI n.irbs a).vrf = (getI n.irbs irb).vrf <;> by_cases c2 : (getI n.irbs b).vrf = (getI n.irbs irb).vrf <;> simp [c1, c2, keyI, h] <;> omega
theorem r30Lookup_spec (ho : n.Ok) (hs : SmN n) (hr : RightP n) {irb x : Int} (hi : inL n.irbs irb) :
    ∃ r, palingref30_Lookup n irb x = some r ∧ ((r = (0, false) ∧ NoLed n irb x) ∨ ∃ m, r = (m, true) ∧ LedP n irb x m) := by
  have hf := hs.irbs
  obtain ⟨q, h1, h2⟩ := loopM_rule (f := fun s : Int × Int => match s with | (v7, v8) => palingref30_Lookup_L1 n irb x v7 v8)
    (fun s => 0 ≤ s.2 ∧ s.2 ≤ n.irbs.length ∧ BestTo n irb x s.2 s.1 ∧ ∀ j, inL n.irbs j → j < s.2 → ¬ (irbDev n j = irbDev n irb ∧ (getI n.irbs j).net.addr = x))
    (fun r => match r with | .inl _ => OwnA n irb x | .inr m => BestTo n irb x n.irbs.length m ∧ ¬ OwnA n irb x) (fun s => (n.irbs.length - s.2).toNat) (s := (-1, 0)) (fun s hI => by
      obtain ⟨m, i⟩ := s
      obtain ⟨h0, h1, hb, hn⟩ := hI
      simp only at h0 h1 hb hn ⊢
      by_cases hlt : i < n.irbs.length
      · have hii : inL n.irbs i := ⟨h0, hlt⟩
        have hP := (irb_pre ho hr hii).1
        have hw := wr64 (n := i + 1) (by omega) (by unfold Few at hf; omega)
        have skip : ¬ CandP n irb x i → BestTo n irb x (i + 1) m := fun hc => by
          rcases hb with ⟨e, h⟩ | ⟨a1, a2, a3, a4⟩
          · exact .inl ⟨e, fun j hj hji => by by_cases e : j = i; subst e; exact hc; exact h j hj (by omega)⟩
          · exact .inr ⟨a1, by omega, a3, fun j hj hji hc' => by by_cases e : j = i; subst e; exact absurd hc' hc; exact a4 j hj (by omega) hc'⟩
        have own1 : ¬ (irbDev n i = irbDev n irb ∧ (getI n.irbs i).net.addr = x) → ∀ j, inL n.irbs j → j < i + 1 → ¬ (irbDev n j = irbDev n irb ∧ (getI n.irbs j).net.addr = x) := fun h j hj hji => by
          by_cases e : j = i; subst e; exact h; exact hn j hj (by omega)
        simp only [palingref30_Lookup_L1, hlt, nth_getI hii, nth_getI hi, r30device_spec hr hii, r30device_spec hr hi, r02Has_spec hP, r20Leaks_spec hs (hr.irb hii).2.1 (hr.irb hi).2.1, hw, bind_ite, Option.bind_some, dif1, dif2, dif3, dif4, dif5, dif6, dif7, dnot, ibeq, ibne, decide_eq_true_eq, if_not2, ge_iff_le, gt_iff_lt, fst_ret, Bool.false_eq_true, decide_false, decide_true, if_true]
        by_cases c1 : irbDev n i = irbDev n irb
        case neg =>
          refine ⟨_, if_neg c1, ⟨by omega, by omega, skip (fun h => c1 h.2.1.symm), own1 (fun h => c1 h.1)⟩, by omega⟩
        rw [if_pos c1]
        by_cases c2 : (getI n.irbs i).net.addr = x
        · refine ⟨_, if_pos c2, i, hii, c1, c2⟩
        rw [if_neg c2]
        by_cases c3 : HasP (getI n.irbs i).net x
        case neg => refine ⟨_, if_neg c3, ⟨by omega, by omega, skip (fun h => c3 h.1), own1 (fun h => c2 h.2)⟩, by omega⟩
        rw [if_pos c3]
        by_cases c4 : LeaksP n (getI n.irbs i).vrf (getI n.irbs irb).vrf
        case neg => refine ⟨_, if_neg c4, ⟨by omega, by omega, skip (fun h => c4 h.2.2), own1 (fun h => c2 h.2)⟩, by omega⟩
        rw [if_pos c4]
        have hc : CandP n irb x i := ⟨c3, c1.symm, c4⟩
        rcases hb with ⟨e, h⟩ | ⟨a1, a2, a3, a4⟩
        · refine ⟨_, if_pos (by omega), ⟨by omega, by omega, .inr ⟨hii, by omega, hc, fun j hj hji hc' => ?_⟩, own1 (fun h => c2 h.2)⟩, by omega⟩
          by_cases e : j = i
          · subst e; exact ⟨Int.le_refl _, fun h => by omega⟩
          · exact absurd hc' (h j hj (by omega))
        · rw [if_neg (by have := a1.1; omega), r30better_spec hr hi hii a1]
          simp only [Option.bind_some, decide_eq_true_eq]
          by_cases c5 : keyI n irb m < keyI n irb i
          · refine ⟨_, if_pos c5, ⟨by omega, by omega, .inr ⟨hii, by omega, hc, fun j hj hji hc' => ?_⟩, own1 (fun h => c2 h.2)⟩, by omega⟩
            by_cases e : j = i
            · subst e; exact ⟨Int.le_refl _, fun h => by omega⟩
            · have := (a4 j hj (by omega) hc').1; simp only; exact ⟨by omega, fun _ => by omega⟩
          · refine ⟨_, if_neg c5, ⟨by omega, by omega, .inr ⟨a1, by omega, a3, fun j hj hji hc' => ?_⟩, own1 (fun h => c2 h.2)⟩, by omega⟩
            by_cases e : j = i
            · subst e; simp only; exact ⟨by omega, fun h => by omega⟩
            · exact a4 j hj (by omega) hc'
      · have : i = n.irbs.length := by omega
        subst this
        refine ⟨.inr (.inr m), by simp [palingref30_Lookup_L1], hb, ?_⟩
        rintro ⟨j, hj, h⟩
        exact hn j hj hj.2 h) ⟨by simp, by simp, .inl ⟨rfl, fun j hj h => by have := hj.1; simp at h; omega⟩, fun j hj h => by have := hj.1; simp at h; omega⟩ (by simp only; unfold Few at hf; omega)
  simp only [palingref30_Lookup, rPlace_spec, hi, h1, bind_ite, Option.bind_some, dif1, dif2, dif3, dif4, dif5, dif6, dif7, dnot, ibeq, ibne, decide_eq_true_eq, if_not2, ge_iff_le, gt_iff_lt, fst_ret, Bool.false_eq_true, decide_false, decide_true, Bool.not_true, if_false]
  rcases q with u | m
  · exact ⟨_, rfl, .inl ⟨rfl, .inl h2⟩⟩
  · obtain ⟨hb, hno⟩ := h2
    rcases hb with ⟨rfl, h⟩ | ⟨a1, a2, a3, a4⟩
    · exact ⟨_, by simp, .inl ⟨rfl, .inr fun j hj => h j hj hj.2⟩⟩
    · have : ¬ m < 0 := by have := a1.1; omega
      exact ⟨(m, true), by simp [this], .inr ⟨m, rfl, hno, a1, a3, fun j hj hc => a4 j hj hj.2 hc⟩⟩
end
end Go.Eng

set_option linter.unusedVariables false
set_option linter.unusedSectionVars false
set_option linter.unusedSimpArgs false
namespace Go.Eng
open Go Classical
attribute [local congr] ite_cg

theorem addr_First_spec {p : Api_Prefix} (h : PreOk p) : addr_First p = some (firstA p) := by
  have := andNot_u32 (x := p.addr) (k := kOf p) h.a0 h.a1 (kOf_le h)
  have e : ((2 ^ kOf p - 1 : Nat) : Int) = pw (kOf p) - 1 := by unfold pw; have := Nat.two_pow_pos (kOf p); omega
  rw [e] at this
  simp only [addr_First, addr_Right_spec h, addr_rest_spec h, Option.bind_some, Bool.not_true, Bool.false_eq_true, if_false, this]
  rfl
theorem addr_Last_spec {p : Api_Prefix} (h : PreOk p) : addr_Last p = some (lastA p) := by
  have := or_u32 (x := p.addr) (k := kOf p) h.a0 h.a1 (kOf_le h)
  have e : ((2 ^ kOf p - 1 : Nat) : Int) = pw (kOf p) - 1 := by unfold pw; have := Nat.two_pow_pos (kOf p); omega
  rw [e] at this
  simp only [addr_Last, addr_Right_spec h, addr_rest_spec h, Option.bind_some, Bool.not_true, Bool.false_eq_true, if_false, this]
  rfl
section
variable {n : Api_Net}
/-! ### The address that is chosen -/
def TakenP (n : Api_Net) (x : Int) : Prop := ∃ y ∈ n.irbs, y.net.addr = x
theorem contains_of_first {α : Type} [Inhabited α] {l : List α} {P : α → Prop} : 0 ≤ fstI l P ↔ ∃ y ∈ l, P y := by
  have := fstI_none_mem (l := l) (P := P)
  constructor
  · intro h
    apply Classical.byContradiction
    intro hn
    have := this.2 (fun y hy e => hn ⟨y, hy, e⟩); omega
  · rintro ⟨t, h1, h2⟩
    apply Classical.byContradiction
    intro hn
    exact this.1 (by omega) t h1 h2
theorem taken1_spec (hs : SmN n) {x : Int} : slices_ContainsFunc_Irb_Address_1 n.irbs x = some (decide (TakenP n x)) := by
  unfold slices_ContainsFunc_Irb_Address_1 slices_IndexFunc_Irb_Address_1
  rw [loop_first n.irbs (fun y => y.net.addr = x) hs.irbs (fun i h0 h1 h2 => by
    have := hs.irbs
    simp (disch := omega) only [slices_IndexFunc_Irb_Address_1_L1, choose_Address_1, h1, nth_getI h2, wr64, bind_ite, Option.bind_some, dif1, dif2, dif3, dif4, dif5, dif6, dif7, dnot, ibeq, ibne, decide_eq_true_eq, if_not2, ge_iff_le, gt_iff_lt, fst_ret, Bool.false_eq_true, decide_false, decide_true, if_true]
    exact fpos Iff.rfl) (by simp [slices_IndexFunc_Irb_Address_1_L1])]
  simp only [bind_ite, Option.bind_some, dif1, dif2, dif3, dif4, dif5, dif6, dif7, dnot, ibeq, ibne, decide_eq_true_eq, if_not2, ge_iff_le, gt_iff_lt, fst_ret, Bool.false_eq_true, decide_false]
  exact sdec contains_of_first
theorem taken2_spec (hs : SmN n) {x : Int} : slices_ContainsFunc_Irb_past_1 n.irbs x = some (decide (TakenP n x)) := by
  unfold slices_ContainsFunc_Irb_past_1 slices_IndexFunc_Irb_past_1
  rw [loop_first n.irbs (fun y => y.net.addr = x) hs.irbs (fun i h0 h1 h2 => by
    have := hs.irbs
    simp (disch := omega) only [slices_IndexFunc_Irb_past_1_L1, choose_past_1, h1, nth_getI h2, wr64, bind_ite, Option.bind_some, dif1, dif2, dif3, dif4, dif5, dif6, dif7, dnot, ibeq, ibne, decide_eq_true_eq, if_not2, ge_iff_le, gt_iff_lt, fst_ret, Bool.false_eq_true, decide_false, decide_true, if_true]
    exact fpos Iff.rfl) (by simp [slices_IndexFunc_Irb_past_1_L1])]
  simp only [bind_ite, Option.bind_some, dif1, dif2, dif3, dif4, dif5, dif6, dif7, dnot, ibeq, ibne, decide_eq_true_eq, if_not2, ge_iff_le, gt_iff_lt, fst_ret, Bool.false_eq_true, decide_false]
  exact sdec contains_of_first

def GoodP (n : Api_Net) (irb to x : Int) : Prop := LedP n irb x to ∧ ¬ TakenP n x

theorem past_spec (ho : n.Ok) (hs : SmN n) (hr : RightP n) {x led : Int} (x0 : 0 ≤ x) (x1 : x < 4294967296) (hl : ¬ TakenP n x → inL n.irbs led) :
    choose_past n x led = some (if TakenP n x then x + 1 else lastA (getI n.irbs led).net + 1) := by
  simp only [choose_past, taken2_spec hs, bind_ite, Option.bind_some, dif1, dif2, dif3, dif4, dif5, dif6, dif7, dnot, ibeq, ibne, decide_eq_true_eq, if_not2, ge_iff_le, gt_iff_lt, fst_ret, Bool.false_eq_true, decide_false]
  by_cases ht : TakenP n x
  · simp only [ht, if_true]
    have e1 : wr_i64 x = x := wr64 (by omega) (by omega)
    rw [e1, wr64 (by omega) (by omega)]
  · have hi := hl ht
    have hP := (irb_pre ho hr hi).1
    have hb := first_le hP
    simp only [ht, if_false, nth_getI hi, addr_Last_spec hP, Option.bind_some]
    have e1 : wr_i64 (lastA (getI n.irbs led).net) = lastA (getI n.irbs led).net := wr64 (by omega) (by omega)
    rw [e1, wr64 (by omega) (by omega)]

theorem choose_Address_spec (ho : n.Ok) (hs : SmN n) {irb to : Int} :
    ∃ r, choose_Address n irb to = some r ∧ ((r = (0, false) ∧ (RightP n → inL n.irbs irb → inL n.irbs to → ∀ x, 0 ≤ x → x < 4294967296 → ¬ GoodP n irb to x)) ∨
      ∃ a, r = (a, true) ∧ RightP n ∧ inL n.irbs irb ∧ inL n.irbs to ∧ 0 ≤ a ∧ a < 4294967296 ∧ GoodP n irb to a ∧ ∀ x, 0 ≤ x → x < a → ¬ GoodP n irb to x) := by
  by_cases hi : inL n.irbs irb
  case neg =>
    have : irb < 0 ∨ (n.irbs.length : Int) ≤ irb := by unfold inL at hi; omega
    refine ⟨(0, false), ?_, .inl ⟨rfl, fun _ h => absurd h hi⟩⟩
    simp only [choose_Address, bind_ite, Option.bind_some, dif1, dif2, dif3, dif4, dif5, dif6, dif7, dnot, ibeq, ibne, decide_eq_true_eq, if_not2, ge_iff_le, gt_iff_lt, fst_ret, Bool.false_eq_true, decide_false, mrg1, mrg2, mrg3, mrg4, mrg5, mrg6, mrg7]
    rw [if_pos (by omega)]
  by_cases ht : inL n.irbs to
  case neg =>
    have : to < 0 ∨ (n.irbs.length : Int) ≤ to := by unfold inL at ht; omega
    refine ⟨(0, false), ?_, .inl ⟨rfl, fun _ _ h => absurd h ht⟩⟩
    simp only [choose_Address, bind_ite, Option.bind_some, dif1, dif2, dif3, dif4, dif5, dif6, dif7, dnot, ibeq, ibne, decide_eq_true_eq, if_not2, ge_iff_le, gt_iff_lt, fst_ret, Bool.false_eq_true, decide_false, mrg1, mrg2, mrg3, mrg4, mrg5, mrg6, mrg7]
    rw [if_pos (by omega)]
  have a0 : ¬ irb < 0 := by have := hi.1; omega
  have a1 : ¬ (n.irbs.length : Int) ≤ irb := by have := hi.2; omega
  have b0 : ¬ to < 0 := by have := ht.1; omega
  have b1 : ¬ (n.irbs.length : Int) ≤ to := by have := ht.2; omega
  by_cases hr : RightP n
  case neg =>
    refine ⟨(0, false), ?_, .inl ⟨rfl, fun h => absurd h hr⟩⟩
    simp only [choose_Address, a0, a1, b0, b1, names_Right_spec hs, hr, bind_ite, Option.bind_some, dif1, dif2, dif3, dif4, dif5, dif6, dif7, dnot, ibeq, ibne, decide_eq_true_eq, if_not2, ge_iff_le, gt_iff_lt, fst_ret, Bool.false_eq_true, decide_false]; simp
  have hP := (irb_pre ho hr ht).1
  have hb := first_le hP
  have good_in : ∀ x, GoodP n irb to x → firstA (getI n.irbs to).net ≤ x ∧ x ≤ lastA (getI n.irbs to).net := fun x h => h.1.cand.1
  simp only [choose_Address, a0, a1, b0, b1, names_Right_spec hs, hr, nth_getI ht, addr_First_spec hP, addr_Last_spec hP, bind_ite, Option.bind_some, dif1, dif2, dif3, dif4, dif5, dif6, dif7, dnot, ibeq, ibne, decide_eq_true_eq, if_not2, ge_iff_le, gt_iff_lt, fst_ret, Bool.false_eq_true, decide_false, decide_true, Bool.not_true, if_false]
  rw [wr64 (n := firstA (getI n.irbs to).net) (by omega) (by omega)]
  obtain ⟨r, e, hq⟩ := loopM_rule (f := choose_Address_L1 n irb to (lastA (getI n.irbs to).net))
    (fun at_ => firstA (getI n.irbs to).net ≤ at_ ∧ at_ ≤ 4294967296 ∧ ∀ x, 0 ≤ x → x < at_ → ¬ GoodP n irb to x)
    (fun r => match r with | .inl a => 0 ≤ a ∧ a < 4294967296 ∧ GoodP n irb to a ∧ (∀ x, 0 ≤ x → x < a → ¬ GoodP n irb to x) | .inr () => ∀ x, 0 ≤ x → x < 4294967296 → ¬ GoodP n irb to x)
    (fun at_ => (4294967297 - at_).toNat) (s := firstA (getI n.irbs to).net) (fun at_ hI => by
      obtain ⟨hf, h1, hnone⟩ := hI
      have h0 : 0 ≤ at_ := by omega
      by_cases hend : at_ ≤ lastA (getI n.irbs to).net
      case neg =>
        refine ⟨.inr (.inr ()), ?_, fun x hx0 hx1 hg => ?_⟩
        · simp only [choose_Address_L1]
          rw [wr64 (by omega) (by omega)]
          simp [hend]
        · have := good_in x hg
          exact hnone x hx0 (by omega) hg
      have hu : wr_u32 at_ = at_ := wr32 h0 (by omega)
      have hwl : wr_i64 (lastA (getI n.irbs to).net) = lastA (getI n.irbs to).net := wr64 (by omega) (by omega)
      obtain ⟨r, hL, hcase⟩ := route_Lookup_spec ho hs (irb := irb) (x := at_) h0 (by omega)
      simp only [choose_Address_L1, hwl, hend, hu, hL, taken1_spec hs, decide_true, if_true, Option.bind_some]
      -- the step past an address
      have step : ∀ nx, at_ < nx → nx ≤ 4294967296 → (∀ x, at_ ≤ x → x < nx → ¬ GoodP n irb to x) →
          (firstA (getI n.irbs to).net ≤ nx ∧ nx ≤ 4294967296 ∧ ∀ x, 0 ≤ x → x < nx → ¬ GoodP n irb to x) ∧ (4294967297 - nx).toNat < (4294967297 - at_).toNat := by
        intro nx g1 g2 g3
        refine ⟨⟨by omega, g2, fun x hx0 hx1 => ?_⟩, by omega⟩
        by_cases hlt : x < at_
        · exact hnone x hx0 hlt
        · exact g3 x (by omega) hx1
      by_cases htk : TakenP n at_
      · -- somebody's address
        have hp := past_spec ho hs hr (x := at_) (led := r.1) h0 (by omega) (fun h => absurd htk h)
        rw [if_pos htk] at hp
        have hs2 := step (at_ + 1) (by omega) (by omega) (fun x g1 g2 hg => by
          have : x = at_ := by omega
          subst this; exact hg.2 htk)
        refine ⟨.inl (at_ + 1), ?_, hs2⟩
        simp only [hp, htk, decide_true, Bool.not_true, Bool.false_eq_true, if_false, Option.bind_some]
        (repeat' split) <;> rfl
      · rcases hcase with ⟨rfl, hno⟩ | ⟨m, rfl, _, _, hled⟩
        · -- nobody's, and led nowhere: the interface is not seen
          have hno := hno hr hi
          refine ⟨.inr (.inr ()), by simp [htk], fun x hx0 hx1 hg => ?_⟩
          rcases hno with ⟨j, hj, _, e⟩ | hno
          · exact htk ⟨_, getI_mem hj, e⟩
          · exact hno to ht ⟨⟨hf, hend⟩, hg.1.cand.2⟩
        · by_cases hmt : m = to
          · subst hmt
            refine ⟨.inr (.inl at_), by simp [htk], h0, by omega, ⟨hled, htk⟩, hnone⟩
          · have hPm := (irb_pre ho hr hled.im).1
            have hbm := first_le hPm
            have hp := past_spec ho hs hr (x := at_) (led := m) h0 (by omega) (fun _ => hled.im)
            rw [if_neg htk] at hp
            have hs2 := step (lastA (getI n.irbs m).net + 1) (by have := hled.cand.1.2; omega) (by omega) (fun x g1 g2 hg => by
              have hx : HasP (getI n.irbs m).net x := ⟨by have := hled.cand.1.1; omega, by omega⟩
              have hxm := hg.1.best m hled.im ⟨hx, hled.cand.2⟩
              have hto : HasP (getI n.irbs to).net at_ := ⟨hf, hend⟩
              have hat := hled.best to ht ⟨hto, hg.1.cand.2⟩
              rcases (by omega : m < to ∨ to < m) with hlt | hlt
              · have := hxm.2 hlt; omega
              · have := hat.2 hlt; omega)
            refine ⟨.inl (lastA (getI n.irbs m).net + 1), ?_, hs2⟩
            simp [htk, hmt, hp]) ⟨by omega, by omega, fun x hx0 hx1 hg => by have := good_in x hg; omega⟩ (by omega)
  rw [e]
  cases r with
  | inl a => exact ⟨_, rfl, .inr ⟨a, rfl, trivial, hi, ht, hq.1, hq.2.1, hq.2.2.1, hq.2.2.2⟩⟩
  | inr u => exact ⟨_, rfl, .inl ⟨rfl, fun _ _ _ => hq⟩⟩
end
end Go.Eng

set_option linter.unusedVariables false
set_option linter.unusedSectionVars false
set_option linter.unusedSimpArgs false
namespace Go.Eng
open Go Classical
attribute [local congr] ite_cg
section
variable {n : Api_Net}
theorem LedP.one {irb x a b : Int} (h1 : LedP n irb x a) (h2 : LedP n irb x b) : a = b := by
  have u := h1.best b h2.im h2.cand
  have v := h2.best a h1.im h1.cand
  rcases (by omega : a < b ∨ a = b ∨ b < a) with h | h | h
  · have := v.2 h; omega
  · exact h
  · have := u.2 h; omega
theorem NoLed.not {irb x a : Int} (h : NoLed n irb x) : ¬ LedP n irb x a := fun g => by
  rcases h with h | h
  · exact g.own h
  · exact h a g.im g.cand

theorem r36taken_spec (hs : SmN n) {x : Int} : palingref36_taken n x = some (decide (TakenP n x)) := by
  have hf := hs.irbs
  unfold palingref36_taken
  rw [loop_each (f := palingref36_taken_L1 n x) n.irbs (fun _ y => ¬ y.net.addr = x) (.inl ()) (.inr ()) hf (fun i h0 h1 h2 => by
    simp (disch := omega) only [palingref36_taken_L1, h1, nth_getI h2, wr64, bind_ite, Option.bind_some, dif1, dif2, dif3, dif4, dif5, dif6, dif7, dnot, ibeq, ibne, decide_eq_true_eq, if_not2, ge_iff_le, gt_iff_lt, fst_ret, Bool.false_eq_true, decide_false, mrg1, mrg2, mrg3, mrg4, mrg5, mrg6, mrg7, decide_true, if_true]
    by_cases c : (getI n.irbs i).net.addr = x <;> simp [c]) (by simp [palingref36_taken_L1])]
  have hk : EachP n.irbs (fun _ y => ¬ y.net.addr = x) ↔ ¬ TakenP n x := by
    rw [eachP_mem]
    constructor
    · rintro h ⟨y, h2, h3⟩; exact h y h2 h3
    · rintro h y h2 h3; exact h ⟨y, h2, h3⟩
  by_cases h : TakenP n x
  · rw [if_neg (fun g => hk.1 g h), decide_eq_true h]; rfl
  · rw [if_pos (hk.2 h), decide_eq_false h]; rfl

theorem r36Leads_spec (ho : n.Ok) (hs : SmN n) (hr : RightP n) {irb to x : Int} (hi : inL n.irbs irb) : palingref36_Leads n irb to x = some (decide (GoodP n irb to x)) := by
  obtain ⟨r, h1, h2⟩ := r30Lookup_spec ho hs hr (x := x) hi
  simp only [palingref36_Leads, h1, r36taken_spec hs, Option.bind_some]
  rcases h2 with ⟨rfl, h⟩ | ⟨m, rfl, h⟩
  · have : ¬ GoodP n irb to x := fun g => h.not g.1
    simp [this]
  · by_cases e : m = to
    · subst e
      by_cases ht : TakenP n x
      · have : ¬ GoodP n irb m x := fun g => g.2 ht
        simp [ht, this]
      · have : GoodP n irb m x := ⟨h, ht⟩
        simp [ht, this]
    · have : ¬ GoodP n irb to x := fun g => e (h.one g.1)
      simp [e, this]

def TryA (n : Api_Net) (to y : Int) : Prop := y = firstA (getI n.irbs to).net ∨ ∃ j, inL n.irbs j ∧ (y = (getI n.irbs j).net.addr + 1 ∨ y = lastA (getI n.irbs j).net + 1)
theorem least_try (ho : n.Ok) (hr : RightP n) {irb to a : Int} (ht : inL n.irbs to) (a0 : 0 ≤ a) (hg : GoodP n irb to a) (hl : ∀ x, 0 ≤ x → x < a → ¬ GoodP n irb to x) : TryA n to a := by
  have hP := (irb_pre ho hr ht).1
  have hfl := first_le hP
  have hh : HasP (getI n.irbs to).net a := hg.1.cand.1
  by_cases e : a = firstA (getI n.irbs to).net
  · exact .inl e
  have h1 : firstA (getI n.irbs to).net ≤ a - 1 := by have := hh.1; omega
  have hno := hl (a - 1) (by omega) (by omega)
  apply Classical.byContradiction
  intro hn
  refine hno ⟨⟨?_, ht, ⟨⟨h1, by have := hh.2; omega⟩, hg.1.cand.2⟩, fun j hj hc => ?_⟩, ?_⟩
  · rintro ⟨i, h2, _, h3⟩
    exact hn (.inr ⟨i, h2, .inl (by omega)⟩)
  · by_cases hc2 : HasP (getI n.irbs j).net a
    · exact hg.1.best j hj ⟨hc2, hc.2⟩
    · exfalso
      have := hc.1
      unfold HasP at hc2 this
      exact hn (.inr ⟨j, hj, .inr (by omega)⟩)
  · rintro ⟨y, hy, h3⟩
    obtain ⟨i, h2, rfl⟩ := mem_getI hy
    exact hn (.inr ⟨i, h2, .inl (by omega)⟩)

theorem r36list_spec (ho : n.Ok) (hr : RightP n) (hb : n.irbs.length ≤ 200) {irb to : Int} (ht : inL n.irbs to) :
    ∃ l, loopM (fun s : (List Int) × Int => match s with | (l14, v15) => palingref36_Address_L1 n irb to l14 v15) ([firstA (getI n.irbs to).net], 0) = some l ∧ l.length ≤ 401 ∧ ∀ y, y ∈ l ↔ TryA n to y := by
  obtain ⟨r, h1, h2⟩ := loopM_rule (f := fun s : (List Int) × Int => match s with | (l14, v15) => palingref36_Address_L1 n irb to l14 v15)
    (fun s => 0 ≤ s.2 ∧ s.2 ≤ n.irbs.length ∧ s.1.length = 1 + 2 * s.2 ∧ ∀ y, y ∈ s.1 ↔ (y = firstA (getI n.irbs to).net ∨ ∃ j, inL n.irbs j ∧ j < s.2 ∧ (y = (getI n.irbs j).net.addr + 1 ∨ y = lastA (getI n.irbs j).net + 1)))
    (fun l => l.length ≤ 401 ∧ ∀ y, y ∈ l ↔ TryA n to y) (fun s => (n.irbs.length - s.2).toNat) (s := ([firstA (getI n.irbs to).net], 0)) (fun s hI => by
      obtain ⟨l, i⟩ := s
      obtain ⟨h0, h1, h2, h3⟩ := hI
      simp only at h0 h1 h2 h3 ⊢
      by_cases hlt : i < n.irbs.length
      · have hii : inL n.irbs i := ⟨h0, hlt⟩
        have hP := (irb_pre ho hr hii).1
        have hfl := first_le hP
        have ha0 := hP.a0
        have hw := wr64 (n := i + 1) (by omega) (by omega)
        have w1 := wr64 (n := (getI n.irbs i).net.addr) (by omega) (by omega)
        have w2 := wr64 (n := (getI n.irbs i).net.addr + 1) (by omega) (by omega)
        have w3 := wr64 (n := lastA (getI n.irbs i).net) (by omega) (by omega)
        have w4 := wr64 (n := lastA (getI n.irbs i).net + 1) (by omega) (by omega)
        have h5 : roomy 8 (l ++ [(getI n.irbs i).net.addr + 1, lastA (getI n.irbs i).net + 1]) = true := roomy_few (by simp; omega)
        refine ⟨.inl (l ++ [(getI n.irbs i).net.addr + 1, lastA (getI n.irbs i).net + 1], i + 1), ?_, ⟨by omega, by simp only; omega, by simp; omega, fun y => ?_⟩, by simp only; omega⟩
        · simp only [palingref36_Address_L1, hlt, nth_getI hii, r02Last_spec hP, w1, w2, w3, w4, hw, h5, decide_true, if_true, Option.bind_some]
        · simp only [List.mem_append, h3, List.mem_cons, List.not_mem_nil, or_false]
          constructor
          · rintro ((h | ⟨j, q1, q2, q3⟩) | h)
            · exact .inl h
            · exact .inr ⟨j, q1, by omega, q3⟩
            · exact .inr ⟨i, hii, by omega, h⟩
          · rintro (h | ⟨j, q1, q2, q3⟩)
            · exact .inl (.inl h)
            · by_cases e : j = i
              · subst e; exact .inr q3
              · exact .inl (.inr ⟨j, q1, by omega, q3⟩)
      · have : i = n.irbs.length := by omega
        subst this
        refine ⟨.inr l, by simp [palingref36_Address_L1], by omega, fun y => ?_⟩
        rw [h3]
        unfold TryA
        constructor
        · rintro (h | ⟨j, q1, q2, q3⟩)
          · exact .inl h
          · exact .inr ⟨j, q1, q3⟩
        · rintro (h | ⟨j, q1, q3⟩)
          · exact .inl h
          · exact .inr ⟨j, q1, q1.2, q3⟩) ⟨by simp, by simp, by simp, fun y => by
        simp only [List.mem_cons, List.not_mem_nil, or_false]
        constructor
        · exact .inl
        · rintro (h | ⟨j, q1, q2, q3⟩)
          · exact h
          · have := q1.1; omega⟩ (by simp only; omega)
  exact ⟨r, h1, h2.1, h2.2⟩

theorem r36least_spec (ho : n.Ok) (hs : SmN n) (hr : RightP n) {irb to : Int} (hi : inL n.irbs irb) {l : List Int} (hl : l.length ≤ 401) (hp : ∀ y ∈ l, 0 ≤ y) :
    ∃ m, loopM (fun s : Int × Int => match s with | (v34, v35) => palingref36_Address_L2 n irb to l v34 v35) (-1, 0) = some m ∧
      ((m = -1 ∧ ∀ y ∈ l, y < 4294967296 → ¬ GoodP n irb to y) ∨ (0 ≤ m ∧ m < 4294967296 ∧ m ∈ l ∧ GoodP n irb to m ∧ ∀ y ∈ l, y < 4294967296 → GoodP n irb to y → m ≤ y)) := by
  obtain ⟨r, h1, h2⟩ := loopM_rule (f := fun s : Int × Int => match s with | (v34, v35) => palingref36_Address_L2 n irb to l v34 v35)
    (fun s => 0 ≤ s.2 ∧ s.2 ≤ l.length ∧ ((s.1 = -1 ∧ ∀ j, inL l j → j < s.2 → getI l j < 4294967296 → ¬ GoodP n irb to (getI l j)) ∨ (0 ≤ s.1 ∧ s.1 < 4294967296 ∧ s.1 ∈ l ∧ GoodP n irb to s.1 ∧ ∀ j, inL l j → j < s.2 → getI l j < 4294967296 → GoodP n irb to (getI l j) → s.1 ≤ getI l j)))
    (fun m => (m = -1 ∧ ∀ y ∈ l, y < 4294967296 → ¬ GoodP n irb to y) ∨ (0 ≤ m ∧ m < 4294967296 ∧ m ∈ l ∧ GoodP n irb to m ∧ ∀ y ∈ l, y < 4294967296 → GoodP n irb to y → m ≤ y)) (fun s => (l.length - s.2).toNat) (s := (-1, 0)) (fun s hI => by
      obtain ⟨m, i⟩ := s
      obtain ⟨h0, h1, hb⟩ := hI
      simp only at h0 h1 hb ⊢
      by_cases hlt : i < l.length
      · have hii : inL l i := ⟨h0, hlt⟩
        have hw := wr64 (n := i + 1) (by omega) (by omega)
        have hmem := getI_mem hii
        have y0 := hp _ hmem
        have hlin : lin l i = true := by unfold lin; exact decide_eq_true ⟨h0, hlt⟩
        simp only [palingref36_Address_L2, hlt, hlin, getI_get? hii, hw, decide_true, if_true, Option.bind_some, decide_eq_true_eq]
        have keepN : (getI l i < 4294967296 → ¬ GoodP n irb to (getI l i)) → ((m = -1 ∧ ∀ j, inL l j → j < i + 1 → getI l j < 4294967296 → ¬ GoodP n irb to (getI l j)) ∨ (0 ≤ m ∧ m < 4294967296 ∧ m ∈ l ∧ GoodP n irb to m ∧ ∀ j, inL l j → j < i + 1 → getI l j < 4294967296 → GoodP n irb to (getI l j) → m ≤ getI l j)) := fun hn => by
          rcases hb with ⟨e, h⟩ | ⟨a1, a2, a3, a4, a5⟩
          · exact .inl ⟨e, fun j hj hji => by by_cases e : j = i; subst e; exact hn; exact h j hj (by omega)⟩
          · exact .inr ⟨a1, a2, a3, a4, fun j hj hji hq hg => by by_cases e : j = i; subst e; exact absurd hg (hn hq); exact a5 j hj (by omega) hq hg⟩
        by_cases c1 : getI l i < 4294967296
        case neg => rw [if_neg c1]; exact ⟨_, rfl, ⟨by omega, by omega, keepN (fun h => absurd h c1)⟩, by simp only; omega⟩
        rw [if_pos c1]
        have hw32 := wr32 (n := getI l i) (by omega) (by omega)
        have hlead := r36Leads_spec ho hs hr (to := to) (x := getI l i) hi
        rw [hw32, hlead]
        simp only [Option.bind_some, decide_eq_true_eq]
        by_cases c2 : m < 0
        · rw [if_pos c2]
          by_cases c3 : GoodP n irb to (getI l i)
          · rw [if_pos c3]
            refine ⟨_, rfl, ⟨by omega, by omega, .inr ⟨y0, c1, hmem, c3, fun j hj hji hq hg => ?_⟩⟩, by simp only; omega⟩
            by_cases e : j = i
            · subst e; exact Int.le_refl _
            · rcases hb with ⟨_, h⟩ | ⟨a1, _⟩
              · exact absurd hg (h j hj (by simp only at hji; omega) hq)
              · omega
          · rw [if_neg c3]
            exact ⟨_, rfl, ⟨by omega, by omega, keepN (fun _ => c3)⟩, by simp only; omega⟩
        · rw [if_neg c2]
          rcases hb with ⟨e, h⟩ | ⟨a1, a2, a3, a4, a5⟩
          · omega
          by_cases c4 : getI l i < m
          · rw [if_pos c4]
            by_cases c3 : GoodP n irb to (getI l i)
            · rw [if_pos c3]
              refine ⟨_, rfl, ⟨by omega, by omega, .inr ⟨y0, c1, hmem, c3, fun j hj hji hq hg => ?_⟩⟩, by simp only; omega⟩
              by_cases e : j = i
              · subst e; exact Int.le_refl _
              · have := a5 j hj (by simp only at hji; omega) hq hg; simp only; omega
            · rw [if_neg c3]
              exact ⟨_, rfl, ⟨by omega, by omega, keepN (fun _ => c3)⟩, by simp only; omega⟩
          · rw [if_neg c4]
            refine ⟨_, rfl, ⟨by omega, by omega, .inr ⟨a1, a2, a3, a4, fun j hj hji hq hg => ?_⟩⟩, by simp only; omega⟩
            by_cases e : j = i
            · subst e; simp only; omega
            · exact a5 j hj (by simp only at hji; omega) hq hg
      · have : i = l.length := by omega
        subst this
        refine ⟨.inr m, by simp [palingref36_Address_L2], ?_⟩
        rcases hb with ⟨e, h⟩ | ⟨a1, a2, a3, a4, a5⟩
        · refine .inl ⟨e, fun y hy => ?_⟩
          obtain ⟨j, hj, rfl⟩ := mem_getI hy
          exact h j hj hj.2
        · refine .inr ⟨a1, a2, a3, a4, fun y hy => ?_⟩
          obtain ⟨j, hj, rfl⟩ := mem_getI hy
          exact a5 j hj hj.2) ⟨by simp, by simp, .inl ⟨rfl, fun j hj h => by have := hj.1; simp only at h; omega⟩⟩ (by simp only; omega)
  exact ⟨r, h1, h2⟩

theorem addr_same (ho : n.Ok) (hs : SmN n) (hr : RightP n) (hb : n.irbs.length ≤ 200) {irb to : Int} : ∃ r, choose_Address n irb to = some r ∧ palingref36_Address n irb to = some r := by
  obtain ⟨r, h1, h2⟩ := choose_Address_spec ho hs (irb := irb) (to := to)
  refine ⟨r, h1, ?_⟩
  by_cases hi : inL n.irbs irb
  case neg =>
    have : r = (0, false) := by rcases h2 with ⟨e, _⟩ | ⟨a, _, _, h, _⟩; exact e; exact absurd h hi
    simp [palingref36_Address, rPlace_spec, hi, this]
  by_cases ht : inL n.irbs to
  case neg =>
    have : r = (0, false) := by rcases h2 with ⟨e, _⟩ | ⟨a, _, _, _, h, _⟩; exact e; exact absurd h ht
    simp [palingref36_Address, rPlace_spec, hi, ht, this]
  have hP := (irb_pre ho hr ht).1
  have hfl := first_le hP
  have w1 := wr64 (n := firstA (getI n.irbs to).net) (by omega) (by omega)
  obtain ⟨l, e1, hl, hmem⟩ := r36list_spec ho hr hb (irb := irb) ht
  have hpos : ∀ y ∈ l, 0 ≤ y := fun y hy => by
    rcases (hmem y).1 hy with h | ⟨j, hj, h⟩
    · omega
    · have hP2 := (irb_pre ho hr hj).1
      have := first_le hP2
      have := hP2.a0
      omega
  obtain ⟨m, e2, hm⟩ := r36least_spec ho hs hr (to := to) hi hl hpos
  simp only [palingref36_Address, rPlace_spec, hi, ht, nth_getI ht, r02First_spec hP, w1, e1, e2, bind_ite, Option.bind_some, dif1, dif2, dif3, dif4, dif5, dif6, dif7, dnot, ibeq, ibne, decide_eq_true_eq, if_not2, ge_iff_le, gt_iff_lt, fst_ret, Bool.false_eq_true, decide_false, decide_true, Bool.not_true, if_false]
  rcases h2 with ⟨rfl, hno⟩ | ⟨a, rfl, _, _, _, a0, a1, hg, hleast⟩
  · rcases hm with ⟨rfl, _⟩ | ⟨m0, m1, _, hgm, _⟩
    · simp
    · exact absurd hgm (hno hr hi ht m m0 m1)
  · have hta := (hmem a).2 (least_try ho hr ht a0 hg hleast)
    rcases hm with ⟨_, h⟩ | ⟨m0, m1, _, hgm, h⟩
    · exact absurd hg (h a hta a1)
    · have k1 := h a hta a1 hg
      have k2 : ¬ m < a := fun h => hleast m m0 h hgm
      have : m = a := by omega
      subst this
      have w := wr32 (n := m) (by omega) (by omega)
      have : ¬ m < 0 := by omega
      simp [this, w]
end
end Go.Eng
