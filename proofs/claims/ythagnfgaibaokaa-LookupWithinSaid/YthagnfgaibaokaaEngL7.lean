/- The plain laws of LookupUsable, LookupDecides and LookupWithin. -/
import Derived.Test.YthagnfgaibaokaaEngP29
set_option linter.unusedVariables false
set_option linter.unusedSectionVars false
set_option linter.unusedSimpArgs false
namespace Go.Eng
open Go Classical
attribute [local congr] ite_cg

/-! ### One bit of a number -/
theorem and_two_pow' (x k : Nat) : x &&& 2 ^ k = (x.testBit k).toNat * 2 ^ k := by
  apply Nat.eq_of_testBit_eq
  intro i
  rw [Nat.testBit_and, Nat.testBit_two_pow]
  by_cases h : k = i
  · subst h
    cases hb : x.testBit k <;> simp
  · cases hb : x.testBit k <;> simp [h, Nat.testBit_two_pow]
theorem okI64 {x : Int} (h : okI .i64 x) : -9223372036854775808 ≤ x ∧ x ≤ 9223372036854775807 := ⟨h.1, h.2⟩
theorem okU64 {x : Int} (h : okI .u64 x) : 0 ≤ x ∧ x < 18446744073709551616 := ⟨h.1, by have : x ≤ 18446744073709551615 := h.2; omega⟩
theorem gather_filter {l : List Int} {K : Int → Bool} : gatherI l (fun _ p => K p = true) (fun _ p => p) = l.filter K := by
  unfold gatherI
  have key : ∀ (l : List Int) (k : Nat), (l.zipIdx k).filterMap (fun q => if K q.1 = true then some q.1 else none) = l.filter K := by
    intro l
    induction l with
    | nil => intro k; rfl
    | cons x l ih =>
      intro k
      rw [List.zipIdx_cons, List.filterMap_cons, List.filter_cons, ih]
      cases h : K x <;> simp [h]
  rw [← key l 0]
  congr 1
  funext q
  split <;> rename_i h <;> simp [h]
theorem bit_u64 {x : Int} {k : Nat} (h1 : 0 ≤ x) (h2 : x < 18446744073709551616) (hk : k < 64) : bits_and .u64 x (2 ^ k : Nat) ≠ 0 ↔ x / (2 ^ k : Nat) % 2 = 1 := by
  have hp := Nat.two_pow_pos k
  have hlt : 2 ^ k < 2 ^ 64 := Nat.pow_lt_pow_right (by decide) hk
  unfold bits_and
  rw [ofInt_nat _ _ h1, ofInt_nat _ _ (by omega), BitVec.toNat_and, BitVec.toNat_ofNat, BitVec.toNat_ofNat]
  simp only [IntKind.bits, Int.toNat_natCast]
  rw [Nat.mod_eq_of_lt (by omega), Nat.mod_eq_of_lt (by omega), and_two_pow', show x.toNat.testBit k = decide (x.toNat / 2 ^ k % 2 = 1) from Nat.testBit_eq_decide_div_mod_eq]
  have e : x / (2 ^ k : Nat) % 2 = ((x.toNat / 2 ^ k % 2 : Nat) : Int) := by
    rw [Int.natCast_emod, Int.natCast_ediv]
    rw [show ((x.toNat : Nat) : Int) = x from by omega]; rfl
  rw [e]
  generalize 2 ^ k = p at *
  have hb := Nat.mod_two_eq_zero_or_one (x.toNat / p)
  generalize x.toNat / p % 2 = c at *
  rcases hb with rfl | rfl
  · have : IntKind.u64.wrap 0 = 0 := by decide
    simp [this]
  · have := wr64u (n := (p : Int)) (by omega) (by omega)
    unfold wr_u64 at this
    simp [this]; omega
def GrpP (m : Int) : Prop := m / 1099511627776 % 2 = 1
theorem mac_Group_spec {m : Int} (h1 : 0 ≤ m) (h2 : m < 18446744073709551616) : mac_Group m = some (decide (GrpP m)) := by
  have h := bit_u64 (k := 40) h1 h2 (by decide)
  simp only [mac_Group, ibne]
  refine sdec ?_
  unfold GrpP
  simpa using h

/-! ### Bytes of an address -/
theorem bytes_round {m : Int} (h1 : 0 ≤ m) (h2 : m < 18446744073709551616) (l : List Int) (k : Nat) (hk : k ≤ 6) :
    loopM (fun s : Int × Int => match s with | (v5, v6) => palingref01_Bytes_L2 m l (k : Int) v5 v6) (m, 0) = some (m / (256 ^ k : Nat)) := by
  have key := loopM_trace (f := fun s : Int × Int => match s with | (v5, v6) => palingref01_Bytes_L2 m l (k : Int) v5 v6) (fun i => (m / (256 ^ i : Nat), (i : Int))) k (r := m / (256 ^ k : Nat)) (by omega) (fun i hi => by
    have hp : 0 < 256 ^ i := Nat.pow_pos (by decide)
    have a1 : (0 : Int) ≤ m / (256 ^ i : Nat) := Int.ediv_nonneg h1 (by omega)
    have a2 : m / (256 ^ i : Nat) ≤ m := Int.ediv_le_self _ h1
    have e : Int.tdiv (m / (256 ^ i : Nat)) 256 = m / (256 ^ (i + 1) : Nat) := by
      rw [Int.tdiv_eq_ediv_of_nonneg a1, Int.ediv_ediv_of_nonneg (by omega), Nat.pow_succ]; simp
    have b1 : (0 : Int) ≤ m / (256 ^ (i + 1) : Nat) := Int.ediv_nonneg h1 (by omega)
    have b2 : m / (256 ^ (i + 1) : Nat) ≤ m := Int.ediv_le_self _ h1
    have w1 := wr64u b1 (by omega)
    have w2 := wr64 (n := (i : Int) + 1) (by omega) (by omega)
    have hlt : (i : Int) < k := by omega
    simp only [palingref01_Bytes_L2, hlt, e, w1, w2, decide_true, if_true]
    simp) (by simp [palingref01_Bytes_L2])
  simpa using key
theorem r01_step {m : Int} (h1 : 0 ≤ m) (h2 : m < 18446744073709551616) (l : List Int) (hl : l.length ≤ 100) (k : Nat) (hk : k ≤ 5) :
    palingref01_Bytes_L1 m l (k : Int) = some (.inl (l ++ [m / (256 ^ k : Nat) % 256], (k : Int) - 1)) := by
  have h0 : (k : Int) ≥ 0 := by omega
  have a1 : (0 : Int) ≤ m / (256 ^ k : Nat) := Int.ediv_nonneg h1 (Int.natCast_nonneg _)
  have w := wr8 (n := m / (256 ^ k : Nat) % 256) (Int.emod_nonneg _ (by decide)) (Int.emod_lt_of_pos _ (by decide))
  have w2 := wr64 (n := (k : Int) - 1) (by omega) (by omega)
  have hr : roomy 1 (l ++ [m / (256 ^ k : Nat) % 256]) = true := roomy_few (by simp; omega)
  simp only [palingref01_Bytes_L1, h0, bytes_round h1 h2 l k (by omega), Int.tmod_eq_emod_of_nonneg a1, w, w2, hr, decide_true, if_true, Option.bind_some]
theorem r01Bytes_spec {m : Int} (h1 : 0 ≤ m) (h2 : m < 18446744073709551616) : palingref01_Bytes m = some [m / 1099511627776 % 256, m / 4294967296 % 256, m / 16777216 % 256, m / 65536 % 256, m / 256 % 256, m % 256] := by
  unfold palingref01_Bytes
  have e : loopM (fun s : (List Int) × Int => match s with | (l2, v3) => palingref01_Bytes_L1 m l2 v3) ([], 5) = some [m / 1099511627776 % 256, m / 4294967296 % 256, m / 16777216 % 256, m / 65536 % 256, m / 256 % 256, m % 256] := by
    have s5 := r01_step h1 h2 [] (by simp) 5 (by omega)
    have s4 := r01_step h1 h2 [m / 1099511627776 % 256] (by simp) 4 (by omega)
    have s3 := r01_step h1 h2 [m / 1099511627776 % 256, m / 4294967296 % 256] (by simp) 3 (by omega)
    have s2 := r01_step h1 h2 [m / 1099511627776 % 256, m / 4294967296 % 256, m / 16777216 % 256] (by simp) 2 (by omega)
    have s1 := r01_step h1 h2 [m / 1099511627776 % 256, m / 4294967296 % 256, m / 16777216 % 256, m / 65536 % 256] (by simp) 1 (by omega)
    have s0 := r01_step h1 h2 [m / 1099511627776 % 256, m / 4294967296 % 256, m / 16777216 % 256, m / 65536 % 256, m / 256 % 256] (by simp) 0 (by omega)
    simp at s5 s4 s3 s2 s1 s0
    exact loopM_trace (f := fun s : (List Int) × Int => match s with | (l2, v3) => palingref01_Bytes_L1 m l2 v3) (r := [m / 1099511627776 % 256, m / 4294967296 % 256, m / 16777216 % 256, m / 65536 % 256, m / 256 % 256, m % 256]) (fun i => ([m / 1099511627776 % 256, m / 4294967296 % 256, m / 16777216 % 256, m / 65536 % 256, m / 256 % 256, m % 256].take i, 5 - (i : Int))) 6 (by decide) (fun i hi => by
      match i, hi with
      | 0, _ => simpa using s5
      | 1, _ => simpa using s4
      | 2, _ => simpa using s3
      | 3, _ => simpa using s2
      | 4, _ => simpa using s1
      | 5, _ => simpa using s0) (by simp [palingref01_Bytes_L1])
  rw [e]; rfl
theorem r01Group_spec {m : Int} (h1 : 0 ≤ m) (h2 : m < 18446744073709551616) : palingref01_Group m = some (decide (GrpP m)) := by
  have a : (0 : Int) ≤ m / 1099511627776 % 256 := Int.emod_nonneg _ (by decide)
  simp only [palingref01_Group, r01Bytes_spec h1 h2, Option.bind_some]
  have l0 : lin [m / 1099511627776 % 256, m / 4294967296 % 256, m / 16777216 % 256, m / 65536 % 256, m / 256 % 256, m % 256] 0 = true := by rw [lin_dec]; exact decide_eq_true ⟨by decide, by simp⟩
  simp only [l0, if_true]
  have e : ([m / 1099511627776 % 256, m / 4294967296 % 256, m / 16777216 % 256, m / 65536 % 256, m / 256 % 256, m % 256] : List Int)[Int.toNat 0]? = some (m / 1099511627776 % 256) := rfl
  rw [e]
  simp only [Option.bind_some, Int.tmod_eq_emod_of_nonneg a, ibeq]
  refine sdec ?_
  unfold GrpP
  omega

/-! ### Static entries, and tables -/
section
variable {n : Api_Net} {fw : List Bool}
noncomputable def statI (n : Api_Net) (d x : Int) : Int := fstI n.statics fun s => s.domain = d ∧ s.mac = x
noncomputable def statP (n : Api_Net) (d x : Int) : Int := if 0 ≤ statI n d x then (getI n.statics (statI n d x)).port else -1
theorem statI_in {d x : Int} (h : 0 ≤ statI n d x) : inL n.statics (statI n d x) := fstI_inL.1 h
theorem domains_entry_spec (hs : SmN n) {d x : Int} : domains_entry n d x = some (statI n d x) := by
  unfold domains_entry slices_IndexFunc_Static_entry_1
  rw [loop_first n.statics (fun s => s.domain = d ∧ s.mac = x) hs.statics (fun i h0 h1 h2 => by
    have := hs.statics
    simp (disch := omega) only [slices_IndexFunc_Static_entry_1_L1, domains_entry_1, h1, nth_getI h2, wr64, bind_ite, Option.bind_some, dif1, dif2, dif3, dif4, dif5, dif6, dif7, dnot, ibeq, ibne, decide_eq_true_eq, if_not2, ge_iff_le, gt_iff_lt, fst_ret, Bool.false_eq_true, decide_false, mrg1, mrg2, mrg3, mrg4, mrg5, mrg6, mrg7, decide_true, if_true]; first | exact fpos Iff.rfl | exact fneg Iff.rfl) (by simp [slices_IndexFunc_Static_entry_1_L1])]
  simp only [bind_ite, Option.bind_some, dif1, dif2, dif3, dif4, dif5, dif6, dif7, dnot, ibeq, ibne, decide_eq_true_eq, if_not2, ge_iff_le, gt_iff_lt, fst_ret, Bool.false_eq_true, decide_false]
  rfl
theorem domains_Lookup_spec (hs : SmN n) (hr : RightP n) {d x : Int} : domains_Lookup n d x = some (statP n d x) := by
  unfold domains_Lookup statP
  simp only [domains_entry_spec hs, names_Right_spec hs, hr, bind_ite, Option.bind_some, dif1, dif2, dif3, dif4, dif5, dif6, dif7, dnot, ibeq, ibne, decide_eq_true_eq, if_not2, ge_iff_le, gt_iff_lt, fst_ret, Bool.false_eq_true, decide_false]
  by_cases h : 0 ≤ statI n d x
  · have h1 : ¬ statI n d x < 0 := by omega
    simp [h, h1, nth_getI (statI_in h)]
  · have h1 : statI n d x < 0 := by omega
    simp [h, h1]
theorem r18Lookup_spec (hs : SmN n) {d x : Int} : palingref18_Lookup n d x = some (statP n d x) := by
  unfold palingref18_Lookup statP
  rw [loop_firstv n.statics (fun s => s.domain = d ∧ s.mac = x) (fun _ s => s.port) hs.statics (fun i h0 h1 h2 => by
    have := hs.statics
    simp (disch := omega) only [palingref18_Lookup_L1, h1, nth_getI h2, wr64, bind_ite, Option.bind_some, dif1, dif2, dif3, dif4, dif5, dif6, dif7, dnot, ibeq, ibne, decide_eq_true_eq, if_not2, ge_iff_le, gt_iff_lt, fst_ret, Bool.false_eq_true, decide_false, mrg1, mrg2, mrg3, mrg4, mrg5, mrg6, mrg7, decide_true, if_true]; exact fpos Iff.rfl) (by simp [palingref18_Lookup_L1])]
  by_cases h : 0 ≤ statI n d x
  · have h' : 0 ≤ fstI n.statics (fun s => s.domain = d ∧ s.mac = x) := h
    simp only [h, h', if_true, Option.bind_some]; rfl
  · have h' : ¬ 0 ≤ fstI n.statics (fun s => s.domain = d ∧ s.mac = x) := h
    simp only [h, h', if_false, Option.bind_some]
theorem statP_in (hr : RightP n) {d x : Int} (h : 0 ≤ statP n d x) : inL n.ports (statP n d x) := by
  unfold statP at h ⊢
  by_cases h1 : 0 ≤ statI n d x
  · rw [if_pos h1] at h ⊢
    exact (hr.statics _ (fstI_inL.1 h1)).2.1
  · rw [if_neg h1] at h; omega
noncomputable def tabF (t : List Api_Entry) (x : Int) : Int × Bool := if 0 ≤ fstI t (fun e => e.mac = x) then ((getI t (fstI t (fun e => e.mac = x))).where_, true) else (0, false)
theorem table_Find_spec {t : List Api_Entry} {x : Int} (ht : Few t) : table_Find t x = some (tabF t x) := by
  simp only [table_Find, table_index, slices_IndexFunc_Entry_index_1]
  rw [loop_first t (fun s => s.mac = x) ht (fun i h0 h1 h2 => by
    have h3 : t.length ≤ 1000000 := ht
    simp (disch := omega) only [slices_IndexFunc_Entry_index_1_L1, table_index_1, h1, nth_getI h2, wr64, bind_ite, Option.bind_some, dif1, dif2, dif3, dif4, dif5, dif6, dif7, dnot, ibeq, ibne, decide_eq_true_eq, if_not2, ge_iff_le, gt_iff_lt, fst_ret, Bool.false_eq_true, decide_false, mrg1, mrg2, mrg3, mrg4, mrg5, mrg6, mrg7, decide_true, if_true]; exact fpos Iff.rfl) (by simp [slices_IndexFunc_Entry_index_1_L1])]
  unfold tabF
  by_cases h : 0 ≤ fstI t (fun e => e.mac = x)
  · have h1 : ¬ fstI t (fun e => e.mac = x) < 0 := by omega
    simp [h, h1, nth_getI (fstI_inL.1 h)]
  · simp [h]
theorem r26Find_spec {t : List Api_Entry} {x : Int} (ht : Few t) : palingref26_Find t x = some (tabF t x) := by
  unfold palingref26_Find
  rw [loop_firstv t (fun s => s.mac = x) (fun _ s => s.where_) ht (fun i h0 h1 h2 => by
    have h3 : t.length ≤ 1000000 := ht
    simp (disch := omega) only [palingref26_Find_L1, h1, nth_getI h2, wr64, bind_ite, Option.bind_some, dif1, dif2, dif3, dif4, dif5, dif6, dif7, dnot, ibeq, ibne, decide_eq_true_eq, if_not2, ge_iff_le, gt_iff_lt, fst_ret, Bool.false_eq_true, decide_false, mrg1, mrg2, mrg3, mrg4, mrg5, mrg6, mrg7, decide_true, if_true]; exact fpos Iff.rfl) (by simp [palingref26_Find_L1])]
  unfold tabF
  by_cases h : 0 ≤ fstI t (fun e => e.mac = x)
  · simp [h]
  · simp [h]

/-! ### Where a frame goes -/
noncomputable def flPorts (n : Api_Net) (fw : List Bool) (d frm : Int) : List Int := (membersL n d).filter (goB n fw frm)
noncomputable def flPeers (n : Api_Net) (d frm : Int) : List Int := if frm = -1 then [] else (getI n.domains d).peers
noncomputable def floodR (n : Api_Net) (fw : List Bool) (d frm : Int) : List Int × List Int × Int := if OpenP n fw d frm then (flPorts n fw d frm, flPeers n d frm, 0) else ([], [], 2)
theorem room_peers_spec (hs : SmN n) {d frm : Int} {mem : List Int} (hd : inL n.domains d) : lookup_room_peers ⟨n, fw, d, frm, mem⟩ = some (flPeers n d frm) := by
  have hp := hs.peers _ (getI_mem hd)
  have hr : roomy 8 (getI n.domains d).peers = true := roomy_few (by unfold Few at hp; omega)
  unfold lookup_room_peers flPeers
  by_cases e : frm = -1
  · simp [e]
  · simp [e, nth_getI hd, slices_Clone_int, hr]
theorem lookup_Flood_spec (hs : SmN n) {d frm : Int} : lookup_Flood n fw d frm = some (floodR n fw d frm) := by
  unfold lookup_Flood floodR
  rcases open_spec (fw := fw) hs (d := d) (frm := frm) with ⟨h, e⟩ | ⟨h, e⟩
  · have : ¬ OpenP n fw d frm := fun g => h ⟨g.fw, g.dom⟩
    simp [e, this]
  · have hm : (membersL n d).length ≤ 1000000 := Nat.le_trans membersL_len hs.ports
    by_cases ho : OpenP n fw d frm
    · simp [e, ho, room_ports_spec h.1 hm (fun p hp => membersL_in hp), room_peers_spec hs h.2, flPorts]
    · simp [e, ho]
theorem r29Flood_spec (hs : SmN n) {d frm : Int} : palingref29_Flood n fw d frm = some (floodR n fw d frm) := by
  unfold palingref29_Flood floodR
  simp only [fits_spec hs, Option.bind_some]
  by_cases ho : OpenP n fw d frm
  case neg => simp [ho]
  have hm : Few (membersL n d) := Nat.le_trans membersL_len hs.ports
  have hl := loop_gather (f := fun s : (List Int) × Int => match s with | (l11, v12) => palingref29_Flood_L1 n fw d frm (membersL n d) l11 v12) (membersL n d) (fun _ p => goB n fw frm p = true) (fun _ p => p) (out := id) hm (fun i s h0 h1 h2 h3 => by
    have hm' : (membersL n d).length ≤ 1000000 := hm
    have l1 : lin (membersL n d) i = true := by rw [lin_dec]; exact decide_eq_true h2
    have hp := membersL_in (getI_mem h2)
    have hr : roomy 8 (s ++ [getI (membersL n d) i]) = true := roomy_few (by simp; omega)
    simp (disch := omega) only [palingref29_Flood_L1, h1, l1, getI_get? h2, r29Usable_spec ho.fw hp, hr, wr64, bind_ite, Option.bind_some, dif1, dif2, dif3, dif4, dif5, dif6, dif7, dnot, ibeq, ibne, decide_eq_true_eq, if_not2, ge_iff_le, gt_iff_lt, fst_ret, Bool.false_eq_true, decide_false, decide_true, if_true, goB]
    by_cases e : getI (membersL n d) i = frm <;> by_cases u : UsP n fw (getI (membersL n d) i) <;> simp [e, u]) (fun s => by simp [palingref29_Flood_L1])
  have e : gatherI (membersL n d) (fun _ p => goB n fw frm p = true) (fun _ p => p) = flPorts n fw d frm := gather_filter
  simp only [ho, decide_true, Bool.not_true, Bool.false_eq_true, if_false, if_true, rMembers_spec hs, ho.dom, Option.bind_some, hl, e, id, nth_getI ho.dom]
  unfold flPeers
  by_cases e1 : frm = -1
  · simp [e1]
  · simp [e1]

theorem one_spec (h : FwOk n fw) {p frm : Int} (hp : inL n.ports p) : palingref29_one n fw p frm = some ([p].filter (goB n fw frm)) := by
  unfold palingref29_one
  simp only [r29Usable_spec h hp, bind_ite, Option.bind_some, dif1, dif2, dif3, dif4, dif5, dif6, dif7, dnot, ibeq, ibne, decide_eq_true_eq, if_not2, ge_iff_le, gt_iff_lt, fst_ret, Bool.false_eq_true, decide_false]
  unfold goB
  by_cases e : p = frm
  · simp [e]
  · by_cases u : UsP n fw p <;> simp [e, u]

/-- Where a frame goes. -/
noncomputable def decR (n : Api_Net) (fw : List Bool) (t : List Api_Entry) (d frm x : Int) : List Int × List Int × Int :=
  if ¬ OpenP n fw d frm then ([], [], 2) else if GrpP x then floodR n fw d frm else
  if 0 ≤ statP n d x then ([statP n d x].filter (goB n fw frm), [], 0) else
  if (tabF t x).2 = true ∧ (tabF t x).1 ∈ membersL n d then ([(tabF t x).1].filter (goB n fw frm), [], 0) else
  if (tabF t x).2 = true ∧ (tabF t x).1 < 0 ∧ -1 - (tabF t x).1 ∈ (getI n.domains d).peers then (if frm = -1 then ([], [], 0) else ([], [-1 - (tabF t x).1], 0)) else floodR n fw d frm
theorem tabF_ok {t : List Api_Entry} {x : Int} (ht : okL Api_Entry.Ok t) : -9223372036854775808 ≤ (tabF t x).1 ∧ (tabF t x).1 ≤ 9223372036854775807 := by
  unfold tabF
  by_cases h : 0 ≤ fstI t (fun e => e.mac = x)
  · rw [if_pos h]
    exact okI64 (ht.2 _ (getI_mem (fstI_inL.1 h))).2.1
  · rw [if_neg h]; simp
theorem lookup_Decide_spec (hs : SmN n) {t : List Api_Entry} (ht : Few t) (hto : okL Api_Entry.Ok t) {d frm x : Int} (x0 : 0 ≤ x) (x1 : x < 18446744073709551616) : lookup_Decide n fw t d frm x = some (decR n fw t d frm x) := by
  unfold lookup_Decide decR
  rcases open_spec (fw := fw) hs (d := d) (frm := frm) with ⟨h, e⟩ | ⟨h, e⟩
  · have : ¬ OpenP n fw d frm := fun g => h ⟨g.fw, g.dom⟩
    simp [e, this]
  by_cases ho : OpenP n fw d frm
  case neg => simp [e, ho]
  have hm : Few (membersL n d) := Nat.le_trans membersL_len hs.ports
  have hp := hs.peers _ (getI_mem h.2)
  have rp := room_ports_spec (d := d) (frm := frm) (mem := membersL n d) h.1 hm (fun p hp => membersL_in hp)
  have rq := room_peers_spec (fw := fw) (frm := frm) (mem := membersL n d) hs h.2
  have ff : floodR n fw d frm = (flPorts n fw d frm, flPeers n d frm, 0) := by unfold floodR; rw [if_pos ho]
  simp only [e, ho, mac_Group_spec x0 x1, rp, rq, Option.bind_some, decide_true, Bool.not_true, Bool.false_eq_true, if_false, not_true_eq_false]
  by_cases hg : GrpP x
  · simp [hg, ff, flPorts]
  simp only [hg, decide_false, Bool.not_false, if_true, if_false]
  have hk : lookup_room_known ⟨n, fw, d, frm, membersL n d⟩ t x = some (
      if 0 ≤ statP n d x then ([statP n d x].filter (goB n fw frm), [], true) else
      if (tabF t x).2 = true ∧ (tabF t x).1 ∈ membersL n d then ([(tabF t x).1].filter (goB n fw frm), [], true) else
      if (tabF t x).2 = true ∧ (tabF t x).1 < 0 ∧ -1 - (tabF t x).1 ∈ (getI n.domains d).peers then (if frm = -1 then ([], [], true) else ([], [-1 - (tabF t x).1], true)) else ([], [], false)) := by
    unfold lookup_room_known
    simp only [domains_Lookup_spec hs h.1.right, table_Find_spec ht, Option.bind_some, lookup_room_known_J1, lookup_room_known_J2, nth_getI h.2, Contains_int_spec hm, Contains_int_spec hp, ge_iff_le, decide_eq_true_eq]
    by_cases h1 : 0 ≤ statP n d x
    · rw [if_pos h1, if_pos h1, room_ports_spec h.1 (by simp) (fun p hp => by simp at hp; subst hp; exact statP_in h.1.right h1)]; rfl
    rw [if_neg h1, if_neg h1]
    have hw := tabF_ok (x := x) hto
    generalize tabF t x = q at *
    obtain ⟨wh, ok⟩ := q
    simp only at hw ⊢
    cases ok with
    | false => simp
    | true =>
      have w := wr64 (n := -1 - wh)
      by_cases h2 : wh ∈ membersL n d
      · have hin := membersL_in h2
        have h3 : 0 ≤ wh := hin.1
        rw [room_ports_spec h.1 (by simp) (fun p hp => by simp at hp; subst hp; exact hin)]
        simp [h2, h3]
      · by_cases h3 : 0 ≤ wh
        · have h4 : ¬ wh < 0 := by omega
          simp [h2, h3, h4]
        · have h4 : wh < 0 := by omega
          have w := wr64 (n := -1 - wh) (by omega) (by omega)
          simp only [h2, h3, h4, w, decide_false, decide_true, if_false, if_true, Bool.not_true, Bool.false_eq_true, Option.bind_some, and_false, true_and]
          by_cases h5 : -1 - wh ∈ (getI n.domains d).peers
          · by_cases h6 : frm = -1
            · simp [h5, h6]
            · simp [h5, h6]
          · simp [h5]
  rw [hk]
  simp only [Option.bind_some]
  by_cases c1 : 0 ≤ statP n d x
  · simp [c1]
  by_cases c2 : (tabF t x).2 = true ∧ (tabF t x).1 ∈ membersL n d
  · simp [c1, c2]
  by_cases c3 : (tabF t x).2 = true ∧ (tabF t x).1 < 0 ∧ -1 - (tabF t x).1 ∈ (getI n.domains d).peers
  · by_cases c4 : frm = -1
    · rw [if_neg c1, if_neg c2, if_pos c3, if_pos c4, if_neg c1, if_neg c2, if_pos c3, if_pos c4]; rfl
    · rw [if_neg c1, if_neg c2, if_pos c3, if_neg c4, if_neg c1, if_neg c2, if_pos c3, if_neg c4]; rfl
  · simp only [c1, c2, c3, if_false, Bool.false_eq_true, ff, flPorts]
theorem r29Decide_spec (hs : SmN n) {t : List Api_Entry} (ht : Few t) (hto : okL Api_Entry.Ok t) {d frm x : Int} (x0 : 0 ≤ x) (x1 : x < 18446744073709551616) : palingref29_Decide n fw t d frm x = some (decR n fw t d frm x) := by
  unfold palingref29_Decide decR
  simp only [r29Flood_spec hs, r01Group_spec x0 x1, r18Lookup_spec hs, r26Find_spec ht, Option.bind_some]
  by_cases ho : OpenP n fw d frm
  case neg => simp [floodR, ho]
  have ff : floodR n fw d frm = (flPorts n fw d frm, flPeers n d frm, 0) := by unfold floodR; rw [if_pos ho]
  have hm : Few (membersL n d) := Nat.le_trans membersL_len hs.ports
  have hp := hs.peers _ (getI_mem ho.dom)
  simp only [ff, ho, not_true_eq_false, if_false]
  by_cases hg : GrpP x
  · simp [hg]
  have nz : ((0 : Int) != 0) = false := rfl
  simp only [hg, nz, decide_false, Bool.false_eq_true, if_false, ge_iff_le, decide_eq_true_eq]
  by_cases h1 : 0 ≤ statP n d x
  · rw [if_pos h1, if_pos h1, one_spec ho.fw (statP_in ho.fw.right h1)]; rfl
  rw [if_neg h1, if_neg h1]
  have hw := tabF_ok (x := x) hto
  simp only [palingref29_Decide_J1, palingref29_Decide_J2, rMembers_spec hs, ho.dom, if_true, Option.bind_some, nth_getI ho.dom, rIn_spec hm, rIn_spec hp]
  generalize tabF t x = q at *
  obtain ⟨wh, ok⟩ := q
  simp only at hw ⊢
  cases ok with
  | false => simp
  | true =>
    by_cases h2 : wh ∈ membersL n d
    · have hin := membersL_in h2
      rw [one_spec ho.fw hin]
      simp [h2]
    · by_cases h3 : 0 ≤ wh
      · have h4 : ¬ wh < 0 := by omega
        simp [h2, h4]
      · have h4 : wh < 0 := by omega
        have w1 := wr64 (n := wh + 1) (by omega) (by omega)
        have w := wr64 (n := -1 - wh) (by omega) (by omega)
        have e : 0 - (wh + 1) = -1 - wh := by omega
        simp only [h2, h4, w1, w, e, decide_false, decide_true, if_false, if_true, Bool.false_eq_true, Option.bind_some, and_false, true_and]
        by_cases h5 : -1 - wh ∈ (getI n.domains d).peers
        · by_cases h6 : frm = -1
          · simp [h5, h6]
          · simp [h5, h6]
        · simp [h5]
theorem works29 : palinglaw29_works = some true := by kernel_rfl

theorem lookupUsable (n : Api_Net) (fw : List Bool) (p : Int) (_ : n.Ok) (_ : okL okB fw) (_ : okI .i64 p) : palinglaw29_LookupUsable n fw p = some true := by
  simp only [palinglaw29_LookupUsable, works29, Great_spec, bind_ite, Option.bind_some, dif1, dif2, dif3, dif4, dif5, dif6, dif7, dnot, ibeq, ibne, decide_eq_true_eq, if_not2, ge_iff_le, gt_iff_lt, fst_ret, Bool.false_eq_true, decide_false]
  by_cases hg : BndN n 200 100
  case neg => simp [hg]
  have hs := hg.sm
  by_cases hf : (200 : Int) < fw.length
  · simp [hg, hf]
  simp only [hg, hf, not_true_eq_false, if_false, if_true, rRight_spec hs, lookup_Usable_spec hs, Option.bind_some, decide_eq_true_eq]
  by_cases hr : RightP n
  case neg =>
    have : ¬ FwOk n fw := fun h => hr h.right
    simp [hr, this]
  by_cases hl : (fw.length : Int) = n.links.length
  case neg =>
    have : ¬ FwOk n fw := fun h => hl (by rw [h.len])
    simp [hr, hl, this]
  have hF : FwOk n fw := ⟨hr, by omega⟩
  by_cases hp : inL n.ports p
  · simp [hr, hl, hF, hp, r29Usable_spec hF hp]
  · have e : palingref29_Usable n fw p = some false := by simp [palingref29_Usable, rPlace_spec, hp]
    simp [hr, hl, hF, hp, e]

theorem floodR_len (hs : SmN n) {d frm : Int} : (floodR n fw d frm).1.length ≤ 1000000 ∧ (floodR n fw d frm).2.1.length ≤ 1000000 := by
  unfold floodR
  by_cases ho : OpenP n fw d frm
  · rw [if_pos ho]
    have h1 : (flPorts n fw d frm).length ≤ (membersL n d).length := List.length_filter_le _ _
    have h2 := @membersL_len n d
    have h3 : n.ports.length ≤ 1000000 := hs.ports
    have h4 : (getI n.domains d).peers.length ≤ 1000000 := hs.peers _ (getI_mem ho.dom)
    refine ⟨by simp only; omega, ?_⟩
    simp only [flPeers]; split
    · simp
    · exact h4
  · rw [if_neg ho]; simp
theorem one_filter {p : Int} {K : Int → Bool} : ([p].filter K).length ≤ 1 := by
  have := List.length_filter_le K [p]; simpa using this
theorem decR_len (hs : SmN n) {t : List Api_Entry} {d frm x : Int} : (decR n fw t d frm x).1.length ≤ 1000000 ∧ (decR n fw t d frm x).2.1.length ≤ 1000000 := by
  have h := floodR_len (fw := fw) hs (d := d) (frm := frm)
  have h1 : ∀ p, ([p].filter (goB n fw frm)).length ≤ 1 := fun p => one_filter
  unfold decR
  split
  · simp
  split
  · exact h
  split
  · have := h1 (statP n d x); exact ⟨by simp only; omega, by simp⟩
  split
  · have := h1 (tabF t x).1; exact ⟨by simp only; omega, by simp⟩
  split
  · split <;> simp
  · exact h
theorem lookupDecides (n : Api_Net) (fw : List Bool) (t : List Api_Entry) (d frm x : Int) (_ : n.Ok) (_ : okL okB fw) (ht : okL Api_Entry.Ok t) (_ : okI .i64 d) (_ : okI .i64 frm) (hx : okI .u64 x) : palinglaw29_LookupDecides n fw t d frm x = some true := by
  simp only [palinglaw29_LookupDecides, works29, Great_spec, bind_ite, Option.bind_some, dif1, dif2, dif3, dif4, dif5, dif6, dif7, dnot, ibeq, ibne, decide_eq_true_eq, if_not2, ge_iff_le, gt_iff_lt, fst_ret, Bool.false_eq_true, decide_false]
  by_cases hg : BndN n 200 100
  case neg => simp [hg]
  have hs := hg.sm
  by_cases hf : (200 : Int) < fw.length
  · simp [hg, hf]
  by_cases hf2 : (200 : Int) < t.length
  · simp [hg, hf, hf2]
  obtain ⟨x0, x1⟩ := okU64 hx
  have htf : Few t := by unfold Few; omega
  obtain ⟨l1, l2⟩ := decR_len (fw := fw) hs (t := t) (d := d) (frm := frm) (x := x)
  obtain ⟨l3, l4⟩ := floodR_len (fw := fw) hs (d := d) (frm := frm)
  simp [hg, hf, hf2, lookup_Decide_spec hs htf ht x0 x1, r29Decide_spec hs htf ht x0 x1, lookup_Flood_spec hs, r29Flood_spec hs, rInts_spec l1, rInts_spec l2, rInts_spec l3, rInts_spec l4]

theorem has29_spec {l : List Int} {x : Int} (hl : Few l) : palinglaw29_has l x = some (decide (x ∈ l)) := by
  unfold palinglaw29_has
  rw [loop_each l (fun _ y => ¬ y = x) (.inl ()) (.inr ()) hl (fun i h0 h1 h2 => by
    have h3 : l.length ≤ 1000000 := hl
    simp (disch := omega) only [palinglaw29_has_L1, h1, nth_getI h2, wr64, bind_ite, Option.bind_some, dif1, dif2, dif3, dif4, dif5, dif6, dif7, dnot, ibeq, ibne, decide_eq_true_eq, if_not2, ge_iff_le, gt_iff_lt, fst_ret, Bool.false_eq_true, decide_false, mrg1, mrg2, mrg3, mrg4, mrg5, mrg6, mrg7, decide_true, if_true]; exact fpos Iff.rfl) (by simp [palinglaw29_has_L1])]
  simp only [bind_ite, Option.bind_some, dif1, dif2, dif3, dif4, dif5, dif6, dif7, dnot, ibeq, ibne, decide_eq_true_eq, if_not2, ge_iff_le, gt_iff_lt, fst_ret, Bool.false_eq_true, decide_false, eachP_mem]
  refine sdec ?_
  constructor
  · intro h
    apply Classical.byContradiction
    intro hn
    exact h fun y hy e => hn (e ▸ hy)
  · intro h hn
    exact hn x h rfl
theorem goB_us {frm p : Int} (h : goB n fw frm p = true) : p ≠ frm ∧ UsP n fw p := by unfold goB at h; simpa using h
theorem lookupWithin (n : Api_Net) (fw : List Bool) (t : List Api_Entry) (d frm x : Int) (_ : n.Ok) (_ : okL okB fw) (ht : okL Api_Entry.Ok t) (_ : okI .i64 d) (_ : okI .i64 frm) (hx : okI .u64 x) : palinglaw29_LookupWithin n fw t d frm x = some true := by
  simp only [palinglaw29_LookupWithin, works29, Great_spec, bind_ite, Option.bind_some, dif1, dif2, dif3, dif4, dif5, dif6, dif7, dnot, ibeq, ibne, decide_eq_true_eq, if_not2, ge_iff_le, gt_iff_lt, fst_ret, Bool.false_eq_true, decide_false]
  by_cases hg : BndN n 200 100
  case neg => simp [hg]
  have hs := hg.sm
  by_cases hf : (200 : Int) < fw.length
  · simp [hg, hf]
  by_cases hf2 : (200 : Int) < t.length
  · simp [hg, hf, hf2]
  obtain ⟨x0, x1⟩ := okU64 hx
  have htf : Few t := by unfold Few; omega
  obtain ⟨l1, l2⟩ := decR_len (fw := fw) hs (t := t) (d := d) (frm := frm) (x := x)
  obtain ⟨l3, l4⟩ := floodR_len (fw := fw) hs (d := d) (frm := frm)
  -- what is told
  have hA : ∀ p ∈ (decR n fw t d frm x).1, p ≠ frm ∧ p ∈ (floodR n fw d frm).1 ∧ (FwOk n fw ∧ inL n.ports p ∧ UsP n fw p) := by
    intro p hp
    by_cases ho : OpenP n fw d frm
    case neg => simp [decR, ho] at hp
    have ff : floodR n fw d frm = (flPorts n fw d frm, flPeers n d frm, 0) := by unfold floodR; rw [if_pos ho]
    have hfl : p ∈ flPorts n fw d frm → p ≠ frm ∧ p ∈ (floodR n fw d frm).1 ∧ (FwOk n fw ∧ inL n.ports p ∧ UsP n fw p) := fun h => by
      have h' := List.mem_filter.1 h
      exact ⟨(goB_us h'.2).1, by rw [ff]; exact h, ho.fw, membersL_in h'.1, (goB_us h'.2).2⟩
    unfold decR at hp
    rw [if_neg (by simpa using ho)] at hp
    split at hp
    · rw [ff] at hp; exact hfl hp
    split at hp
    · rename_i h1
      simp only [List.mem_filter, List.mem_singleton] at hp
      obtain ⟨rfl, hp⟩ := hp
      refine hfl (List.mem_filter.2 ⟨?_, hp⟩)
      unfold statP at h1 ⊢
      by_cases h2 : 0 ≤ statI n d x
      · rw [if_pos h2] at h1 ⊢
        have hst := ho.fw.right.statics _ (statI_in h2)
        have hdm := fstI_is (l := n.statics) (P := fun s => s.domain = d ∧ s.mac = x) h2
        refine mem_gatherI.2 ⟨_, hst.2.1, ?_, rfl⟩
        have h3 := hst.2.2
        rw [show (getI n.statics (statI n d x)).domain = d from hdm.1] at h3
        exact h3
      · rw [if_neg h2] at h1; omega
    split at hp
    · rename_i h1
      simp only [List.mem_filter, List.mem_singleton] at hp
      obtain ⟨rfl, hp⟩ := hp
      exact hfl (List.mem_filter.2 ⟨h1.2, hp⟩)
    split at hp
    · split at hp <;> simp at hp
    · rw [ff] at hp; exact hfl hp
  have hB : ∀ p ∈ (decR n fw t d frm x).2.1, p ∈ (floodR n fw d frm).2.1 := by
    intro p hp
    by_cases ho : OpenP n fw d frm
    case neg => simp [decR, ho] at hp
    have ff : floodR n fw d frm = (flPorts n fw d frm, flPeers n d frm, 0) := by unfold floodR; rw [if_pos ho]
    unfold decR at hp
    rw [if_neg (by simpa using ho)] at hp
    split at hp
    · exact hp
    split at hp
    · simp at hp
    split at hp
    · simp at hp
    split at hp
    · rename_i h1
      split at hp
      · simp at hp
      · rename_i h2
        simp only [List.mem_singleton] at hp
        subst hp
        rw [ff]
        simp only [flPeers, if_neg h2]
        exact h1.2.2
    · exact hp
  have hE : (decR n fw t d frm x).2.2 = (floodR n fw d frm).2.2 ∧ ((floodR n fw d frm).2.2 ≠ 0 → decR n fw t d frm x = ([], [], 2) ∧ floodR n fw d frm = ([], [], 2)) := by
    by_cases ho : OpenP n fw d frm
    case neg => simp [decR, floodR, ho]
    have ff : floodR n fw d frm = (flPorts n fw d frm, flPeers n d frm, 0) := by unfold floodR; rw [if_pos ho]
    rw [ff]
    refine ⟨?_, fun h => absurd rfl h⟩
    unfold decR
    rw [if_neg (by simpa using ho), ff]
    split
    · rfl
    split
    · rfl
    split
    · rfl
    split
    · split <;> rfl
    · rfl
  have hM : frm = -1 → (decR n fw t d frm x).2.1 = [] ∧ (floodR n fw d frm).2.1 = [] := by
    intro e
    have h1 : (floodR n fw d frm).2.1 = [] := by
      unfold floodR; split
      · simp [flPeers, e]
      · rfl
    refine ⟨?_, h1⟩
    have : ∀ p, p ∉ (decR n fw t d frm x).2.1 := fun p hp => by have := hB p hp; rw [h1] at this; simp at this
    exact List.eq_nil_iff_forall_not_mem.2 this
  simp only [hg, hf, hf2, lookup_Decide_spec hs htf ht x0 x1, lookup_Flood_spec hs, not_true_eq_false, if_false, Option.bind_some, decide_eq_true_eq, Bool.not_true, Bool.false_eq_true, decide_false]
  generalize decR n fw t d frm x = D at *
  generalize floodR n fw d frm = F at *
  obtain ⟨a, b, e⟩ := D
  obtain ⟨a', b', e'⟩ := F
  simp only at l1 l2 l3 l4 hA hB hE hM ⊢
  have hJ : palinglaw29_LookupWithin_J1 n fw frm a b e a' b' e' = some (.inr ()) := by
    unfold palinglaw29_LookupWithin_J1
    obtain ⟨e1, e2⟩ := hE
    subst e1
    by_cases hz : e = 0
    · simp [hz]
    · obtain ⟨r1, r2⟩ := e2 hz
      simp only [Prod.mk.injEq] at r1 r2
      obtain ⟨rfl, rfl, rfl⟩ := r1
      obtain ⟨rfl, rfl, _⟩ := r2
      decide
  rw [hJ]
  simp only [Option.bind_some]
  have hL2 : loopM (palinglaw29_LookupWithin_L2 n fw frm a b a' b') 0 = some (.inr ()) := by
    refine loop_pass (f := palinglaw29_LookupWithin_L2 n fw frm a b a' b') a (Sum.inr ()) l1 (fun i h0 h1 h2 => ?_) (by simp [palinglaw29_LookupWithin_L2])
    have hw := wr64 (n := i + 1) (by omega) (by omega)
    obtain ⟨q1, q2, q3⟩ := hA _ (getI_mem h2)
    simp only [palinglaw29_LookupWithin_L2, h1, nth_getI h2, has29_spec l3, lookup_Usable_spec hs, hw, q2, q3, decide_true, if_true, Option.bind_some, ibeq, q1, decide_false, Bool.not_true, Bool.false_eq_true, if_false, and_self]
  have hL3 : loopM (palinglaw29_LookupWithin_L3 frm b b') 0 = some (.inr ()) := by
    refine loop_pass (f := palinglaw29_LookupWithin_L3 frm b b') b (Sum.inr ()) l2 (fun i h0 h1 h2 => ?_) (by simp [palinglaw29_LookupWithin_L3])
    have hw := wr64 (n := i + 1) (by omega) (by omega)
    simp only [palinglaw29_LookupWithin_L3, h1, nth_getI h2, has29_spec l4, hw, hB _ (getI_mem h2), decide_true, if_true, Option.bind_some, Bool.not_true, Bool.false_eq_true, if_false]
  rw [hL2, hL3]
  simp only [Option.bind_some]
  by_cases e1 : frm = -1
  · obtain ⟨r1, r2⟩ := hM e1
    subst r1; subst r2
    simp [e1]; decide
  · simp [e1]
end
end Go.Eng
