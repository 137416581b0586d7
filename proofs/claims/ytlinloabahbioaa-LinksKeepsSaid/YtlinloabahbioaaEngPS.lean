/- Plain laws of lines: what the program takes for a line of a kind. -/
import Derived.Test.YtlinloabahbioaaEngPNa
import Derived.Test.YtlinloabahbioaaEngP15s
import Derived.Test.YtlinloabahbioaaEngPB
set_option linter.unusedVariables false
set_option linter.unusedSectionVars false
set_option linter.unusedSimpArgs false
namespace Go.Eng
open Go Classical
attribute [local congr] ite_cg

theorem within_spec {a b c : Int} : stmt_within a b c = some (decide (b ≤ a ∧ a ≤ c)) := by
  simp only [stmt_within, bind_ite, Option.bind_some, dif1, dif2, dif3, dif4, dif5, dif6, dif7, dnot, ibeq, ibne, decide_eq_true_eq, if_not2, ge_iff_le, gt_iff_lt, fst_ret, Bool.false_eq_true, decide_false]
theorem station_tot {m : Int} : ∃ b, stmt_station m = some b := by
  simp only [stmt_station, mac_IsHost, mac_Group]
  split <;> simp only [Option.bind_some] <;> (repeat' split) <;> exact ⟨_, rfl⟩
theorem list_spec {l : List Int} {b : Int} (hl : Few l) : stmt_list l b = some (decide (RiseP l b)) := by
  simp only [stmt_list, num_Rising_spec hl, bind_ite, Option.bind_some, dif1, dif2, dif3, dif4, dif5, dif6, dif7, dnot, ibeq, ibne, decide_eq_true_eq, if_not2, ge_iff_le, gt_iff_lt, fst_ret, Bool.false_eq_true, decide_false]
  refine sdec ?_
  unfold RiseP
  cases l <;> simp; omega
theorem addrs_spec {l : List Int} (hl : Few l) : ∃ b, stmt_addrs l = some b ∧ (b = true → l.length ≤ 16) := by
  unfold stmt_addrs
  rw [loop_each l (fun i x => ¬ x = 0 ∧ (0 < i → getI l (i - 1) < x)) (.inl ()) (.inr ()) hl (fun i h0 h1 h2 => by
    by_cases hi : 0 < i
    · have h3 : inL l (i - 1) := ⟨by omega, by omega⟩
      simp (disch := omega) only [stmt_addrs_L1, h1, hi, nth_getI h2, wr64, nth_getI h3, bind_ite, Option.bind_some, dif1, dif2, dif3, dif4, dif5, dif6, dif7, dnot, ibeq, ibne, decide_eq_true_eq, if_not2, ge_iff_le, gt_iff_lt, fst_ret, Bool.false_eq_true, decide_false, decide_true, if_true]
      grind
    · simp (disch := omega) only [stmt_addrs_L1, h1, hi, nth_getI h2, wr64, bind_ite, Option.bind_some, dif1, dif2, dif3, dif4, dif5, dif6, dif7, dnot, ibeq, ibne, decide_eq_true_eq, if_not2, ge_iff_le, gt_iff_lt, fst_ret, Bool.false_eq_true, decide_false, decide_true, if_true]
      grind) (by simp [stmt_addrs_L1])]
  split
  · simp only [Option.bind_some]
    split
    · exact ⟨_, rfl, fun h => by have := of_decide_eq_true h; omega⟩
    · exact ⟨_, rfl, fun h => by cases h⟩
  · exact ⟨_, rfl, fun h => by cases h⟩
theorem same_tot {a b : Api_Line} (h1 : Few a.tagged) (h2 : Few a.imports) (h3 : Few a.exports) (h4 : Few a.addrs) : ∃ r, stmt_Same a b = some r := by
  simp only [stmt_Same, Equal_int_spec h1, Equal_int_spec h2, Equal_int_spec h3, Equal_uint32_spec h4, bind_ite, Option.bind_some, dif1, dif2, dif3, dif4, dif5, dif6, dif7, dnot, ibeq, ibne, decide_eq_true_eq, if_not2, ge_iff_le, gt_iff_lt, fst_ret, Bool.false_eq_true, decide_false]
  exact ⟨_, rfl⟩
/-- A line that is used so, and as it may be. -/
structure UsedP (l u : Api_Line) (ok : Bool) (Q : Prop) : Prop where
  eq : stmt_used l = some (u, ok)
  few1 : Few u.tagged
  few2 : Few u.imports
  few3 : Few u.exports
  few4 : Few u.addrs
  fact : ok = true → Q
theorem right_of {l u : Api_Line} {ok : Bool} {Q : Prop} (h : UsedP l u ok Q) (hd : l.dev.size ≤ 1000000) : ∃ b, stmt_Right l = some b ∧ (b = true → Q ∧ NameP l.dev) := by
  obtain ⟨r, hr⟩ := same_tot h.few1 h.few2 h.few3 h.few4 (b := l)
  unfold stmt_Right
  rw [h.eq]
  simp only [Option.bind_some, num_Name_spec hd, hr]
  cases hok : ok with
  | false => exact ⟨_, rfl, fun h => by cases h⟩
  | true =>
    by_cases hn : NameP l.dev
    · simp only [hn, decide_true, if_true]
      exact ⟨_, rfl, fun _ => ⟨h.fact hok, trivial⟩⟩
    · simp only [hn, decide_false, if_true, Bool.false_eq_true, if_false]
      exact ⟨_, rfl, fun h => by cases h⟩
theorem few0 {α : Type} : Few ([] : List α) := by unfold Few; simp
theorem kne {k a b : Int} (h : k = a) (hab : (a == b) = false) : ¬ (k == b) = true := by rw [h, hab]; simp
theorem keq {k a : Int} (h : k = a) : (k == a) = true := by rw [h]; simp
theorem stmt_R1 {l : Api_Line} (hk : l.kind = 1) (hd : l.dev.size ≤ 1000000) : ∃ b, stmt_Right l = some b ∧ (b = true → True ∧ NameP l.dev) := by
  have : ∃ u ok, UsedP l u ok True := by
    obtain ⟨s, hs⟩ := station_tot (m := l.mac)
    by_cases c : 0 ≤ l.num ∧ l.num ≤ 65535
    · exact ⟨_, s, by unfold stmt_used; rw [if_pos (keq hk), within_spec, decide_eq_true c, Option.bind_some, if_pos rfl, hs, Option.bind_some], few0, few0, few0, few0, fun _ => trivial⟩
    · exact ⟨_, false, by unfold stmt_used; rw [if_pos (keq hk), within_spec, decide_eq_false c, Option.bind_some, if_neg (by simp)], few0, few0, few0, few0, fun _ => trivial⟩
  obtain ⟨u, ok, h⟩ := this
  exact right_of h hd
theorem members_spec {l : Api_Line} (ht : Few l.tagged) : stmt_members l = some (decide ((0 < l.vlan ∨ 0 < l.tagged.length) ∧ l.vlan ∉ l.tagged)) := by
  simp only [stmt_members, Contains_int_spec ht, Option.bind_some]
  by_cases a : 0 < l.vlan <;> by_cases b : 0 < l.tagged.length <;> by_cases c : l.vlan ∈ l.tagged <;> simp [a, b, c] <;> simp_all
theorem stmt_R2 {l : Api_Line} (hk : l.kind = 2) (hd : l.dev.size ≤ 1000000) (hp : l.port.size ≤ 1000000) (ht : Few l.tagged) : ∃ b, stmt_Right l = some b ∧ (b = true →
    (0 ≤ l.vlan ∧ l.vlan ≤ 4094 ∧ RiseP l.tagged 4094 ∧ (0 < l.vlan ∨ 0 < l.tagged.length) ∧ l.vlan ∉ l.tagged) ∧ NameP l.dev) := by
  have : ∃ u ok, UsedP l u ok (0 ≤ l.vlan ∧ l.vlan ≤ 4094 ∧ RiseP l.tagged 4094 ∧ (0 < l.vlan ∨ 0 < l.tagged.length) ∧ l.vlan ∉ l.tagged) := by
    refine ⟨⟨l.row, l.kind, l.dev, l.port, ⟨#[]⟩, ⟨#[]⟩, ⟨#[]⟩, 0, 0, 0, l.vlan, 0, l.cost, l.tagged, [], [], []⟩, decide (NameP l.port ∧ (1 ≤ l.cost ∧ l.cost ≤ 65535) ∧ (0 ≤ l.vlan ∧ l.vlan ≤ 4094) ∧ RiseP l.tagged 4094 ∧ ((0 < l.vlan ∨ 0 < l.tagged.length) ∧ l.vlan ∉ l.tagged)), by
      unfold stmt_used
      rw [if_neg (kne hk rfl), if_pos (keq hk)]
      simp only [num_Name_spec hp, within_spec, list_spec ht, members_spec ht, Option.bind_some]
      by_cases c1 : NameP l.port
      case neg => simp only [c1, decide_false, Bool.false_eq_true, if_false, false_and]
      by_cases c2 : 1 ≤ l.cost ∧ l.cost ≤ 65535
      case neg => simp only [c1, c2, decide_true, decide_false, Bool.false_eq_true, if_false, if_true, false_and, and_false, and_self]
      by_cases c3 : 0 ≤ l.vlan ∧ l.vlan ≤ 4094
      case neg => simp only [c1, c2, c3, decide_true, decide_false, Bool.false_eq_true, if_false, if_true, false_and, and_false, and_self]
      by_cases c4 : RiseP l.tagged 4094
      case neg => simp only [c1, c2, c3, c4, decide_true, decide_false, Bool.false_eq_true, if_false, if_true, false_and, and_false, and_self]
      simp only [c1, c2, c3, c4, decide_true, if_true, true_and, and_self], ht, few0, few0, few0, fun h => ?_⟩
    have := of_decide_eq_true h
    exact ⟨this.2.2.1.1, this.2.2.1.2, this.2.2.2.1, this.2.2.2.2⟩
  obtain ⟨u, ok, h⟩ := this
  exact right_of h hd
theorem stmt_R5 {l : Api_Line} (hk : l.kind = 5) (hd : l.dev.size ≤ 1000000) : ∃ b, stmt_Right l = some b ∧ (b = true → l.addr ≠ 0 ∧ NameP l.dev) := by
  have : ∃ u ok, UsedP l u ok (l.addr ≠ 0) := by
    exact ⟨_, l.addr != 0, by unfold stmt_used; rw [if_neg (kne hk rfl), if_neg (kne hk rfl), if_neg (kne hk rfl), if_neg (kne hk rfl), if_pos (keq hk)], few0, few0, few0, few0, fun h => by simpa using h⟩
  obtain ⟨u, ok, h⟩ := this
  exact right_of h hd
theorem stmt_R6 {l : Api_Line} (hk : l.kind = 6) (hd : l.dev.size ≤ 1000000) : ∃ b, stmt_Right l = some b ∧ (b = true → (1 ≤ l.num ∧ l.num ≤ 16777215) ∧ NameP l.dev) := by
  have : ∃ u ok, UsedP l u ok (1 ≤ l.num ∧ l.num ≤ 16777215) := by
    refine ⟨⟨l.row, l.kind, l.dev, ⟨#[]⟩, ⟨#[]⟩, ⟨#[]⟩, ⟨#[]⟩, 0, 0, 0, l.vlan, l.num, 0, [], [], [], []⟩, decide ((1 ≤ l.vlan ∧ l.vlan ≤ 4094) ∧ (1 ≤ l.num ∧ l.num ≤ 16777215)), by
      unfold stmt_used
      rw [if_neg (kne hk rfl), if_neg (kne hk rfl), if_neg (kne hk rfl), if_neg (kne hk rfl), if_neg (kne hk rfl), if_pos (keq hk)]
      simp only [within_spec, Option.bind_some]
      by_cases c1 : 1 ≤ l.vlan ∧ l.vlan ≤ 4094
      case neg => simp only [c1, decide_false, Bool.false_eq_true, if_false, false_and]
      simp only [c1, decide_true, if_true, true_and, and_self], few0, few0, few0, few0, fun h => (of_decide_eq_true h).2⟩
  obtain ⟨u, ok, h⟩ := this
  exact right_of h hd
theorem stmt_R7 {l : Api_Line} (hk : l.kind = 7) (hd : l.dev.size ≤ 1000000) (ha : Few l.addrs) : ∃ b, stmt_Right l = some b ∧ (b = true → (1 ≤ l.num ∧ l.addrs.length ≤ 16) ∧ NameP l.dev) := by
  have : ∃ u ok, UsedP l u ok (1 ≤ l.num ∧ l.addrs.length ≤ 16) := by
    obtain ⟨b, hb, hb2⟩ := addrs_spec ha
    refine ⟨⟨l.row, l.kind, l.dev, ⟨#[]⟩, ⟨#[]⟩, ⟨#[]⟩, ⟨#[]⟩, 0, 0, 0, 0, l.num, 0, [], [], [], l.addrs⟩, decide (1 ≤ l.num ∧ l.num ≤ 16777215) && b, by
      unfold stmt_used
      rw [if_neg (kne hk rfl), if_neg (kne hk rfl), if_neg (kne hk rfl), if_neg (kne hk rfl), if_neg (kne hk rfl), if_neg (kne hk rfl), if_pos (keq hk)]
      simp only [within_spec, hb, Option.bind_some]
      by_cases c1 : 1 ≤ l.num ∧ l.num ≤ 16777215
      case neg => simp only [c1, decide_false, Bool.false_eq_true, if_false, Bool.false_and]
      simp only [c1, and_self, decide_true, if_true, Bool.true_and], few0, few0, few0, ha, fun h => by
        rw [Bool.and_eq_true] at h
        exact ⟨(of_decide_eq_true h.1).1, hb2 h.2⟩⟩
  obtain ⟨u, ok, h⟩ := this
  exact right_of h hd
theorem stmt_R8 {l : Api_Line} (hk : l.kind = 8) (hd : l.dev.size ≤ 1000000) (hn : l.name.size ≤ 1000000) (hi : Few l.imports) (he : Few l.exports) : ∃ b, stmt_Right l = some b ∧ (b = true → (RiseP l.imports 65535 ∧ RiseP l.exports 65535) ∧ NameP l.dev) := by
  have : ∃ u ok, UsedP l u ok (RiseP l.imports 65535 ∧ RiseP l.exports 65535) := by
    refine ⟨⟨l.row, l.kind, l.dev, ⟨#[]⟩, ⟨#[]⟩, ⟨#[]⟩, l.name, 0, 0, 0, 0, 0, 0, [], l.imports, l.exports, []⟩, decide (NameP l.name ∧ RiseP l.imports 65535 ∧ RiseP l.exports 65535), by
      unfold stmt_used
      rw [if_neg (kne hk rfl), if_neg (kne hk rfl), if_neg (kne hk rfl), if_neg (kne hk rfl), if_neg (kne hk rfl), if_neg (kne hk rfl), if_neg (kne hk rfl), if_pos (keq hk)]
      simp only [num_Name_spec hn, list_spec hi, list_spec he, Option.bind_some]
      by_cases c1 : NameP l.name
      case neg => simp only [c1, decide_false, Bool.false_eq_true, if_false, false_and]
      by_cases c2 : RiseP l.imports 65535
      case neg => simp only [c1, c2, decide_true, decide_false, Bool.false_eq_true, if_false, if_true, false_and, and_false, and_self]
      simp only [c1, c2, decide_true, if_true, true_and, and_self], few0, hi, he, few0, fun h => (of_decide_eq_true h).2⟩
  obtain ⟨u, ok, h⟩ := this
  exact right_of h hd
theorem addr_rest_tot {p : Api_Prefix} (h : 0 ≤ p.bits ∧ p.bits ≤ 32) : ∃ r, addr_rest p = some r := by
  unfold addr_rest
  rw [wr64 (by omega) (by omega), if_pos (decide_eq_true (by omega))]
  exact ⟨_, rfl⟩
theorem addr_Right_spec {p : Api_Prefix} : addr_Right p = some (decide (0 ≤ p.bits ∧ p.bits ≤ 32)) := by
  simp only [addr_Right, bind_ite, Option.bind_some, dif1, dif2, dif3, dif4, dif5, dif6, dif7, dnot, ibeq, ibne, decide_eq_true_eq, if_not2, ge_iff_le, gt_iff_lt, fst_ret, Bool.false_eq_true, decide_false]
theorem subnet_spec {p : Api_Prefix} : ∃ b, stmt_subnet p = some b ∧ (b = true → 1 ≤ p.bits ∧ p.bits ≤ 30) := by
  unfold stmt_subnet addr_First addr_Last
  by_cases c : 1 ≤ p.bits ∧ p.bits ≤ 30
  · obtain ⟨r, hr⟩ := addr_rest_tot (p := p) (by omega)
    have h2 : 0 ≤ p.bits ∧ p.bits ≤ 32 := by omega
    simp only [addr_Right_spec, hr, Option.bind_some, h2, ge_iff_le, c.1, c.2, and_self, decide_true, if_true, Bool.not_true, Bool.false_eq_true, if_false]
    split <;> exact ⟨_, rfl, fun _ => by first | exact c | trivial⟩
  · by_cases c1 : 1 ≤ p.bits
    · have c2 : ¬ p.bits ≤ 30 := fun h => c ⟨c1, h⟩
      simp only [ge_iff_le, c1, c2, decide_true, decide_false, if_true, Bool.false_eq_true, if_false]
      exact ⟨_, rfl, fun h => by cases h⟩
    · simp only [ge_iff_le, c1, decide_false, Bool.false_eq_true, if_false]
      exact ⟨_, rfl, fun h => by cases h⟩
theorem stmt_R9 {l : Api_Line} (hk : l.kind = 9) (hd : l.dev.size ≤ 1000000) (hn : l.name.size ≤ 1000000) : ∃ b, stmt_Right l = some b ∧ (b = true → (1 ≤ l.bits ∧ l.bits ≤ 30) ∧ NameP l.dev) := by
  have : ∃ u ok, UsedP l u ok (1 ≤ l.bits ∧ l.bits ≤ 30) := by
    obtain ⟨b, hb, hb2⟩ := subnet_spec (p := ⟨l.addr, l.bits⟩)
    refine ⟨⟨l.row, l.kind, l.dev, ⟨#[]⟩, ⟨#[]⟩, ⟨#[]⟩, l.name, 0, l.addr, l.bits, l.vlan, 0, 0, [], [], [], []⟩, decide ((1 ≤ l.vlan ∧ l.vlan ≤ 4094) ∧ NameP l.name) && b, by
      unfold stmt_used
      rw [if_neg (kne hk rfl), if_neg (kne hk rfl), if_neg (kne hk rfl), if_neg (kne hk rfl), if_neg (kne hk rfl), if_neg (kne hk rfl), if_neg (kne hk rfl), if_neg (kne hk rfl), if_pos (keq hk)]
      simp only [within_spec, num_Name_spec hn, hb, Option.bind_some]
      by_cases c1 : 1 ≤ l.vlan ∧ l.vlan ≤ 4094
      case neg => simp only [c1, decide_false, Bool.false_eq_true, if_false, false_and, Bool.false_and]
      by_cases c2 : NameP l.name
      case neg => simp only [c1, c2, decide_true, decide_false, Bool.false_eq_true, if_false, if_true, false_and, and_false, Bool.false_and, and_self]
      simp only [c1, c2, and_self, decide_true, if_true, Bool.true_and], few0, few0, few0, few0, fun h => by
        rw [Bool.and_eq_true] at h
        exact hb2 h.2⟩
  obtain ⟨u, ok, h⟩ := this
  exact right_of h hd
end Go.Eng
