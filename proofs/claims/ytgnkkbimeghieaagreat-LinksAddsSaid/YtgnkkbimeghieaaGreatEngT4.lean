/- Plain laws of chapter 11: whether a link's line may be, on both sides. -/
import Derived.Test.YtgnkkbimeghieaaGreatEngT3
import Derived.Test.YtgnkkbimeghieaaGreatEngGR15
set_option linter.unusedVariables false
set_option linter.unusedSectionVars false
set_option linter.unusedSimpArgs false
namespace Go.Eng
open Go Classical
attribute [local congr] ite_cg

theorem rSameL_spec {a b : Api_Line} (h1 : Few a.tagged) (h2 : Few a.imports) (h3 : Few a.exports) (h4 : Few a.addrs) : palingref11_Same a b = some (decide (a = b)) := by
  by_cases e : a = b
  · subst e
    simp [palingref11_Same, seqB_dec, rInts_spec h1, rInts_spec h2, rInts_spec h3, rAddrs_spec h4]
  · rw [decide_eq_false e]
    cases a; cases b
    simp only [palingref11_Same, seqB_dec, rInts_spec h1, rInts_spec h2, rInts_spec h3, rAddrs_spec h4, Option.bind_some, beq_iff_eq, decide_eq_true_eq] at *
    repeat' split
    all_goals first | rfl | skip
    all_goals simp_all
theorem sSameL_spec {a b : Api_Line} (h1 : Few a.tagged) (h2 : Few a.imports) (h3 : Few a.exports) (h4 : Few a.addrs) : stmt_Same a b = some (decide (a = b)) := by
  by_cases e : a = b
  · subst e
    simp [stmt_Same, seqB_dec, Equal_int_spec h1, Equal_int_spec h2, Equal_int_spec h3, Equal_uint32_spec h4]
  · rw [decide_eq_false e]
    cases a; cases b
    simp only [stmt_Same, seqB_dec, Equal_int_spec h1, Equal_int_spec h2, Equal_int_spec h3, Equal_uint32_spec h4, Option.bind_some, beq_iff_eq, decide_eq_true_eq] at *
    repeat' split
    all_goals first | rfl | skip
    all_goals simp_all
def bareL (l : Api_Line) : Api_Line := ⟨l.row, 3, l.dev, l.port, l.peer, l.far, nilS, 0, 0, 0, 0, 0, 0, [], [], [], []⟩
def LineP (l : Api_Line) : Prop := (NameP l.dev ∧ NameP l.port ∧ NameP l.peer ∧ NameP l.far) ∧ l = bareL l
theorem sRight3 {l : Api_Line} (hk : l.kind = 3) (hd : l.dev.size ≤ 1000000) (hp : l.port.size ≤ 1000000) (hq : l.peer.size ≤ 1000000) (hf : l.far.size ≤ 1000000) : stmt_Right l = some (decide (LineP l)) := by
  have key : stmt_used l = some (bareL l, decide (NameP l.port ∧ NameP l.peer ∧ NameP l.far)) := by
    by_cases c1 : NameP l.port <;> by_cases c2 : NameP l.peer <;> by_cases c3 : NameP l.far <;>
      (simp only [stmt_used, hk, num_Name_spec hp, num_Name_spec hq, num_Name_spec hf, c1, c2, c3, decide_true, decide_false, if_true, Option.bind_some]; rfl)
  unfold stmt_Right
  rw [key, Option.bind_some]
  simp only
  by_cases c : NameP l.port ∧ NameP l.peer ∧ NameP l.far
  · rw [if_pos (decide_eq_true c), num_Name_spec hd, Option.bind_some]
    by_cases c2 : NameP l.dev
    · rw [if_pos (decide_eq_true c2), sSameL_spec few0 few0 few0 few0, Option.bind_some]
      exact sdec ⟨fun h => ⟨⟨c2, c⟩, h.symm⟩, fun h => h.2.symm⟩
    · rw [if_neg (by simpa using c2), decide_eq_false (fun h : LineP l => c2 h.1.1)]
  · rw [if_neg (by simpa using c), decide_eq_false (fun h : LineP l => c h.1.2)]
theorem rRight3 {l : Api_Line} (ho : l.Ok) (hk : l.kind = 3) (hd : l.dev.size ≤ 1000000) (hp : l.port.size ≤ 1000000) (hq : l.peer.size ≤ 1000000) (hf : l.far.size ≤ 1000000) (hv : okI .i64 l.vlan) (hn : okI .i64 l.num) (hm : okI .u64 l.mac) : palingref11_Right l = some (decide (LineP l)) := by
  have hv1 : -9223372036854775808 ≤ l.vlan := hv.1
  have hv2 : l.vlan ≤ 9223372036854775807 := hv.2
  have hn1 : -9223372036854775808 ≤ l.num := hn.1
  have hn2 : l.num ≤ 9223372036854775807 := hn.2
  have hm1 : 0 ≤ l.mac := hm.1
  have hm2 : l.mac ≤ 18446744073709551615 := hm.2
  obtain ⟨ms, em⟩ := rMac_tot hm1 (by omega)
  have hW : palingref11_Words l = some [linkW, l.dev, l.port, l.peer, l.far] := by
    unfold palingref11_Words
    rw [rText_spec hv1 (by omega), Option.bind_some, rText_spec hn1 (by omega), Option.bind_some, em, Option.bind_some, hk]
    rfl
  unfold palingref11_Right
  by_cases t1 : (l.tagged.length : Int) > 16
  · rw [if_pos (by simpa using t1), decide_eq_false (fun h : LineP l => by have := congrArg Api_Line.tagged h.2; simp [bareL] at this; rw [this] at t1; simp at t1)]
  by_cases t2 : (l.imports.length : Int) > 16
  · rw [if_neg (by simpa using t1), if_pos (by simpa using t2), decide_eq_false (fun h : LineP l => by have := congrArg Api_Line.imports h.2; simp [bareL] at this; rw [this] at t2; simp at t2)]
  by_cases t3 : (l.exports.length : Int) > 16
  · rw [if_neg (by simpa using t1), if_neg (by simpa using t2), if_pos (by simpa using t3), decide_eq_false (fun h : LineP l => by have := congrArg Api_Line.exports h.2; simp [bareL] at this; rw [this] at t3; simp at t3)]
  by_cases t4 : (l.addrs.length : Int) > 16
  · rw [if_neg (by simpa using t1), if_neg (by simpa using t2), if_neg (by simpa using t3), if_pos (by simpa using t4), decide_eq_false (fun h : LineP l => by have := congrArg Api_Line.addrs h.2; simp [bareL] at this; rw [this] at t4; simp at t4)]
  rw [if_neg (by simpa using t1), if_neg (by simpa using t2), if_neg (by simpa using t3), if_neg (by simpa using t4), hW, Option.bind_some]
  simp only
  rw [readL hd hp hq hf, Option.bind_some]
  by_cases c : NameP l.dev ∧ NameP l.port ∧ NameP l.peer ∧ NameP l.far
  · rw [if_pos c]
    simp only
    rw [if_pos (by rfl), rSameL_spec (by unfold Few; omega) (by unfold Few; omega) (by unfold Few; omega) (by unfold Few; omega), Option.bind_some]
    exact sdec ⟨fun h => ⟨c, h⟩, fun h => h.2⟩
  · rw [if_neg c]
    simp only
    rw [if_neg (by decide), decide_eq_false (fun h : LineP l => c h.1)]
end Go.Eng
