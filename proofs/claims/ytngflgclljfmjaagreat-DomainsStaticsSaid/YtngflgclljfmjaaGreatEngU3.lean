/- Chapter 11: a static entry's line, on both sides. -/
import Derived.Test.YtngflgclljfmjaaGreatEngU2
set_option linter.unusedVariables false
set_option linter.unusedSectionVars false
set_option linter.unusedSimpArgs false
namespace Go.Eng
open Go Classical
attribute [local congr] ite_cg
def staticW : ByteArray := ⟨#[115, 116, 97, 116, 105, 99]⟩
abbrev fm4 : ByteArray := ⟨#[78, 86, 77, 78]⟩
theorem form_static {a b c d : ByteArray} : palingref11_form [staticW, a, b, c, d] = some fm4 := by
  unfold palingref11_form
  rw [if_neg (by simp), nth_zero]
  simp only [List.getElem?_cons_zero, Option.bind_some, seqB_dec, staticW]
  rw [if_neg (by decide), if_neg (by decide), if_pos (by decide)]
theorem kind_static : palingref11_kind staticW = some 4 := by kernel_rfl
def sc0 : Sc := ⟨nilS, nilS, nilS, nilS, nilS, 0, 0, 0, 0, 0, 0⟩
theorem read_of {w x : ByteArray} {ws : List ByteArray} {fm : ByteArray} {row kd : Int} (hform : palingref11_form (w :: ws) = some fm) (hne : fm ≠ ⟨#[]⟩) (hlen : ((w :: ws).length : Int) = wr_i64 ((fm.size : Int) + 1)) (hkd : palingref11_kind w = some kd) (hk2 : kd ≠ 2) :
    (∀ s : Sc, loopM (fS (w :: ws) row fm kd) (tupS sc0 0 0) = some (.inr ([], [], [], [], s.dev, s.port, s.peer, s.far, s.name, s.mac, s.addr, s.bits, s.vlan, s.num, s.cost)) → palingref11_Read (w :: ws) row = some ([], [], [], [], row, kd, s.dev, s.port, s.peer, s.far, s.name, s.mac, s.addr, s.bits, s.vlan, s.num, s.cost, 0)) ∧
    (∀ e : Int, loopM (fS (w :: ws) row fm kd) (tupS sc0 0 0) = some (.inl e) → palingref11_Read (w :: ws) row = some ([], [], [], [], 0, 0, nilS, nilS, nilS, nilS, nilS, 0, 0, 0, 0, 0, 0, e)) := by
  have hJ : palingref11_Read_J1 (w :: ws) row fm = some (.inl fm) := by
    unfold palingref11_Read_J1 palingref11_Read_J2
    rw [seqB_dec, if_neg (by simpa using hne), Option.bind_some, if_neg (by simpa using hlen)]
  have hx : nth (w :: ws) 0 = some w := rfl
  refine ⟨fun s h => ?_, fun e h => ?_⟩
  · unfold palingref11_Read
    rw [hform, Option.bind_some, hJ, Option.bind_some]
    simp only
    rw [hx, Option.bind_some, hkd, Option.bind_some]
    have h' : loopM (fS (w :: ws) row fm kd) ([], [], [], nilS, nilS, nilS, nilS, nilS, 0, 0, 0, 0, 0, 0, 0, 0, []) = _ := h
    rw [h', Option.bind_some]
    simp only
    first
      | rw [if_neg (by simpa using hk2)]
      | skip
    try unfold palingref11_Read_J5
    try rw [if_neg (by simpa using hk2)]
    try rfl
  · unfold palingref11_Read
    rw [hform, Option.bind_some, hJ, Option.bind_some]
    simp only
    rw [hx, Option.bind_some, hkd, Option.bind_some]
    have h' : loopM (fS (w :: ws) row fm kd) ([], [], [], nilS, nilS, nilS, nilS, nilS, 0, 0, 0, 0, 0, 0, 0, 0, []) = _ := h
    rw [h', Option.bind_some]
section
variable {a p : ByteArray} {v m row : Int}
def S4 (a p : ByteArray) (v m : Int) (i : Nat) : Sc := ⟨if 0 < i then a else nilS, if 3 < i then p else nilS, nilS, nilS, nilS, if 2 < i then m % 281474976710656 else 0, 0, 0, if 1 < i then v else 0, 0, 0⟩
def N4 (i : Nat) : Int := match i with | 0 => 0 | 1 => 1 | 2 => 1 | 3 => 1 | _ => 2
theorem read4 (ha : a.size ≤ 1000000) (hp : p.size ≤ 1000000) (v1 : -9223372036854775808 ≤ v) (v2 : v < 9223372036854775808) (m0 : 0 ≤ m) :
    (NameP a ∧ (1 ≤ v ∧ v ≤ 4094) ∧ StnP (m % 281474976710656) ∧ NameP p → palingref11_Read [staticW, a, textI v, bstr (macL m), p] row = some ([], [], [], [], row, 4, a, p, nilS, nilS, nilS, m % 281474976710656, 0, 0, v, 0, 0, 0)) ∧
    (¬ (NameP a ∧ (1 ≤ v ∧ v ≤ 4094) ∧ StnP (m % 281474976710656) ∧ NameP p) → ∃ e : Int, e ≠ 0 ∧ palingref11_Read [staticW, a, textI v, bstr (macL m), p] row = some ([], [], [], [], 0, 0, nilS, nilS, nilS, nilS, nilS, 0, 0, 0, 0, 0, 0, e)) := by
  obtain ⟨r1, r2⟩ := read_of (w := staticW) (x := staticW) (ws := [a, textI v, bstr (macL m), p]) (fm := fm4) (row := row) (kd := 4) form_static (by decide) (by rw [wr64 (by decide) (by decide)]; rfl) kind_static (by decide)
  have b4 : fm4.size = 4 := rfl
  have c0 : byteAt fm4 ((0 : Nat) : Int) = 78 := by decide
  have c1 : byteAt fm4 ((1 : Nat) : Int) = 86 := by decide
  have c2 : byteAt fm4 ((2 : Nat) : Int) = 77 := by decide
  have c3 : byteAt fm4 ((3 : Nat) : Int) = 78 := by decide
  have s0 := stepS (ws := [staticW, a, textI v, bstr (macL m), p]) (row := row) (kd := 4) (fm := fm4) (i := 0) (x := a) (s := S4 a p v m 0) (by decide) (by decide) rfl c0 (wd_name0 ha) ⟨by decide, by decide⟩
  have s1 := stepS (ws := [staticW, a, textI v, bstr (macL m), p]) (row := row) (kd := 4) (fm := fm4) (i := 1) (x := textI v) (s := S4 a p v m 1) (nm := 1) (by decide) (by decide) rfl c1 (wd_vlan v1 v2) ⟨by decide, by decide⟩
  have s2 := stepS (ws := [staticW, a, textI v, bstr (macL m), p]) (row := row) (kd := 4) (fm := fm4) (i := 2) (x := bstr (macL m)) (s := S4 a p v m 2) (nm := 1) (by decide) (by decide) rfl c2 (wd_mac m0) ⟨by decide, by decide⟩
  have s3 := stepS (ws := [staticW, a, textI v, bstr (macL m), p]) (row := row) (kd := 4) (fm := fm4) (i := 3) (x := p) (s := S4 a p v m 3) (nm := 1) (by decide) (by decide) rfl c3 (wd_name1 hp (by decide) (by decide)) ⟨by decide, by decide⟩
  have g0 : NameP a → fS [staticW, a, textI v, bstr (macL m), p] row fm4 4 (tupS (S4 a p v m 0) (N4 0) ((0 : Nat) : Int)) = some (.inl (tupS (S4 a p v m 1) (N4 1) ((1 : Nat) : Int))) := fun h => by
    rw [if_pos h, if_pos h, if_pos rfl, if_pos rfl] at s0; exact s0
  have g1 : 1 ≤ v ∧ v ≤ 4094 → fS [staticW, a, textI v, bstr (macL m), p] row fm4 4 (tupS (S4 a p v m 1) (N4 1) ((1 : Nat) : Int)) = some (.inl (tupS (S4 a p v m 2) (N4 2) ((2 : Nat) : Int))) := fun h => by
    rw [if_pos h, if_pos h, if_pos rfl, if_neg (by decide)] at s1; exact s1
  have g2 : StnP (m % 281474976710656) → fS [staticW, a, textI v, bstr (macL m), p] row fm4 4 (tupS (S4 a p v m 2) (N4 2) ((2 : Nat) : Int)) = some (.inl (tupS (S4 a p v m 3) (N4 3) ((3 : Nat) : Int))) := fun h => by
    rw [if_pos h, if_pos rfl, if_neg (by decide)] at s2; exact s2
  have g3 : NameP p → fS [staticW, a, textI v, bstr (macL m), p] row fm4 4 (tupS (S4 a p v m 3) (N4 3) ((3 : Nat) : Int)) = some (.inl (tupS (S4 a p v m 4) (N4 4) ((4 : Nat) : Int))) := fun h => by
    rw [if_pos h, if_pos h, if_pos rfl, if_pos rfl] at s3; exact s3
  refine ⟨fun h => ?_, fun h => ?_⟩
  · have := goodS (ws := [staticW, a, textI v, bstr (macL m), p]) (row := row) (kd := 4) (fm := fm4) (S := S4 a p v m) (N := N4) (by decide) (fun i hi => by
      match i, hi with
      | 0, _ => exact g0 h.1
      | 1, _ => exact g1 h.2.1
      | 2, _ => exact g2 h.2.2.1
      | 3, _ => exact g3 h.2.2.2)
    exact r1 (S4 a p v m 4) this
  · by_cases h0 : NameP a
    case neg =>
      refine ⟨20, by decide, r2 20 (badS (S := S4 a p v m) (N := N4) (k := 0) (by decide) (fun i hi => by omega) ?_)⟩
      rw [if_neg h0, if_neg h0, if_neg (by decide)] at s0; exact s0
    by_cases h1 : 1 ≤ v ∧ v ≤ 4094
    case neg =>
      refine ⟨21, by decide, r2 21 (badS (S := S4 a p v m) (N := N4) (k := 1) (by decide) (fun i hi => by
        match i, hi with
        | 0, _ => exact g0 h0) ?_)⟩
      rw [if_neg h1, if_neg h1, if_neg (by decide)] at s1; exact s1
    by_cases h2 : StnP (m % 281474976710656)
    case neg =>
      refine ⟨21, by decide, r2 21 (badS (S := S4 a p v m) (N := N4) (k := 2) (by decide) (fun i hi => by
        match i, hi with
        | 0, _ => exact g0 h0
        | 1, _ => exact g1 h1) ?_)⟩
      rw [if_neg h2, if_neg (by decide)] at s2; exact s2
    have h3 : ¬ NameP p := fun h3 => h ⟨h0, h1, h2, h3⟩
    refine ⟨20, by decide, r2 20 (badS (S := S4 a p v m) (N := N4) (k := 3) (by decide) (fun i hi => by
      match i, hi with
      | 0, _ => exact g0 h0
      | 1, _ => exact g1 h1
      | 2, _ => exact g2 h2) ?_)⟩
    rw [if_neg h3, if_neg h3, if_neg (by decide)] at s3; exact s3
end
def bare4 (l : Api_Line) : Api_Line := ⟨l.row, 4, l.dev, l.port, nilS, nilS, nilS, l.mac, 0, 0, l.vlan, 0, 0, [], [], [], []⟩
def LineP4 (l : Api_Line) : Prop := (NameP l.dev ∧ (1 ≤ l.vlan ∧ l.vlan ≤ 4094) ∧ StnP l.mac ∧ NameP l.port) ∧ l = bare4 l
theorem sRight4 {l : Api_Line} (ho : l.Ok) (hk : l.kind = 4) (hd : l.dev.size ≤ 1000000) (hp : l.port.size ≤ 1000000) (hm : okI .u64 l.mac) : stmt_Right l = some (decide (LineP4 l)) := by
  have hm1 := okU64 hm
  have key : stmt_used l = some (bare4 l, decide ((1 ≤ l.vlan ∧ l.vlan ≤ 4094) ∧ StnP l.mac ∧ NameP l.port)) := by
    unfold stmt_used
    rw [if_neg (kne hk rfl), if_neg (kne hk rfl), if_neg (kne hk rfl), if_pos (keq hk)]
    simp only [within_spec, s_station hm1.1 hm1.2, num_Name_spec hp, Option.bind_some]
    have e : (⟨l.row, l.kind, l.dev, l.port, ⟨#[]⟩, ⟨#[]⟩, ⟨#[]⟩, l.mac, 0, 0, l.vlan, 0, 0, [], [], [], []⟩ : Api_Line) = bare4 l := by rw [hk]; rfl
    rw [e]
    by_cases c1 : 1 ≤ l.vlan ∧ l.vlan ≤ 4094
    case neg => simp [c1]
    by_cases c2 : StnP l.mac
    case neg => simp [c1, c2]
    by_cases c3 : NameP l.port <;> simp [c1, c2, c3]
  unfold stmt_Right
  rw [key, Option.bind_some]
  simp only
  by_cases c : (1 ≤ l.vlan ∧ l.vlan ≤ 4094) ∧ StnP l.mac ∧ NameP l.port
  · rw [if_pos (decide_eq_true c), num_Name_spec hd, Option.bind_some]
    by_cases c2 : NameP l.dev
    · rw [if_pos (decide_eq_true c2), sSameL_spec few0 few0 few0 few0, Option.bind_some]
      exact sdec ⟨fun h => ⟨⟨c2, c⟩, h.symm⟩, fun h => h.2.symm⟩
    · rw [if_neg (by simpa using c2), decide_eq_false (fun h : LineP4 l => c2 h.1.1)]
  · rw [if_neg (by simpa using c), decide_eq_false (fun h : LineP4 l => c h.1.2)]
theorem rRight4 {l : Api_Line} (ho : l.Ok) (hk : l.kind = 4) (hd : l.dev.size ≤ 1000000) (hp : l.port.size ≤ 1000000) (hv : okI .i64 l.vlan) (hn : okI .i64 l.num) (hm : okI .u64 l.mac) : palingref11_Right l = some (decide (LineP4 l)) := by
  have hv1 : -9223372036854775808 ≤ l.vlan := hv.1
  have hv2 : l.vlan ≤ 9223372036854775807 := hv.2
  have hn1 : -9223372036854775808 ≤ l.num := hn.1
  have hn2 : l.num ≤ 9223372036854775807 := hn.2
  have hm1 := okU64 hm
  have hW : palingref11_Words l = some [staticW, l.dev, textI l.vlan, bstr (macL l.mac), l.port] := by
    unfold palingref11_Words
    rw [rText_spec hv1 (by omega), Option.bind_some, rText_spec hn1 (by omega), Option.bind_some, mac_Text_spec hm1.1 hm1.2, Option.bind_some, hk]
    rfl
  unfold palingref11_Right
  by_cases t1 : (l.tagged.length : Int) > 16
  · rw [if_pos (by simpa using t1), decide_eq_false (fun h : LineP4 l => by have := congrArg Api_Line.tagged h.2; simp [bare4] at this; rw [this] at t1; simp at t1)]
  by_cases t2 : (l.imports.length : Int) > 16
  · rw [if_neg (by simpa using t1), if_pos (by simpa using t2), decide_eq_false (fun h : LineP4 l => by have := congrArg Api_Line.imports h.2; simp [bare4] at this; rw [this] at t2; simp at t2)]
  by_cases t3 : (l.exports.length : Int) > 16
  · rw [if_neg (by simpa using t1), if_neg (by simpa using t2), if_pos (by simpa using t3), decide_eq_false (fun h : LineP4 l => by have := congrArg Api_Line.exports h.2; simp [bare4] at this; rw [this] at t3; simp at t3)]
  by_cases t4 : (l.addrs.length : Int) > 16
  · rw [if_neg (by simpa using t1), if_neg (by simpa using t2), if_neg (by simpa using t3), if_pos (by simpa using t4), decide_eq_false (fun h : LineP4 l => by have := congrArg Api_Line.addrs h.2; simp [bare4] at this; rw [this] at t4; simp at t4)]
  rw [if_neg (by simpa using t1), if_neg (by simpa using t2), if_neg (by simpa using t3), if_neg (by simpa using t4), hW, Option.bind_some]
  simp only
  obtain ⟨q1, q2⟩ := read4 (a := l.dev) (p := l.port) (v := l.vlan) (m := l.mac) (row := l.row) hd hp hv1 (by omega) hm1.1
  by_cases c : NameP l.dev ∧ (1 ≤ l.vlan ∧ l.vlan ≤ 4094) ∧ StnP (l.mac % 281474976710656) ∧ NameP l.port
  · rw [q1 c, Option.bind_some]
    simp only
    rw [if_pos (by rfl), rSameL_spec (by unfold Few; omega) (by unfold Few; omega) (by unfold Few; omega) (by unfold Few; omega), Option.bind_some]
    refine sdec ⟨fun h => ?_, fun h => ?_⟩
    · have hmm : l.mac = l.mac % 281474976710656 := congrArg Api_Line.mac h
      refine ⟨⟨c.1, c.2.1, by rw [hmm]; exact c.2.2.1, c.2.2.2⟩, ?_⟩
      rw [← hmm] at h; exact h
    · have hmm : l.mac % 281474976710656 = l.mac := by have := h.1.2.2.1.1; omega
      rw [hmm]; exact h.2
  · obtain ⟨e, he, hq⟩ := q2 c
    rw [hq, Option.bind_some]
    simp only
    rw [if_neg (by simpa using he), decide_eq_false (fun h : LineP4 l => c (by
      have hmm : l.mac % 281474976710656 = l.mac := by have := h.1.2.2.1.1; omega
      rw [hmm]; exact h.1))]
end Go.Eng
