/- Chapter 11: which lines of devices, ports, VTEPs, VNIs and flood lists may be, on both sides. -/
import Derived.Test.YtgohlmiaddkkeaaGreatEngY2
set_option linter.unusedVariables false
set_option linter.unusedSectionVars false
set_option linter.unusedSimpArgs false
namespace Go.Eng
open Go Classical
attribute [local congr] ite_cg
def deviceW : ByteArray := ⟨#[100, 101, 118, 105, 99, 101]⟩
def portW : ByteArray := ⟨#[112, 111, 114, 116]⟩
abbrev fm1 : ByteArray := ⟨#[78, 80, 77]⟩
abbrev fm2a : ByteArray := ⟨#[78, 78, 67, 75, 86]⟩
abbrev fm2t : ByteArray := ⟨#[78, 78, 67, 75, 87, 84]⟩
section
variable {a b c d e f : ByteArray}
theorem form_device : palingref11_form [deviceW, a, b, c] = some fm1 := by
  unfold palingref11_form
  rw [if_neg (by simp), nth_zero]
  simp only [List.getElem?_cons_zero, Option.bind_some, seqB_dec, deviceW]
  rw [if_pos (by decide)]
theorem form_port6 : palingref11_form [portW, a, b, c, accessW, d] = some fm2a := by
  unfold palingref11_form
  rw [if_neg (by simp), nth_zero]
  have h4 : nth [portW, a, b, c, accessW, d] 4 = some accessW := rfl
  rw [h4]
  simp only [List.getElem?_cons_zero, Option.bind_some, seqB_dec, portW, accessW]
  rw [if_neg (by decide), if_neg (by decide), if_neg (by decide), if_neg (by decide), if_neg (by decide), if_neg (by decide), if_neg (by decide), if_neg (by decide), if_pos (by decide), if_neg (by simp), if_pos (by simp), if_pos (by decide)]
theorem form_port7 : palingref11_form [portW, a, b, c, trunkW, d, e] = some fm2t := by
  unfold palingref11_form
  rw [if_neg (by simp), nth_zero]
  have h4 : nth [portW, a, b, c, trunkW, d, e] 4 = some trunkW := rfl
  rw [h4]
  simp only [List.getElem?_cons_zero, Option.bind_some, seqB_dec, portW, trunkW]
  rw [if_neg (by decide), if_neg (by decide), if_neg (by decide), if_neg (by decide), if_neg (by decide), if_neg (by decide), if_neg (by decide), if_neg (by decide), if_pos (by decide), if_pos (by simp), if_pos (by decide)]
end
theorem kind_device : palingref11_kind deviceW = some 1 := by kernel_rfl
theorem kind_port : palingref11_kind portW = some 2 := by kernel_rfl
theorem stepN {ws : List ByteArray} {row kd : Int} {fm : ByteArray} {g g1 : Gs} {nm nm1 c : Int} {i : Nat} {x : ByteArray} {C : Prop} (hi : i < fm.size) (hf : fm.size ≤ 100) (hx : nth ws ((i : Int) + 1) = some x) (hc : byteAt fm (i : Int) = c) (hw : WG c x nm row kd g g1 C) (hn : 0 ≤ nm ∧ nm ≤ 100) (hn1 : (if c = 78 then nm + 1 else nm) = nm1) :
    (C → fS ws row fm kd (tupG g nm (i : Int)) = some (.inl (tupG g1 nm1 ((i + 1 : Nat) : Int)))) ∧ (¬ C → ∃ e : Int, e ≠ 0 ∧ fS ws row fm kd (tupG g nm (i : Int)) = some (.inr (.inl e))) := by
  have := stepG (row := row) hi hf hx hc hw hn
  rwa [hn1] at this
def g0 : Gs := ⟨⟨nilS, nilS, nilS, nilS, nilS, 0, 0, 0, 0, 0, 0⟩, [], [], [], []⟩
section
variable {l : Api_Line}
structure LnOk (l : Api_Line) : Prop where
  dev : l.dev.size ≤ 1000000
  port : l.port.size ≤ 1000000
  vlan : -9223372036854775808 ≤ l.vlan ∧ l.vlan < 9223372036854775808
  num : -9223372036854775808 ≤ l.num ∧ l.num < 9223372036854775808
  cost : -9223372036854775808 ≤ l.cost ∧ l.cost < 9223372036854775808
  mac : 0 ≤ l.mac ∧ l.mac < 18446744073709551616
  addr : 0 ≤ l.addr ∧ l.addr < 4294967296
  tagged : ∀ x ∈ l.tagged, -9223372036854775808 ≤ x ∧ x < 9223372036854775808
  addrs : ∀ x ∈ l.addrs, 0 ≤ x ∧ x < 4294967296
  few1 : Few l.tagged
  few4 : Few l.addrs
theorem words_hd (ho : LnOk l) {r : List ByteArray} (h : (if (l.kind == 1) = true then
    some [(⟨#[100, 101, 118, 105, 99, 101]⟩ : ByteArray), l.dev, textI l.num, bstr (macL l.mac)]
  else
    if (l.kind == 2) = true then
      (palingref03_Text l.cost).bind fun r10 =>
      if ((l.tagged.length : Int) == 0) = true then
        some [(⟨#[112, 111, 114, 116]⟩ : ByteArray), l.dev, l.port, r10, (⟨#[97, 99, 99, 101, 115, 115]⟩ : ByteArray), textI l.vlan]
      else
        if (l.vlan == 0) = true then
          (palingref11_spell l.tagged).bind fun r14 =>
          some [(⟨#[112, 111, 114, 116]⟩ : ByteArray), l.dev, l.port, r10, (⟨#[116, 114, 117, 110, 107]⟩ : ByteArray), (⟨#[45]⟩ : ByteArray), r14]
        else
          (palingref11_spell l.tagged).bind fun r16 =>
          some [(⟨#[112, 111, 114, 116]⟩ : ByteArray), l.dev, l.port, r10, (⟨#[116, 114, 117, 110, 107]⟩ : ByteArray), textI l.vlan, r16]
    else
      if (l.kind == 3) = true then
        some [(⟨#[108, 105, 110, 107]⟩ : ByteArray), l.dev, l.port, l.peer, l.far]
      else
        if (l.kind == 4) = true then
          some [(⟨#[115, 116, 97, 116, 105, 99]⟩ : ByteArray), l.dev, textI l.vlan, bstr (macL l.mac), l.port]
        else
          if (l.kind == 5) = true then
            (palingref02_Text l.addr).bind fun r21 =>
            some [(⟨#[118, 116, 101, 112]⟩ : ByteArray), l.dev, r21]
          else
            if (l.kind == 6) = true then
              some [(⟨#[118, 110, 105]⟩ : ByteArray), l.dev, textI l.vlan, textI l.num]
            else
              if (l.kind == 7) = true then
                (palingref03_AddrsText l.addrs).bind fun r25 =>
                some [(⟨#[102, 108, 111, 111, 100]⟩ : ByteArray), l.dev, textI l.num, r25]
              else none) = some r) : palingref11_Words l = some r := by
  unfold palingref11_Words
  rw [rText_spec ho.vlan.1 ho.vlan.2, Option.bind_some, rText_spec ho.num.1 ho.num.2, Option.bind_some, mac_Text_spec ho.mac.1 ho.mac.2, Option.bind_some]
  revert h
  repeat' split
  all_goals first
    | exact fun h => h
    | (intro h; cases h)
/-! #### Devices -/
def bare1 (l : Api_Line) : Api_Line := ⟨l.row, 1, l.dev, nilS, nilS, nilS, nilS, l.mac, 0, 0, 0, l.num, 0, [], [], [], []⟩
def LineP1 (l : Api_Line) : Prop := (NameP l.dev ∧ ((0 ≤ l.num ∧ l.num ≤ 65535) ∧ StnP l.mac)) ∧ l = bare1 l
theorem sRight1 (ho : LnOk l) (hk : l.kind = 1) : stmt_Right l = some (decide (LineP1 l)) := by
  refine sRightG Iff.rfl (b := bare1 l) (Q := (0 ≤ l.num ∧ l.num ≤ 65535) ∧ StnP l.mac) ?_ few0 few0 few0 few0 ho.dev
  unfold stmt_used
  rw [if_pos (keq hk)]
  simp only [within_spec, s_station ho.mac.1 ho.mac.2, Option.bind_some]
  have e : (⟨l.row, l.kind, l.dev, ⟨#[]⟩, ⟨#[]⟩, ⟨#[]⟩, ⟨#[]⟩, l.mac, 0, 0, 0, l.num, 0, [], [], [], []⟩ : Api_Line) = bare1 l := by rw [hk]; rfl
  rw [e]
  by_cases c1 : 0 ≤ l.num ∧ l.num ≤ 65535 <;> simp [c1]
theorem rRight1 (ho : LnOk l) (hk : l.kind = 1) : palingref11_Right l = some (decide (LineP1 l)) := by
  refine rRightG (fun h => by rw [h.2]; simp [bare1]) fun t1 t2 t3 t4 => ⟨[deviceW, l.dev, textI l.num, bstr (macL l.mac)], words_hd ho (by rw [if_pos (keq hk)]; rfl), ?_⟩
  obtain ⟨q1, q2⟩ := readG (row := l.row) (w := deviceW) (wt := [l.dev, textI l.num, bstr (macL l.mac)]) (fm := fm1) (kd := 1) form_device (by decide) (by rw [wr64 (by decide) (by decide)]; rfl) kind_device (by decide)
    (fun i => match i with | 0 => g0 | 1 => { g0 with s := { g0.s with dev := l.dev } } | 2 => { g0 with s := { g0.s with dev := l.dev, num := l.num } } | _ => { g0 with s := { g0.s with dev := l.dev, num := l.num, mac := l.mac % 281474976710656 } })
    (fun i => match i with | 0 => 0 | _ => 1)
    (fun i => match i with | 0 => NameP l.dev | 1 => 0 ≤ l.num ∧ l.num ≤ 65535 | _ => StnP (l.mac % 281474976710656)) rfl rfl
    (fun i hi => by
      have b3 : fm1.size = 3 := rfl
      rcases (by omega : i = 0 ∨ i = 1 ∨ i = 2) with rfl | rfl | rfl
      · exact stepN (g := g0) (by decide) (by decide) rfl (by decide) (wgN0 ho.dev) (by decide) (by decide)
      · exact stepN (g := { g0 with s := { g0.s with dev := l.dev } }) (by decide) (by decide) rfl (by decide) (wgP ho.num.1 ho.num.2) (by decide) (by decide)
      · exact stepN (g := { g0 with s := { g0.s with dev := l.dev, num := l.num } }) (by decide) (by decide) rfl (by decide) (wgM ho.mac.1) (by decide) (by decide)) few0
  refine ⟨_, _, q1, q2, ?_⟩
  have b3 : fm1.size = 3 := rfl
  constructor
  · intro h
    have hm := h.1.2.2.1
    have hm0 := ho.mac.1
    have he : l.mac % 281474976710656 = l.mac := by omega
    refine ⟨⟨fun i hi => ?_, fun h2 => absurd h2 (by decide)⟩, ?_⟩
    · rcases (by omega : i = 0 ∨ i = 1 ∨ i = 2) with rfl | rfl | rfl
      · exact h.1.1
      · exact h.1.2.1
      · show StnP (l.mac % 281474976710656)
        rw [he]; exact h.1.2.2
    · show l = ⟨l.row, 1, l.dev, nilS, nilS, nilS, nilS, l.mac % 281474976710656, 0, 0, 0, l.num, 0, [], [], [], []⟩
      rw [he]; exact h.2
  · rintro ⟨⟨hq, _⟩, h⟩
    have hm : l.mac = l.mac % 281474976710656 := congrArg Api_Line.mac h
    have h3 : StnP (l.mac % 281474976710656) := hq 2 (by decide)
    refine ⟨⟨hq 0 (by decide), hq 1 (by decide), by rw [hm]; exact h3⟩, ?_⟩
    have h' : l = ⟨l.row, 1, l.dev, nilS, nilS, nilS, nilS, l.mac % 281474976710656, 0, 0, 0, l.num, 0, [], [], [], []⟩ := h
    rw [← hm] at h'; exact h'
/-! #### VTEPs -/
/-! #### VNIs -/
/-! #### Flood lists -/
/-! #### Ports -/
def bare2 (l : Api_Line) : Api_Line := ⟨l.row, 2, l.dev, l.port, nilS, nilS, nilS, 0, 0, 0, l.vlan, 0, l.cost, l.tagged, [], [], []⟩
def Q2 (l : Api_Line) : Prop := NameP l.port ∧ (1 ≤ l.cost ∧ l.cost ≤ 65535) ∧ (0 ≤ l.vlan ∧ l.vlan ≤ 4094) ∧ RiseP l.tagged 4094 ∧ ((0 < l.vlan ∨ 0 < l.tagged.length) ∧ l.vlan ∉ l.tagged)
def LineP2 (l : Api_Line) : Prop := (NameP l.dev ∧ Q2 l) ∧ l = bare2 l
theorem sRight2 (ho : LnOk l) (hk : l.kind = 2) : stmt_Right l = some (decide (LineP2 l)) := by
  refine sRightG Iff.rfl (b := bare2 l) (Q := Q2 l) ?_ ho.few1 few0 few0 few0 ho.dev
  unfold stmt_used Q2
  rw [if_neg (kne hk rfl), if_pos (keq hk)]
  have e : (⟨l.row, l.kind, l.dev, l.port, ⟨#[]⟩, ⟨#[]⟩, ⟨#[]⟩, 0, 0, 0, l.vlan, 0, l.cost, l.tagged, [], [], []⟩ : Api_Line) = bare2 l := by rw [hk]; rfl
  rw [e]
  simp only [num_Name_spec ho.port, within_spec, list_spec ho.few1, members_spec ho.few1, Option.bind_some]
  by_cases c1 : NameP l.port
  case neg => simp only [c1, decide_false, Bool.false_eq_true, if_false, false_and]
  by_cases c2 : 1 ≤ l.cost ∧ l.cost ≤ 65535
  case neg => simp only [c1, c2, decide_true, decide_false, Bool.false_eq_true, if_false, if_true, false_and, and_false, and_self]
  by_cases c3 : 0 ≤ l.vlan ∧ l.vlan ≤ 4094
  case neg => simp only [c1, c2, c3, decide_true, decide_false, Bool.false_eq_true, if_false, if_true, false_and, and_false, and_self]
  by_cases c4 : RiseP l.tagged 4094
  case neg => simp only [c1, c2, c3, c4, decide_true, decide_false, Bool.false_eq_true, if_false, if_true, false_and, and_false, and_self]
  simp only [c1, c2, c3, c4, decide_true, if_true, true_and, and_self]
def S2 (l : Api_Line) (i : Nat) : Gs := match i with
  | 0 => g0 | 1 => { g0 with s := { g0.s with dev := l.dev } } | 2 => { g0 with s := { g0.s with dev := l.dev, port := l.port } }
  | 3 => { g0 with s := { g0.s with dev := l.dev, port := l.port, cost := l.cost } } | 4 => { g0 with s := { g0.s with dev := l.dev, port := l.port, cost := l.cost } }
  | 5 => { g0 with s := { g0.s with dev := l.dev, port := l.port, cost := l.cost, vlan := l.vlan } }
  | _ => { g0 with s := { g0.s with dev := l.dev, port := l.port, cost := l.cost, vlan := l.vlan }, T := l.tagged }
def N2 (i : Nat) : Int := match i with | 0 => 0 | 1 => 1 | _ => 2
theorem rise_len {t : List Int} {b : Int} (h : RiseP t b) : t.length ≤ 16 := by
  rcases h with rfl | h
  · simp
  · exact h.2.2
theorem rRight2 (ho : LnOk l) (hk : l.kind = 2) : palingref11_Right l = some (decide (LineP2 l)) := by
  refine rRightG (fun h => ⟨rise_len h.1.2.2.2.2.1, by rw [h.2]; simp [bare2], by rw [h.2]; simp [bare2], by rw [h.2]; simp [bare2]⟩) fun t1 t2 t3 t4 => ?_
  have hWs : ∀ {r}, (if ((l.tagged.length : Int) == 0) = true then some [portW, l.dev, l.port, textI l.cost, accessW, textI l.vlan] else if (l.vlan == 0) = true then (palingref11_spell l.tagged).bind fun r14 => some [portW, l.dev, l.port, textI l.cost, trunkW, (⟨#[45]⟩ : ByteArray), r14] else (palingref11_spell l.tagged).bind fun r16 => some [portW, l.dev, l.port, textI l.cost, trunkW, textI l.vlan, r16]) = some r → palingref11_Words l = some r := fun h => words_hd ho (by
    rw [if_neg (kne hk rfl), if_pos (keq hk), rText_spec ho.cost.1 ho.cost.2, Option.bind_some]; exact h)
  by_cases hT : l.tagged = []
  · refine ⟨[portW, l.dev, l.port, textI l.cost, accessW, textI l.vlan], hWs (by rw [if_pos (by simp [hT])]), ?_⟩
    obtain ⟨q1, q2⟩ := readG (row := l.row) (w := portW) (wt := [l.dev, l.port, textI l.cost, accessW, textI l.vlan]) (fm := fm2a) (kd := 2) form_port6 (by decide) (by rw [wr64 (by decide) (by decide)]; rfl) kind_port (by decide)
      (S2 l) N2 (fun i => match i with | 0 => NameP l.dev | 1 => NameP l.port | 2 => 1 ≤ l.cost ∧ l.cost ≤ 65535 | 3 => True | _ => 1 ≤ l.vlan ∧ l.vlan ≤ 4094) rfl rfl
      (fun i hi => by
        have b3 : fm2a.size = 5 := rfl
        rcases (by omega : i = 0 ∨ i = 1 ∨ i = 2 ∨ i = 3 ∨ i = 4) with rfl | rfl | rfl | rfl | rfl
        · exact stepN (g := S2 l 0) (by decide) (by decide) rfl (by decide) (wgN0 ho.dev) (by decide) (by decide)
        · exact stepN (g := S2 l 1) (by decide) (by decide) rfl (by decide) (wgN1 ho.port (by decide) (by decide)) (by decide) (by decide)
        · exact stepN (g := S2 l 2) (by decide) (by decide) rfl (by decide) (wgC ho.cost.1 ho.cost.2) (by decide) (by decide)
        · exact stepN (g := S2 l 3) (by decide) (by decide) rfl (by decide) wgKa (by decide) (by decide)
        · exact stepN (g := S2 l 4) (by decide) (by decide) rfl (by decide) (wgV ho.vlan.1 ho.vlan.2) (by decide) (by decide)) few0
    refine ⟨_, _, q1, q2, ?_⟩
    have b3 : fm2a.size = 5 := rfl
    have hl1 : lineG l.row 2 (S2 l fm2a.size) = ⟨l.row, 2, l.dev, l.port, nilS, nilS, nilS, 0, 0, 0, l.vlan, 0, l.cost, [], [], [], []⟩ := rfl
    have hb2 : bare2 l = ⟨l.row, 2, l.dev, l.port, nilS, nilS, nilS, 0, 0, 0, l.vlan, 0, l.cost, [], [], [], []⟩ := by unfold bare2; rw [hT]
    rw [hl1, ← hb2]
    constructor
    · rintro ⟨⟨h1, h2, h3, h4, h5, h6, h7⟩, h⟩
      have hv : 0 < l.vlan := by
        rcases h6 with h6 | h6
        · exact h6
        · rw [hT] at h6; simp at h6
      refine ⟨⟨fun i hi => ?_, fun _ => ⟨h7, .inl hv⟩⟩, h⟩
      rcases (by omega : i = 0 ∨ i = 1 ∨ i = 2 ∨ i = 3 ∨ i = 4) with rfl | rfl | rfl | rfl | rfl
      · exact h1
      · exact h2
      · exact h3
      · trivial
      · exact ⟨by omega, h4.2⟩
    · rintro ⟨⟨hq, _⟩, h⟩
      have hv : 1 ≤ l.vlan ∧ l.vlan ≤ 4094 := hq 4 (by decide)
      exact ⟨⟨hq 0 (by decide), hq 1 (by decide), hq 2 (by decide), ⟨by omega, hv.2⟩, .inl hT, .inl (by omega), by rw [hT]; simp⟩, h⟩
  have hsp : palingref11_spell l.tagged = some (bstr (joinL (l.tagged.map textL))) := by
    unfold palingref11_spell
    have hp := List.length_pos_iff.2 hT
    rw [if_neg (by simpa using hT), listText_spec t1 ho.tagged]; rfl
  have hne0 : ¬ ((l.tagged.length : Int) == 0) = true := by simpa using hT
  by_cases hv0 : l.vlan = 0
  · refine ⟨[portW, l.dev, l.port, textI l.cost, trunkW, ⟨#[45]⟩, bstr (joinL (l.tagged.map textL))], hWs (by rw [if_neg hne0, if_pos (by simpa using hv0), hsp]; rfl), ?_⟩
    obtain ⟨q1, q2⟩ := readG (row := l.row) (w := portW) (wt := [l.dev, l.port, textI l.cost, trunkW, ⟨#[45]⟩, bstr (joinL (l.tagged.map textL))]) (fm := fm2t) (kd := 2) form_port7 (by decide) (by rw [wr64 (by decide) (by decide)]; rfl) kind_port (by decide)
      (S2 l) N2 (fun i => match i with | 0 => NameP l.dev | 1 => NameP l.port | 2 => 1 ≤ l.cost ∧ l.cost ≤ 65535 | 3 => True | 4 => True | _ => RisingP l.tagged 1 4094) rfl rfl
      (fun i hi => by
        have b3 : fm2t.size = 6 := rfl
        rcases (by omega : i = 0 ∨ i = 1 ∨ i = 2 ∨ i = 3 ∨ i = 4 ∨ i = 5) with rfl | rfl | rfl | rfl | rfl | rfl
        · exact stepN (g := S2 l 0) (by decide) (by decide) rfl (by decide) (wgN0 ho.dev) (by decide) (by decide)
        · exact stepN (g := S2 l 1) (by decide) (by decide) rfl (by decide) (wgN1 ho.port (by decide) (by decide)) (by decide) (by decide)
        · exact stepN (g := S2 l 2) (by decide) (by decide) rfl (by decide) (wgC ho.cost.1 ho.cost.2) (by decide) (by decide)
        · exact stepN (g := S2 l 3) (by decide) (by decide) rfl (by decide) wgKt (by decide) (by decide)
        · have e5 : S2 l 5 = { S2 l 4 with s := { (S2 l 4).s with vlan := 0 } } := by simp [S2, hv0]
          rw [e5]
          exact stepN (g := S2 l 4) (by decide) (by decide) rfl (by decide) wgW0 (by decide) (by decide)
        · exact stepN (g := S2 l 5) (by decide) (by decide) rfl (by decide) (wgT hT t1 ho.tagged) (by decide) (by decide)) ho.few1
    refine ⟨_, _, q1, q2, ?_⟩
    have b3 : fm2t.size = 6 := rfl
    have hl1 : lineG l.row 2 (S2 l fm2t.size) = bare2 l := rfl
    rw [hl1]
    constructor
    · rintro ⟨⟨h1, h2, h3, h4, h5, h6, h7⟩, h⟩
      refine ⟨⟨fun i hi => ?_, fun _ => ⟨h7, h6⟩⟩, h⟩
      rcases (by omega : i = 0 ∨ i = 1 ∨ i = 2 ∨ i = 3 ∨ i = 4 ∨ i = 5) with rfl | rfl | rfl | rfl | rfl | rfl
      · exact h1
      · exact h2
      · exact h3
      · trivial
      · trivial
      · exact h5.resolve_left hT
    · rintro ⟨⟨hq, hm⟩, h⟩
      have hm := hm rfl
      exact ⟨⟨hq 0 (by decide), hq 1 (by decide), hq 2 (by decide), ⟨by omega, by omega⟩, .inr (hq 5 (by decide)), hm.2, hm.1⟩, h⟩
  · refine ⟨[portW, l.dev, l.port, textI l.cost, trunkW, textI l.vlan, bstr (joinL (l.tagged.map textL))], hWs (by rw [if_neg hne0, if_neg (by simpa using hv0), hsp]; rfl), ?_⟩
    obtain ⟨q1, q2⟩ := readG (row := l.row) (w := portW) (wt := [l.dev, l.port, textI l.cost, trunkW, textI l.vlan, bstr (joinL (l.tagged.map textL))]) (fm := fm2t) (kd := 2) form_port7 (by decide) (by rw [wr64 (by decide) (by decide)]; rfl) kind_port (by decide)
      (S2 l) N2 (fun i => match i with | 0 => NameP l.dev | 1 => NameP l.port | 2 => 1 ≤ l.cost ∧ l.cost ≤ 65535 | 3 => True | 4 => 1 ≤ l.vlan ∧ l.vlan ≤ 4094 | _ => RisingP l.tagged 1 4094) rfl rfl
      (fun i hi => by
        have b3 : fm2t.size = 6 := rfl
        rcases (by omega : i = 0 ∨ i = 1 ∨ i = 2 ∨ i = 3 ∨ i = 4 ∨ i = 5) with rfl | rfl | rfl | rfl | rfl | rfl
        · exact stepN (g := S2 l 0) (by decide) (by decide) rfl (by decide) (wgN0 ho.dev) (by decide) (by decide)
        · exact stepN (g := S2 l 1) (by decide) (by decide) rfl (by decide) (wgN1 ho.port (by decide) (by decide)) (by decide) (by decide)
        · exact stepN (g := S2 l 2) (by decide) (by decide) rfl (by decide) (wgC ho.cost.1 ho.cost.2) (by decide) (by decide)
        · exact stepN (g := S2 l 3) (by decide) (by decide) rfl (by decide) wgKt (by decide) (by decide)
        · exact stepN (g := S2 l 4) (by decide) (by decide) rfl (by decide) (wgW ho.vlan.1 ho.vlan.2) (by decide) (by decide)
        · exact stepN (g := S2 l 5) (by decide) (by decide) rfl (by decide) (wgT hT t1 ho.tagged) (by decide) (by decide)) ho.few1
    refine ⟨_, _, q1, q2, ?_⟩
    have b3 : fm2t.size = 6 := rfl
    have hl1 : lineG l.row 2 (S2 l fm2t.size) = bare2 l := rfl
    rw [hl1]
    constructor
    · rintro ⟨⟨h1, h2, h3, h4, h5, h6, h7⟩, h⟩
      refine ⟨⟨fun i hi => ?_, fun _ => ⟨h7, h6⟩⟩, h⟩
      rcases (by omega : i = 0 ∨ i = 1 ∨ i = 2 ∨ i = 3 ∨ i = 4 ∨ i = 5) with rfl | rfl | rfl | rfl | rfl | rfl
      · exact h1
      · exact h2
      · exact h3
      · trivial
      · exact ⟨by omega, h4.2⟩
      · exact h5.resolve_left hT
    · rintro ⟨⟨hq, hm⟩, h⟩
      have hm := hm rfl
      have hv : 1 ≤ l.vlan ∧ l.vlan ≤ 4094 := hq 4 (by decide)
      exact ⟨⟨hq 0 (by decide), hq 1 (by decide), hq 2 (by decide), ⟨by omega, hv.2⟩, .inr (hq 5 (by decide)), hm.2, hm.1⟩, h⟩
end
end Go.Eng
