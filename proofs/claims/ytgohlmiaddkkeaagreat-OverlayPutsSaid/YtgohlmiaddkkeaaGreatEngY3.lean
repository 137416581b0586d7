/- Chapter 11: which lines of devices, ports, VTEPs, VNIs and flood lists may be, on both sides. -/
import Derived.Test.YtgohlmiaddkkeaaGreatEngY2
set_option linter.unusedVariables false
set_option linter.unusedSectionVars false
set_option linter.unusedSimpArgs false
namespace Go.Eng
open Go Classical
attribute [local congr] ite_cg
def vtepW : ByteArray := ⟨#[118, 116, 101, 112]⟩
def vniW : ByteArray := ⟨#[118, 110, 105]⟩
def floodW : ByteArray := ⟨#[102, 108, 111, 111, 100]⟩
abbrev fm5 : ByteArray := ⟨#[78, 65]⟩
abbrev fm6 : ByteArray := ⟨#[78, 86, 73]⟩
abbrev fm7 : ByteArray := ⟨#[78, 73, 76]⟩
section
variable {a b c d e f : ByteArray}
theorem form_vtep : palingref11_form [vtepW, a, b] = some fm5 := by
  unfold palingref11_form
  rw [if_neg (by simp), nth_zero]
  simp only [List.getElem?_cons_zero, Option.bind_some, seqB_dec, vtepW]
  rw [if_neg (by decide), if_neg (by decide), if_neg (by decide), if_pos (by decide)]
theorem form_vni : palingref11_form [vniW, a, b, c] = some fm6 := by
  unfold palingref11_form
  rw [if_neg (by simp), nth_zero]
  simp only [List.getElem?_cons_zero, Option.bind_some, seqB_dec, vniW]
  rw [if_neg (by decide), if_neg (by decide), if_neg (by decide), if_neg (by decide), if_pos (by decide)]
theorem form_flood : palingref11_form [floodW, a, b, c] = some fm7 := by
  unfold palingref11_form
  rw [if_neg (by simp), nth_zero]
  simp only [List.getElem?_cons_zero, Option.bind_some, seqB_dec, floodW]
  rw [if_neg (by decide), if_neg (by decide), if_neg (by decide), if_neg (by decide), if_neg (by decide), if_pos (by decide)]
end
theorem kind_vtep : palingref11_kind vtepW = some 5 := by kernel_rfl
theorem kind_vni : palingref11_kind vniW = some 6 := by kernel_rfl
theorem kind_flood : palingref11_kind floodW = some 7 := by kernel_rfl
theorem stepN {ws : List ByteArray} {row kd : Int} {fm : ByteArray} {g g1 : Gs} {nm nm1 c : Int} {i : Nat} {x : ByteArray} {C : Prop} (hi : i < fm.size) (hf : fm.size ≤ 100) (hx : nth ws ((i : Int) + 1) = some x) (hc : byteAt fm (i : Int) = c) (hw : WG c x nm row kd g g1 C) (hn : 0 ≤ nm ∧ nm ≤ 100) (hn1 : (if c = 78 then nm + 1 else nm) = nm1) :
    (C → fS ws row fm kd (tupG g nm (i : Int)) = some (.inl (tupG g1 nm1 ((i + 1 : Nat) : Int)))) ∧ (¬ C → ∃ e : Int, e ≠ 0 ∧ fS ws row fm kd (tupG g nm (i : Int)) = some (.inr (.inl e))) := by
  have := stepG (row := row) hi hf hx hc hw hn
  rwa [hn1] at this
def g0 : Gs := ⟨⟨nilS, nilS, nilS, nilS, nilS, 0, 0, 0, 0, 0, 0⟩, [], [], [], []⟩
section
variable {l : Api_Line}
structure LnOk (l : Api_Line) : Prop where
  dev : l.dev.size ≤ 1000000
  port : l.port.size ≤ 1000000
  vlan : -9223372036854775808 ≤ l.vlan ∧ l.vlan < 9223372036854775808
  num : -9223372036854775808 ≤ l.num ∧ l.num < 9223372036854775808
  cost : -9223372036854775808 ≤ l.cost ∧ l.cost < 9223372036854775808
  mac : 0 ≤ l.mac ∧ l.mac < 18446744073709551616
  addr : 0 ≤ l.addr ∧ l.addr < 4294967296
  tagged : ∀ x ∈ l.tagged, -9223372036854775808 ≤ x ∧ x < 9223372036854775808
  addrs : ∀ x ∈ l.addrs, 0 ≤ x ∧ x < 4294967296
  few1 : Few l.tagged
  few4 : Few l.addrs
theorem words_hd (ho : LnOk l) {r : List ByteArray} (h : (if (l.kind == 1) = true then
    some [(⟨#[100, 101, 118, 105, 99, 101]⟩ : ByteArray), l.dev, textI l.num, bstr (macL l.mac)]
  else
    if (l.kind == 2) = true then
      (palingref03_Text l.cost).bind fun r10 =>
      if ((l.tagged.length : Int) == 0) = true then
        some [(⟨#[112, 111, 114, 116]⟩ : ByteArray), l.dev, l.port, r10, (⟨#[97, 99, 99, 101, 115, 115]⟩ : ByteArray), textI l.vlan]
      else
        if (l.vlan == 0) = true then
          (palingref11_spell l.tagged).bind fun r14 =>
          some [(⟨#[112, 111, 114, 116]⟩ : ByteArray), l.dev, l.port, r10, (⟨#[116, 114, 117, 110, 107]⟩ : ByteArray), (⟨#[45]⟩ : ByteArray), r14]
        else
          (palingref11_spell l.tagged).bind fun r16 =>
          some [(⟨#[112, 111, 114, 116]⟩ : ByteArray), l.dev, l.port, r10, (⟨#[116, 114, 117, 110, 107]⟩ : ByteArray), textI l.vlan, r16]
    else
      if (l.kind == 3) = true then
        some [(⟨#[108, 105, 110, 107]⟩ : ByteArray), l.dev, l.port, l.peer, l.far]
      else
        if (l.kind == 4) = true then
          some [(⟨#[115, 116, 97, 116, 105, 99]⟩ : ByteArray), l.dev, textI l.vlan, bstr (macL l.mac), l.port]
        else
          if (l.kind == 5) = true then
            (palingref02_Text l.addr).bind fun r21 =>
            some [(⟨#[118, 116, 101, 112]⟩ : ByteArray), l.dev, r21]
          else
            if (l.kind == 6) = true then
              some [(⟨#[118, 110, 105]⟩ : ByteArray), l.dev, textI l.vlan, textI l.num]
            else
              if (l.kind == 7) = true then
                (palingref03_AddrsText l.addrs).bind fun r25 =>
                some [(⟨#[102, 108, 111, 111, 100]⟩ : ByteArray), l.dev, textI l.num, r25]
              else none) = some r) : palingref11_Words l = some r := by
  unfold palingref11_Words
  rw [rText_spec ho.vlan.1 ho.vlan.2, Option.bind_some, rText_spec ho.num.1 ho.num.2, Option.bind_some, mac_Text_spec ho.mac.1 ho.mac.2, Option.bind_some]
  revert h
  repeat' split
  all_goals first
    | exact fun h => h
    | (intro h; cases h)
/-! #### Devices -/
/-! #### VTEPs -/
def bare5 (l : Api_Line) : Api_Line := ⟨l.row, 5, l.dev, nilS, nilS, nilS, nilS, 0, l.addr, 0, 0, 0, 0, [], [], [], []⟩
def LineP5 (l : Api_Line) : Prop := (NameP l.dev ∧ l.addr ≠ 0) ∧ l = bare5 l
theorem sRight5 (ho : LnOk l) (hk : l.kind = 5) : stmt_Right l = some (decide (LineP5 l)) := by
  refine sRightG Iff.rfl (b := bare5 l) (Q := l.addr ≠ 0) ?_ few0 few0 few0 few0 ho.dev
  unfold stmt_used
  rw [if_neg (kne hk rfl), if_neg (kne hk rfl), if_neg (kne hk rfl), if_neg (kne hk rfl), if_pos (keq hk)]
  have e : (⟨l.row, l.kind, l.dev, ⟨#[]⟩, ⟨#[]⟩, ⟨#[]⟩, ⟨#[]⟩, 0, l.addr, 0, 0, 0, 0, [], [], [], []⟩ : Api_Line) = bare5 l := by rw [hk]; rfl
  rw [e]
  by_cases c1 : l.addr = 0 <;> simp [c1]
theorem rRight5 (ho : LnOk l) (hk : l.kind = 5) : palingref11_Right l = some (decide (LineP5 l)) := by
  refine rRightG (fun h => by rw [h.2]; simp [bare5]) fun t1 t2 t3 t4 => ⟨[vtepW, l.dev, bstr (addrL l.addr)], words_hd ho (by
    rw [if_neg (kne hk rfl), if_neg (kne hk rfl), if_neg (kne hk rfl), if_neg (kne hk rfl), if_pos (keq hk), addrText_spec ho.addr.1 ho.addr.2]; rfl), ?_⟩
  obtain ⟨q1, q2⟩ := readG (row := l.row) (w := vtepW) (wt := [l.dev, bstr (addrL l.addr)]) (fm := fm5) (kd := 5) form_vtep (by decide) (by rw [wr64 (by decide) (by decide)]; rfl) kind_vtep (by decide)
    (fun i => match i with | 0 => g0 | 1 => { g0 with s := { g0.s with dev := l.dev } } | _ => { g0 with s := { g0.s with dev := l.dev, addr := l.addr } })
    (fun i => match i with | 0 => 0 | _ => 1)
    (fun i => match i with | 0 => NameP l.dev | _ => l.addr ≠ 0) rfl rfl
    (fun i hi => by
      have b3 : fm5.size = 2 := rfl
      rcases (by omega : i = 0 ∨ i = 1) with rfl | rfl
      · exact stepN (g := g0) (by decide) (by decide) rfl (by decide) (wgN0 ho.dev) (by decide) (by decide)
      · exact stepN (g := { g0 with s := { g0.s with dev := l.dev } }) (by decide) (by decide) rfl (by decide) (wgA ho.addr.1 ho.addr.2) (by decide) (by decide)) few0
  refine ⟨_, _, q1, q2, ?_⟩
  have b3 : fm5.size = 2 := rfl
  constructor
  · intro h
    refine ⟨⟨fun i hi => ?_, fun h2 => absurd h2 (by decide)⟩, h.2⟩
    rcases (by omega : i = 0 ∨ i = 1) with rfl | rfl
    · exact h.1.1
    · exact h.1.2
  · rintro ⟨⟨hq, _⟩, h⟩
    exact ⟨⟨hq 0 (by decide), hq 1 (by decide)⟩, h⟩
/-! #### VNIs -/
def bare6 (l : Api_Line) : Api_Line := ⟨l.row, 6, l.dev, nilS, nilS, nilS, nilS, 0, 0, 0, l.vlan, l.num, 0, [], [], [], []⟩
def LineP6 (l : Api_Line) : Prop := (NameP l.dev ∧ ((1 ≤ l.vlan ∧ l.vlan ≤ 4094) ∧ (1 ≤ l.num ∧ l.num ≤ 16777215))) ∧ l = bare6 l
theorem sRight6 (ho : LnOk l) (hk : l.kind = 6) : stmt_Right l = some (decide (LineP6 l)) := by
  refine sRightG Iff.rfl (b := bare6 l) (Q := (1 ≤ l.vlan ∧ l.vlan ≤ 4094) ∧ (1 ≤ l.num ∧ l.num ≤ 16777215)) ?_ few0 few0 few0 few0 ho.dev
  unfold stmt_used
  rw [if_neg (kne hk rfl), if_neg (kne hk rfl), if_neg (kne hk rfl), if_neg (kne hk rfl), if_neg (kne hk rfl), if_pos (keq hk)]
  simp only [within_spec, Option.bind_some]
  have e : (⟨l.row, l.kind, l.dev, ⟨#[]⟩, ⟨#[]⟩, ⟨#[]⟩, ⟨#[]⟩, 0, 0, 0, l.vlan, l.num, 0, [], [], [], []⟩ : Api_Line) = bare6 l := by rw [hk]; rfl
  rw [e]
  by_cases c1 : 1 ≤ l.vlan ∧ l.vlan ≤ 4094 <;> simp [c1]
theorem rRight6 (ho : LnOk l) (hk : l.kind = 6) : palingref11_Right l = some (decide (LineP6 l)) := by
  refine rRightG (fun h => by rw [h.2]; simp [bare6]) fun t1 t2 t3 t4 => ⟨[vniW, l.dev, textI l.vlan, textI l.num], words_hd ho (by
    rw [if_neg (kne hk rfl), if_neg (kne hk rfl), if_neg (kne hk rfl), if_neg (kne hk rfl), if_neg (kne hk rfl), if_pos (keq hk)]; rfl), ?_⟩
  obtain ⟨q1, q2⟩ := readG (row := l.row) (w := vniW) (wt := [l.dev, textI l.vlan, textI l.num]) (fm := fm6) (kd := 6) form_vni (by decide) (by rw [wr64 (by decide) (by decide)]; rfl) kind_vni (by decide)
    (fun i => match i with | 0 => g0 | 1 => { g0 with s := { g0.s with dev := l.dev } } | 2 => { g0 with s := { g0.s with dev := l.dev, vlan := l.vlan } } | _ => { g0 with s := { g0.s with dev := l.dev, vlan := l.vlan, num := l.num } })
    (fun i => match i with | 0 => 0 | _ => 1)
    (fun i => match i with | 0 => NameP l.dev | 1 => 1 ≤ l.vlan ∧ l.vlan ≤ 4094 | _ => 1 ≤ l.num ∧ l.num ≤ 16777215) rfl rfl
    (fun i hi => by
      have b3 : fm6.size = 3 := rfl
      rcases (by omega : i = 0 ∨ i = 1 ∨ i = 2) with rfl | rfl | rfl
      · exact stepN (g := g0) (by decide) (by decide) rfl (by decide) (wgN0 ho.dev) (by decide) (by decide)
      · exact stepN (g := { g0 with s := { g0.s with dev := l.dev } }) (by decide) (by decide) rfl (by decide) (wgV ho.vlan.1 ho.vlan.2) (by decide) (by decide)
      · exact stepN (g := { g0 with s := { g0.s with dev := l.dev, vlan := l.vlan } }) (by decide) (by decide) rfl (by decide) (wgI ho.num.1 ho.num.2) (by decide) (by decide)) few0
  refine ⟨_, _, q1, q2, ?_⟩
  have b3 : fm6.size = 3 := rfl
  constructor
  · intro h
    refine ⟨⟨fun i hi => ?_, fun h2 => absurd h2 (by decide)⟩, h.2⟩
    rcases (by omega : i = 0 ∨ i = 1 ∨ i = 2) with rfl | rfl | rfl
    · exact h.1.1
    · exact h.1.2.1
    · exact h.1.2.2
  · rintro ⟨⟨hq, _⟩, h⟩
    exact ⟨⟨hq 0 (by decide), hq 1 (by decide), hq 2 (by decide)⟩, h⟩
/-! #### Flood lists -/
def bare7 (l : Api_Line) : Api_Line := ⟨l.row, 7, l.dev, nilS, nilS, nilS, nilS, 0, 0, 0, 0, l.num, 0, [], [], [], l.addrs⟩
def LineP7 (l : Api_Line) : Prop := (NameP l.dev ∧ ((1 ≤ l.num ∧ l.num ≤ 16777215) ∧ AddrsP l.addrs)) ∧ l = bare7 l
theorem sRight7 (ho : LnOk l) (hk : l.kind = 7) : stmt_Right l = some (decide (LineP7 l)) := by
  refine sRightG Iff.rfl (b := bare7 l) (Q := (1 ≤ l.num ∧ l.num ≤ 16777215) ∧ AddrsP l.addrs) ?_ few0 few0 few0 ho.few4 ho.dev
  unfold stmt_used
  rw [if_neg (kne hk rfl), if_neg (kne hk rfl), if_neg (kne hk rfl), if_neg (kne hk rfl), if_neg (kne hk rfl), if_neg (kne hk rfl), if_pos (keq hk)]
  simp only [within_spec, sAddrs_spec ho.few4, Option.bind_some]
  have e : (⟨l.row, l.kind, l.dev, ⟨#[]⟩, ⟨#[]⟩, ⟨#[]⟩, ⟨#[]⟩, 0, 0, 0, 0, l.num, 0, [], [], [], l.addrs⟩ : Api_Line) = bare7 l := by rw [hk]; rfl
  rw [e]
  by_cases c1 : 1 ≤ l.num ∧ l.num ≤ 16777215 <;> simp [c1]
theorem rRight7 (ho : LnOk l) (hk : l.kind = 7) : palingref11_Right l = some (decide (LineP7 l)) := by
  refine rRightG (fun h => ⟨by rw [h.2]; simp [bare7], by rw [h.2]; simp [bare7], by rw [h.2]; simp [bare7], h.1.2.2.2.2⟩) fun t1 t2 t3 t4 => ⟨[floodW, l.dev, textI l.num, bstr (joinL (l.addrs.map addrL))], words_hd ho (by
    rw [if_neg (kne hk rfl), if_neg (kne hk rfl), if_neg (kne hk rfl), if_neg (kne hk rfl), if_neg (kne hk rfl), if_neg (kne hk rfl), if_pos (keq hk), addrsText_spec t4 ho.addrs]; rfl), ?_⟩
  obtain ⟨q1, q2⟩ := readG (row := l.row) (w := floodW) (wt := [l.dev, textI l.num, bstr (joinL (l.addrs.map addrL))]) (fm := fm7) (kd := 7) form_flood (by decide) (by rw [wr64 (by decide) (by decide)]; rfl) kind_flood (by decide)
    (fun i => match i with | 0 => g0 | 1 => { g0 with s := { g0.s with dev := l.dev } } | 2 => { g0 with s := { g0.s with dev := l.dev, num := l.num } } | _ => { g0 with s := { g0.s with dev := l.dev, num := l.num }, A := l.addrs })
    (fun i => match i with | 0 => 0 | _ => 1)
    (fun i => match i with | 0 => NameP l.dev | 1 => 1 ≤ l.num ∧ l.num ≤ 16777215 | _ => AddrsP l.addrs) rfl rfl
    (fun i hi => by
      have b3 : fm7.size = 3 := rfl
      rcases (by omega : i = 0 ∨ i = 1 ∨ i = 2) with rfl | rfl | rfl
      · exact stepN (g := g0) (by decide) (by decide) rfl (by decide) (wgN0 ho.dev) (by decide) (by decide)
      · exact stepN (g := { g0 with s := { g0.s with dev := l.dev } }) (by decide) (by decide) rfl (by decide) (wgI ho.num.1 ho.num.2) (by decide) (by decide)
      · exact stepN (g := { g0 with s := { g0.s with dev := l.dev, num := l.num } }) (by decide) (by decide) rfl (by decide) (wgL t4 ho.addrs) (by decide) (by decide)) few0
  refine ⟨_, _, q1, q2, ?_⟩
  have b3 : fm7.size = 3 := rfl
  constructor
  · intro h
    refine ⟨⟨fun i hi => ?_, fun h2 => absurd h2 (by decide)⟩, h.2⟩
    rcases (by omega : i = 0 ∨ i = 1 ∨ i = 2) with rfl | rfl | rfl
    · exact h.1.1
    · exact h.1.2.1
    · exact h.1.2.2
  · rintro ⟨⟨hq, _⟩, h⟩
    exact ⟨⟨hq 0 (by decide), hq 1 (by decide), hq 2 (by decide)⟩, h⟩
/-! #### Ports -/
end
end Go.Eng
