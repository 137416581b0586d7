/- Chapter 11: lines of VRFs and interfaces (kinds 8 and 9), on both sides. -/
import Derived.Test.YtcclngfmkodgjaaGreatEngY3
import Derived.Test.YtcclngfmkodgjaaGreatEngGP36a
set_option linter.unusedVariables false
set_option linter.unusedSectionVars false
set_option linter.unusedSimpArgs false
namespace Go.Eng
open Go Classical
attribute [local congr] ite_cg
def vrfW : ByteArray := ⟨#[118, 114, 102]⟩
def irbW : ByteArray := ⟨#[105, 114, 98]⟩
abbrev fm8 : ByteArray := ⟨#[78, 78, 82, 82]⟩
abbrev fm9 : ByteArray := ⟨#[78, 86, 78, 83]⟩
section
variable {a b c d : ByteArray}
theorem form_vrf : palingref11_form [vrfW, a, b, c, d] = some fm8 := by
  unfold palingref11_form
  rw [if_neg (by simp), nth_zero]
  simp only [List.getElem?_cons_zero, Option.bind_some, seqB_dec, vrfW]
  rw [if_neg (by decide), if_neg (by decide), if_neg (by decide), if_neg (by decide), if_neg (by decide), if_neg (by decide), if_pos (by decide)]
theorem form_irb : palingref11_form [irbW, a, b, c, d] = some fm9 := by
  unfold palingref11_form
  rw [if_neg (by simp), nth_zero]
  simp only [List.getElem?_cons_zero, Option.bind_some, seqB_dec, irbW]
  rw [if_neg (by decide), if_neg (by decide), if_neg (by decide), if_neg (by decide), if_neg (by decide), if_neg (by decide), if_neg (by decide), if_pos (by decide)]
end
theorem kind_vrf : palingref11_kind vrfW = some 8 := by kernel_rfl
theorem kind_irb : palingref11_kind irbW = some 9 := by kernel_rfl
/-! ### Prefixes as texts -/
def SubP (p : Api_Prefix) : Prop := 1 ≤ p.bits ∧ p.bits ≤ 30 ∧ p.addr ≠ firstA p ∧ p.addr ≠ lastA p
section
variable {p : Api_Prefix}
theorem sSubnet_spec (a0 : 0 ≤ p.addr) (a1 : p.addr < 4294967296) : stmt_subnet p = some (decide (SubP p)) := by
  unfold stmt_subnet
  by_cases c1 : 1 ≤ p.bits
  case neg => rw [if_neg (by simpa using c1), decide_eq_false (fun h => c1 h.1)]
  by_cases c2 : p.bits ≤ 30
  case neg => rw [if_pos (decide_eq_true c1), if_neg (by simpa using c2), decide_eq_false (fun h => c2 h.2.1)]
  have hP : PreOk p := ⟨by omega, by omega, a0, a1⟩
  rw [if_pos (decide_eq_true c1), if_pos (decide_eq_true c2), addr_First_spec hP, Option.bind_some]
  by_cases c3 : p.addr = firstA p
  · rw [if_neg (by simpa using c3), decide_eq_false (fun h => h.2.2.1 c3)]
  · rw [if_pos (by simpa using c3), addr_Last_spec hP, Option.bind_some]
    by_cases c4 : p.addr = lastA p
    · rw [decide_eq_false (fun h : SubP p => h.2.2.2 c4)]; simp [c4]
    · rw [decide_eq_true (show SubP p from ⟨c1, c2, c3, c4⟩)]; simp [c4]
theorem rSubnet_spec (a0 : 0 ≤ p.addr) (a1 : p.addr < 4294967296) : palingref11_Subnet p = some (decide (SubP p)) := by
  unfold palingref11_Subnet
  by_cases c1 : 1 ≤ p.bits
  case neg => rw [if_neg (by simpa using c1), decide_eq_false (fun h => c1 h.1)]
  by_cases c2 : p.bits ≤ 30
  case neg => rw [if_pos (decide_eq_true c1), if_neg (by simpa using c2), decide_eq_false (fun h => c2 h.2.1)]
  have hP : PreOk p := ⟨by omega, by omega, a0, a1⟩
  rw [if_pos (decide_eq_true c1), if_pos (decide_eq_true c2), r02First_spec hP, Option.bind_some]
  by_cases c3 : p.addr = firstA p
  · rw [if_neg (by simpa using c3), decide_eq_false (fun h => h.2.2.1 c3)]
  · rw [if_pos (by simpa using c3), r02Last_spec hP, Option.bind_some]
    by_cases c4 : p.addr = lastA p
    · rw [decide_eq_false (fun h : SubP p => h.2.2.2 c4)]; simp [c4]
    · rw [decide_eq_true (show SubP p from ⟨c1, c2, c3, c4⟩)]; simp [c4]
def preL (p : Api_Prefix) : List Int := addrL p.addr ++ 47 :: dec3 p.bits.toNat
theorem preText_spec (hP : PreOk p) : palingref02_PrefixText p = some (bstr (preL p)) := by
  have b0 := hP.b0; have b1 := hP.b1
  have h1 := addrL_len (a := p.addr)
  have h2 := dec3_len (n := p.bits.toNat)
  unfold palingref02_PrefixText
  rw [r02Right_spec hP, Option.bind_some, if_neg (by simp), addrText_spec hP.a0 hP.a1, Option.bind_some]
  have e47 : (⟨#[47]⟩ : ByteArray) = bstr [47] := by rfl
  rw [e47, if_pos (sadY (by rw [bstr_size, bstr_size, List.length_singleton]; omega))]
  have hd := (dec3_spec (n := p.bits.toNat) (by omega)).1
  rw [Int.toNat_of_nonneg b0] at hd
  rw [hd, Option.bind_some, bstr_app, if_pos (sadY (by rw [bstr_size, bstr_size, List.length_append, List.length_singleton]; omega)), bstr_app]
  simp [preL]
theorem preBad {q : Api_Prefix} (h : ¬ (0 ≤ q.bits ∧ q.bits ≤ 32)) : palingref02_PrefixText q = some ⟨#[]⟩ := by
  unfold palingref02_PrefixText palingref02_Right
  by_cases c : 0 ≤ q.bits
  · rw [if_pos (decide_eq_true c), Option.bind_some, if_pos (by simp; omega)]
  · rw [if_neg (by simpa using c), Option.bind_some, if_pos (by rfl)]
theorem readPre_nil : palingref02_ReadPrefix ⟨#[]⟩ = some (⟨0, 0⟩, false) := by kernel_rfl
theorem readPre_spec (hP : PreOk p) : palingref02_ReadPrefix (bstr (preL p)) = some (p, true) := by
  have b0 := hP.b0; have b1 := hP.b1
  have h1 := addrL_len (a := p.addr)
  have h2 := dec3_len (n := p.bits.toNat)
  have hc := addrL_c hP.a0 hP.a1
  have hd := dec3_c (n := p.bits.toNat) (by omega)
  have hb : ∀ x ∈ preL p, 0 ≤ x ∧ x < 256 := fun x hx => by
    unfold preL at hx
    rcases List.mem_append.1 hx with h | h
    · have := hc x h; omega
    · rcases List.mem_cons.1 h with h | h
      · omega
      · have := hd x h; omega
  have hlen : (preL p).length = (addrL p.addr).length + 1 + (dec3 p.bits.toNat).length := by unfold preL; simp; omega
  have hg : ∀ i : Nat, (hi : i < (addrL p.addr).length) → getI (preL p) (i : Int) = (addrL p.addr)[i] := fun i hi => by
    have := getI_drop (l := preL p) (d := addrL p.addr) (r := 47 :: dec3 p.bits.toNat) (i := 0) (j := i) rfl hi
    simpa using this.2
  have hg47 : getI (preL p) ((addrL p.addr).length : Int) = 47 := by
    have := getI_drop (l := preL p) (d := 47 :: dec3 p.bits.toNat) (r := []) (i := (addrL p.addr).length) (j := 0) (by unfold preL; simp) (by simp)
    simpa using this.2
  have e := loopM_trace (f := palingref02_ReadPrefix_L1 (bstr (preL p))) (r := ((addrL p.addr).length : Int)) (fun i => (i : Int)) (addrL p.addr).length (by omega) (fun i hi => by
    have il : inL (preL p) (i : Int) := ⟨by omega, by omega⟩
    have hne : (addrL p.addr)[i] ≠ 47 := by have := hc _ (List.getElem_mem hi); omega
    unfold palingref02_ReadPrefix_L1
    rw [bstr_size, if_pos (decide_eq_true (by omega)), if_pos (decide_eq_true ⟨by omega, by omega⟩), byteAt_bstr hb il, hg i hi, if_pos (by simpa using hne), wr64 (by omega) (by omega)]
    rfl) (by
    have il : inL (preL p) ((addrL p.addr).length : Int) := ⟨by omega, by omega⟩
    unfold palingref02_ReadPrefix_L1
    rw [bstr_size, if_pos (decide_eq_true (by omega)), if_pos (decide_eq_true ⟨by omega, by omega⟩), byteAt_bstr hb il, hg47, if_neg (by simp)])
  unfold palingref02_ReadPrefix
  have e' : loopM (palingref02_ReadPrefix_L1 (bstr (preL p))) 0 = some ((addrL p.addr).length : Int) := e
  rw [e', Option.bind_some]
  simp only
  rw [bstr_size, if_neg (by simp; omega), wr64 (by omega) (by omega), if_pos (by rw [slok_dec]; exact decide_eq_true (by omega))]
  have x1 : (bstr (preL p)).extract (Int.toNat 0) (Int.toNat ((addrL p.addr).length : Int)) = bstr (addrL p.addr) := by
    rw [ext_bstr]; simp [preL]
  have x2 : (bstr (preL p)).extract (Int.toNat (((addrL p.addr).length : Int) + 1)) (Int.toNat ((preL p).length : Int)) = bstr (dec3 p.bits.toNat) := by
    rw [ext_bstr]
    have : ((addrL p.addr).length : Int) + 1 = (((addrL p.addr).length + 1 : Nat) : Int) := by omega
    rw [this, Int.toNat_natCast, Int.toNat_natCast, List.take_length]
    unfold preL
    rw [← List.drop_drop, List.drop_left]; rfl
  have hd2 := (dec3_spec (n := p.bits.toNat) (by omega)).2
  rw [Int.toNat_of_nonneg b0] at hd2
  rw [x1, x2, addrRead_spec hP.a0 hP.a1, Option.bind_some, if_pos (by rw [slok_dec]; exact decide_eq_true (by omega)), hd2, Option.bind_some, if_neg (by simp), if_neg (by simp; omega)]
end
/-! ### Words -/
section
variable {x : ByteArray} {nm row kd n : Int} {g : Gs}
theorem wgNn (hx : x.size ≤ 1000000) (hk : kd = 8 ∨ kd = 9) (hn : nm ≠ 0) : WG 78 x nm row kd g { g with s := { g.s with name := x } } (NameP x) := by
  refine ⟨fun h => ?_, fun h => ⟨g, 20, by decide, ?_⟩⟩
  · unfold wdG; rw [wordN hx, if_pos h]
    unfold palingref11_name_own
    rw [if_neg (by simpa using hn)]
    rcases hk with rfl | rfl
    · rw [if_pos (by decide)]; rfl
    · rw [if_neg (by decide), if_pos (by decide)]; rfl
  · unfold wdG; rw [wordN hx, if_neg h]; rfl
def spellB (l : List Int) : ByteArray := if l = [] then ⟨#[45]⟩ else bstr (joinL (l.map textL))
theorem spell_spec {l : List Int} (hl : l.length ≤ 16) (ho : ∀ x ∈ l, -9223372036854775808 ≤ x ∧ x < 9223372036854775808) : palingref11_spell l = some (spellB l) := by
  unfold palingref11_spell spellB
  by_cases h : l = []
  · subst h; rfl
  · rw [if_neg (by simpa using h), listText_spec hl ho, if_neg h]; rfl
theorem wgR {l : List Int} (hl : l.length ≤ 16) (ho : ∀ x ∈ l, -9223372036854775808 ≤ x ∧ x < 9223372036854775808) : WG 82 (spellB l) nm row kd g { g with I := g.E, E := l } (RiseP l 65535) := by
  refine wg_of (g2 := { g with I := g.E, E := [] }) ?_
  unfold wdG palingref11_word_own palingref11_list
  rw [if_neg (by decide), if_neg (by decide), if_neg (by decide), if_neg (by decide), if_neg (by decide), if_neg (by decide), if_neg (by decide), if_neg (by decide), if_neg (by decide), if_neg (by decide), if_neg (by decide), if_pos (by decide), seqB_dec]
  by_cases h0 : l = []
  · subst h0
    rw [if_pos (by unfold spellB; simp), if_pos (.inl rfl)]
    rfl
  · have hs : spellB l = bstr (joinL (l.map textL)) := by unfold spellB; rw [if_neg h0]
    rw [hs, if_neg (by simpa using com_ne h0 hl ho), readList_spec hl ho h0 (by decide) (by decide), Option.bind_some]
    have hr : RiseP l 65535 ↔ RisingP l 1 65535 := ⟨fun h => h.resolve_left h0, .inr⟩
    by_cases h : RisingP l 1 65535
    · rw [if_pos h, if_pos (hr.2 h)]; rfl
    · rw [if_neg h, if_neg (fun q => h (hr.1 q))]; rfl
theorem wgS {p : Api_Prefix} (a0 : 0 ≤ p.addr) (a1 : p.addr < 4294967296) {t : ByteArray} (ht : palingref02_PrefixText p = some t) : WG 83 t nm row kd g { g with s := { g.s with addr := p.addr, bits := p.bits } } (SubP p) := by
  by_cases hb : 0 ≤ p.bits ∧ p.bits ≤ 32
  · have hP : PreOk p := ⟨hb.1, hb.2, a0, a1⟩
    rw [preText_spec hP] at ht
    injection ht with ht; subst ht
    refine wg_of (g2 := { g with s := { g.s with addr := p.addr, bits := p.bits } }) ?_
    unfold wdG palingref11_word_own
    rw [if_neg (by decide), if_neg (by decide), if_neg (by decide), if_neg (by decide), if_neg (by decide), if_neg (by decide), if_neg (by decide), if_neg (by decide), if_neg (by decide), if_neg (by decide), if_neg (by decide), if_neg (by decide), if_pos (by decide), readPre_spec hP, Option.bind_some]
    have hs := rSubnet_spec (p := p) a0 a1
    simp only [if_true]
    rw [show (⟨p.addr, p.bits⟩ : Api_Prefix) = p from rfl, hs, Option.bind_some]
    by_cases h : SubP p
    · simp [h, outG]
    · simp [h, outG]
  · rw [preBad hb] at ht
    injection ht with ht; subst ht
    refine ⟨fun h => absurd (show 0 ≤ p.bits ∧ p.bits ≤ 32 from ⟨by have := h.1; omega, by have := h.2.1; omega⟩) hb, fun _ => ⟨{ g with s := { g.s with addr := 0, bits := 0 } }, 21, by decide, ?_⟩⟩
    unfold wdG palingref11_word_own
    rw [if_neg (by decide), if_neg (by decide), if_neg (by decide), if_neg (by decide), if_neg (by decide), if_neg (by decide), if_neg (by decide), if_neg (by decide), if_neg (by decide), if_neg (by decide), if_neg (by decide), if_neg (by decide), if_pos (by decide), readPre_nil, Option.bind_some]
    rfl
end
section
variable {l : Api_Line}
structure LnOkV (l : Api_Line) : Prop where
  base : LnOk l
  name : l.name.size ≤ 1000000
  imports : ∀ x ∈ l.imports, -9223372036854775808 ≤ x ∧ x < 9223372036854775808
  exports : ∀ x ∈ l.exports, -9223372036854775808 ≤ x ∧ x < 9223372036854775808
  few2 : Few l.imports
  few3 : Few l.exports
theorem words_hd8 (ho : LnOk l) {r : List ByteArray} (hk : l.kind = 8) (h : (palingref11_spell l.imports).bind (fun r28 => (palingref11_spell l.exports).bind fun r30 => some [(⟨#[118, 114, 102]⟩ : ByteArray), l.dev, l.name, r28, r30]) = some r) : palingref11_Words l = some r := by
  unfold palingref11_Words
  rw [rText_spec ho.vlan.1 ho.vlan.2, Option.bind_some, rText_spec ho.num.1 ho.num.2, Option.bind_some, mac_Text_spec ho.mac.1 ho.mac.2, Option.bind_some]
  rw [if_neg (kne hk rfl), if_neg (kne hk rfl), if_neg (kne hk rfl), if_neg (kne hk rfl), if_neg (kne hk rfl), if_neg (kne hk rfl), if_neg (kne hk rfl), if_pos (keq hk)]
  exact h
theorem words_hd9 (ho : LnOk l) {t : ByteArray} (hk : l.kind = 9) (h : palingref02_PrefixText ⟨l.addr, l.bits⟩ = some t) : palingref11_Words l = some [irbW, l.dev, textI l.vlan, l.name, t] := by
  unfold palingref11_Words
  rw [rText_spec ho.vlan.1 ho.vlan.2, Option.bind_some, rText_spec ho.num.1 ho.num.2, Option.bind_some, mac_Text_spec ho.mac.1 ho.mac.2, Option.bind_some]
  rw [if_neg (kne hk rfl), if_neg (kne hk rfl), if_neg (kne hk rfl), if_neg (kne hk rfl), if_neg (kne hk rfl), if_neg (kne hk rfl), if_neg (kne hk rfl), if_neg (kne hk rfl), if_pos (keq hk), h]
  rfl
/-! #### VRFs -/
def bare8 (l : Api_Line) : Api_Line := ⟨l.row, 8, l.dev, nilS, nilS, nilS, l.name, 0, 0, 0, 0, 0, 0, [], l.imports, l.exports, []⟩
def LineP8 (l : Api_Line) : Prop := (NameP l.dev ∧ (NameP l.name ∧ RiseP l.imports 65535 ∧ RiseP l.exports 65535)) ∧ l = bare8 l
theorem sRight8 (ho : LnOkV l) (hk : l.kind = 8) : stmt_Right l = some (decide (LineP8 l)) := by
  refine sRightG Iff.rfl (b := bare8 l) (Q := NameP l.name ∧ RiseP l.imports 65535 ∧ RiseP l.exports 65535) ?_ few0 ho.few2 ho.few3 few0 ho.base.dev
  unfold stmt_used
  rw [if_neg (kne hk rfl), if_neg (kne hk rfl), if_neg (kne hk rfl), if_neg (kne hk rfl), if_neg (kne hk rfl), if_neg (kne hk rfl), if_neg (kne hk rfl), if_pos (keq hk)]
  simp only [num_Name_spec ho.name, list_spec ho.few2, list_spec ho.few3, Option.bind_some]
  have e : (⟨l.row, l.kind, l.dev, ⟨#[]⟩, ⟨#[]⟩, ⟨#[]⟩, l.name, 0, 0, 0, 0, 0, 0, [], l.imports, l.exports, []⟩ : Api_Line) = bare8 l := by rw [hk]; rfl
  rw [e]
  by_cases c1 : NameP l.name
  case neg => simp [c1]
  by_cases c2 : RiseP l.imports 65535
  case neg => simp [c1, c2]
  simp [c1, c2]
theorem rRight8 (ho : LnOkV l) (hk : l.kind = 8) : palingref11_Right l = some (decide (LineP8 l)) := by
  refine rRightG (fun h => ⟨by rw [h.2]; simp [bare8], rise_len h.1.2.2.1, rise_len h.1.2.2.2, by rw [h.2]; simp [bare8]⟩) fun t1 t2 t3 t4 => ⟨[vrfW, l.dev, l.name, spellB l.imports, spellB l.exports], words_hd8 ho.base hk (by rw [spell_spec t2 ho.imports, Option.bind_some, spell_spec t3 ho.exports]; rfl), ?_⟩
  obtain ⟨q1, q2⟩ := readG (row := l.row) (w := vrfW) (wt := [l.dev, l.name, spellB l.imports, spellB l.exports]) (fm := fm8) (kd := 8) form_vrf (by decide) (by rw [wr64 (by decide) (by decide)]; rfl) kind_vrf (by decide)
    (fun i => match i with | 0 => g0 | 1 => { g0 with s := { g0.s with dev := l.dev } } | 2 => { g0 with s := { g0.s with dev := l.dev, name := l.name } } | 3 => { g0 with s := { g0.s with dev := l.dev, name := l.name }, I := [], E := l.imports } | _ => { g0 with s := { g0.s with dev := l.dev, name := l.name }, I := l.imports, E := l.exports })
    (fun i => match i with | 0 => 0 | 1 => 1 | _ => 2)
    (fun i => match i with | 0 => NameP l.dev | 1 => NameP l.name | 2 => RiseP l.imports 65535 | _ => RiseP l.exports 65535) rfl rfl
    (fun i hi => by
      have b3 : fm8.size = 4 := rfl
      rcases (by omega : i = 0 ∨ i = 1 ∨ i = 2 ∨ i = 3) with rfl | rfl | rfl | rfl
      · exact stepN (g := g0) (by decide) (by decide) rfl (by decide) (wgN0 ho.base.dev) (by decide) (by decide)
      · exact stepN (g := { g0 with s := { g0.s with dev := l.dev } }) (by decide) (by decide) rfl (by decide) (wgNn ho.name (.inl rfl) (by decide)) (by decide) (by decide)
      · exact stepN (g := { g0 with s := { g0.s with dev := l.dev, name := l.name } }) (by decide) (by decide) rfl (by decide) (wgR t2 ho.imports) (by decide) (by decide)
      · exact stepN (g := { g0 with s := { g0.s with dev := l.dev, name := l.name }, I := [], E := l.imports }) (by decide) (by decide) rfl (by decide) (wgR t3 ho.exports) (by decide) (by decide)) few0
  refine ⟨_, _, q1, q2, ?_⟩
  have b3 : fm8.size = 4 := rfl
  constructor
  · intro h
    refine ⟨⟨fun i hi => ?_, fun h2 => absurd h2 (by decide)⟩, h.2⟩
    rcases (by omega : i = 0 ∨ i = 1 ∨ i = 2 ∨ i = 3) with rfl | rfl | rfl | rfl
    · exact h.1.1
    · exact h.1.2.1
    · exact h.1.2.2.1
    · exact h.1.2.2.2
  · rintro ⟨⟨hq, _⟩, h⟩
    exact ⟨⟨hq 0 (by decide), hq 1 (by decide), hq 2 (by decide), hq 3 (by decide)⟩, h⟩
/-! #### Interfaces -/
def bare9 (l : Api_Line) : Api_Line := ⟨l.row, 9, l.dev, nilS, nilS, nilS, l.name, 0, l.addr, l.bits, l.vlan, 0, 0, [], [], [], []⟩
def LineP9 (l : Api_Line) : Prop := (NameP l.dev ∧ ((1 ≤ l.vlan ∧ l.vlan ≤ 4094) ∧ NameP l.name ∧ SubP ⟨l.addr, l.bits⟩)) ∧ l = bare9 l
theorem sRight9 (ho : LnOkV l) (hk : l.kind = 9) : stmt_Right l = some (decide (LineP9 l)) := by
  refine sRightG Iff.rfl (b := bare9 l) (Q := (1 ≤ l.vlan ∧ l.vlan ≤ 4094) ∧ NameP l.name ∧ SubP ⟨l.addr, l.bits⟩) ?_ few0 few0 few0 few0 ho.base.dev
  unfold stmt_used
  rw [if_neg (kne hk rfl), if_neg (kne hk rfl), if_neg (kne hk rfl), if_neg (kne hk rfl), if_neg (kne hk rfl), if_neg (kne hk rfl), if_neg (kne hk rfl), if_neg (kne hk rfl), if_pos (keq hk)]
  simp only [within_spec, num_Name_spec ho.name, sSubnet_spec (p := ⟨l.addr, l.bits⟩) ho.base.addr.1 ho.base.addr.2, Option.bind_some]
  have e : (⟨l.row, l.kind, l.dev, ⟨#[]⟩, ⟨#[]⟩, ⟨#[]⟩, l.name, 0, l.addr, l.bits, l.vlan, 0, 0, [], [], [], []⟩ : Api_Line) = bare9 l := by rw [hk]; rfl
  rw [e]
  by_cases c1 : 1 ≤ l.vlan ∧ l.vlan ≤ 4094
  case neg => simp [c1]
  by_cases c2 : NameP l.name
  case neg => simp [c1, c2]
  simp [c1, c2]
theorem rRight9 (ho : LnOkV l) (hk : l.kind = 9) : palingref11_Right l = some (decide (LineP9 l)) := by
  obtain ⟨t, ht⟩ : ∃ t, palingref02_PrefixText ⟨l.addr, l.bits⟩ = some t := by
    by_cases hb : 0 ≤ l.bits ∧ l.bits ≤ 32
    · exact ⟨_, preText_spec (p := ⟨l.addr, l.bits⟩) ⟨hb.1, hb.2, ho.base.addr.1, ho.base.addr.2⟩⟩
    · exact ⟨_, preBad hb⟩
  refine rRightG (fun h => by rw [h.2]; simp [bare9]) fun t1 t2 t3 t4 => ⟨[irbW, l.dev, textI l.vlan, l.name, t], words_hd9 ho.base hk ht, ?_⟩
  obtain ⟨q1, q2⟩ := readG (row := l.row) (w := irbW) (wt := [l.dev, textI l.vlan, l.name, t]) (fm := fm9) (kd := 9) form_irb (by decide) (by rw [wr64 (by decide) (by decide)]; rfl) kind_irb (by decide)
    (fun i => match i with | 0 => g0 | 1 => { g0 with s := { g0.s with dev := l.dev } } | 2 => { g0 with s := { g0.s with dev := l.dev, vlan := l.vlan } } | 3 => { g0 with s := { g0.s with dev := l.dev, vlan := l.vlan, name := l.name } } | _ => { g0 with s := { g0.s with dev := l.dev, vlan := l.vlan, name := l.name, addr := l.addr, bits := l.bits } })
    (fun i => match i with | 0 => 0 | 1 => 1 | 2 => 1 | _ => 2)
    (fun i => match i with | 0 => NameP l.dev | 1 => 1 ≤ l.vlan ∧ l.vlan ≤ 4094 | 2 => NameP l.name | _ => SubP ⟨l.addr, l.bits⟩) rfl rfl
    (fun i hi => by
      have b3 : fm9.size = 4 := rfl
      rcases (by omega : i = 0 ∨ i = 1 ∨ i = 2 ∨ i = 3) with rfl | rfl | rfl | rfl
      · exact stepN (g := g0) (by decide) (by decide) rfl (by decide) (wgN0 ho.base.dev) (by decide) (by decide)
      · exact stepN (g := { g0 with s := { g0.s with dev := l.dev } }) (by decide) (by decide) rfl (by decide) (wgV ho.base.vlan.1 ho.base.vlan.2) (by decide) (by decide)
      · exact stepN (g := { g0 with s := { g0.s with dev := l.dev, vlan := l.vlan } }) (by decide) (by decide) rfl (by decide) (wgNn ho.name (.inr rfl) (by decide)) (by decide) (by decide)
      · exact stepN (g := { g0 with s := { g0.s with dev := l.dev, vlan := l.vlan, name := l.name } }) (by decide) (by decide) rfl (by decide) (wgS (p := ⟨l.addr, l.bits⟩) ho.base.addr.1 ho.base.addr.2 ht) (by decide) (by decide)) few0
  refine ⟨_, _, q1, q2, ?_⟩
  have b3 : fm9.size = 4 := rfl
  constructor
  · intro h
    refine ⟨⟨fun i hi => ?_, fun h2 => absurd h2 (by decide)⟩, h.2⟩
    rcases (by omega : i = 0 ∨ i = 1 ∨ i = 2 ∨ i = 3) with rfl | rfl | rfl | rfl
    · exact h.1.1
    · exact h.1.2.1
    · exact h.1.2.2.1
    · exact h.1.2.2.2
  · rintro ⟨⟨hq, _⟩, h⟩
    exact ⟨⟨hq 0 (by decide), hq 1 (by decide), hq 2 (by decide), hq 3 (by decide)⟩, h⟩
end
end Go.Eng
