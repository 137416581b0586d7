/- Chapter 11: lines' words, on both sides. -/
import Derived.Test.YtcclngfmkodgjaaGreatEngY1
set_option linter.unusedVariables false
set_option linter.unusedSectionVars false
set_option linter.unusedSimpArgs false
namespace Go.Eng
open Go Classical
attribute [local congr] ite_cg
structure Gs where
  s : Sc
  T : List Int
  I : List Int
  E : List Int
  A : List Int
abbrev OutT := (List Int) × (List Int) × (List Int) × (List Int) × ByteArray × ByteArray × ByteArray × ByteArray × ByteArray × Int × Int × Int × Int × Int × Int × Int
def tupG (g : Gs) (nm i : Int) : (List Int) × (List Int) × (List Int) × ByteArray × ByteArray × ByteArray × ByteArray × ByteArray × Int × Int × Int × Int × Int × Int × Int × Int × (List Int) :=
  (g.T, g.E, g.A, g.s.dev, g.s.port, g.s.peer, g.s.far, g.s.name, g.s.mac, g.s.addr, g.s.bits, g.s.vlan, g.s.num, g.s.cost, nm, i, g.I)
def outG (g : Gs) (e : Int) : OutT := (g.T, g.I, g.E, g.A, g.s.dev, g.s.port, g.s.peer, g.s.far, g.s.name, g.s.mac, g.s.addr, g.s.bits, g.s.vlan, g.s.num, g.s.cost, e)
def wdG (c : Int) (x : ByteArray) (nm row kd : Int) (g : Gs) : Option OutT :=
  (palingref11_word_own c x nm row kd g.s.dev g.s.port g.s.peer g.s.far g.s.name g.s.mac g.s.addr g.s.bits g.s.vlan g.s.num g.s.cost g.T g.I g.E g.A).bind fun r52 => match r52 with
    | Sum.inl (v54, v55, v56, v57, v58, v59, v60, v61, v62, v63, v64, v65) => some (g.T, g.I, g.E, g.A, v54, v55, v56, v57, v58, v59, v60, v61, v62, v63, v64, v65)
    | Sum.inr (Sum.inl (l66, v67)) => some (l66, g.I, g.E, g.A, g.s.dev, g.s.port, g.s.peer, g.s.far, g.s.name, g.s.mac, g.s.addr, g.s.bits, g.s.vlan, g.s.num, g.s.cost, v67)
    | Sum.inr (Sum.inr (Sum.inl (l68, v69))) => some (g.T, g.I, g.E, l68, g.s.dev, g.s.port, g.s.peer, g.s.far, g.s.name, g.s.mac, g.s.addr, g.s.bits, g.s.vlan, g.s.num, g.s.cost, v69)
    | Sum.inr (Sum.inr (Sum.inr (l70, v71))) => some (g.T, g.E, l70, g.A, g.s.dev, g.s.port, g.s.peer, g.s.far, g.s.name, g.s.mac, g.s.addr, g.s.bits, g.s.vlan, g.s.num, g.s.cost, v71)
def WG (c : Int) (x : ByteArray) (nm row kd : Int) (g g1 : Gs) (C : Prop) : Prop :=
  (C → wdG c x nm row kd g = some (outG g1 0)) ∧ (¬ C → ∃ g2 e, e ≠ 0 ∧ wdG c x nm row kd g = some (outG g2 e))
section
variable {ws : List ByteArray} {row kd : Int} {fm : ByteArray}
theorem stepG {g g1 : Gs} {nm c : Int} {i : Nat} {x : ByteArray} {C : Prop} (hi : i < fm.size) (hf : fm.size ≤ 100) (hx : nth ws ((i : Int) + 1) = some x) (hc : byteAt fm (i : Int) = c) (hw : WG c x nm row kd g g1 C) (hn : 0 ≤ nm ∧ nm ≤ 100) :
    (C → fS ws row fm kd (tupG g nm (i : Int)) = some (.inl (tupG g1 (if c = 78 then nm + 1 else nm) ((i + 1 : Nat) : Int)))) ∧ (¬ C → ∃ e : Int, e ≠ 0 ∧ fS ws row fm kd (tupG g nm (i : Int)) = some (.inr (.inl e))) := by
  have hb : decide (0 ≤ (i : Int) ∧ (i : Int) < (fm.size : Int)) = true := decide_eq_true ⟨by omega, by omega⟩
  have w1 : wr_i64 ((i : Int) + 1) = (i : Int) + 1 := wr64 (by omega) (by omega)
  have w2 : wr_i64 (nm + 1) = nm + 1 := wr64 (by omega) (by omega)
  have hJ : palingref11_Read_J4 ws row fm kd g.T g.E g.A g.s.dev g.s.port g.s.peer g.s.far g.s.name g.s.mac g.s.addr g.s.bits g.s.vlan g.s.num g.s.cost nm (i : Int) g.I = wdG c x nm row kd g := by
    unfold palingref11_Read_J4
    rw [if_pos hb, w1, hx, Option.bind_some, hc]
    rfl
  have key : ∀ g2 e, wdG c x nm row kd g = some (outG g2 e) → fS ws row fm kd (tupG g nm (i : Int)) = some (if e = 0 then .inl (tupG g2 (if c = 78 then nm + 1 else nm) ((i + 1 : Nat) : Int)) else .inr (.inl e)) := fun g2 e h => by
    show palingref11_Read_L3 ws row fm kd g.T g.E g.A g.s.dev g.s.port g.s.peer g.s.far g.s.name g.s.mac g.s.addr g.s.bits g.s.vlan g.s.num g.s.cost nm (i : Int) g.I = _
    unfold palingref11_Read_L3
    rw [if_pos (decide_eq_true (by omega)), hJ, h]
    simp only [Option.bind_some, outG]
    by_cases he : e = 0
    · rw [if_neg (by simp [he]), if_pos hb, if_pos he, w1, w2, hc]
      by_cases h78 : c = 78
      · rw [if_pos (by simp [h78]), if_pos h78]; rfl
      · rw [if_neg (by simpa using h78), if_neg h78]; rfl
    · rw [if_pos (by simpa using he), if_neg he]
  refine ⟨fun h => ?_, fun h => ?_⟩
  · have := key g1 0 (hw.1 h)
    rwa [if_pos rfl] at this
  · obtain ⟨g2, e, he, h2⟩ := hw.2 h
    have := key g2 e h2
    rw [if_neg he] at this
    exact ⟨e, he, this⟩
def lineG (row kd : Int) (g : Gs) : Api_Line := ⟨row, kd, g.s.dev, g.s.port, g.s.peer, g.s.far, g.s.name, g.s.mac, g.s.addr, g.s.bits, g.s.vlan, g.s.num, g.s.cost, g.T, g.I, g.E, g.A⟩
abbrev RdT := (List Int) × (List Int) × (List Int) × (List Int) × Int × Int × ByteArray × ByteArray × ByteArray × ByteArray × ByteArray × Int × Int × Int × Int × Int × Int × Int
def okT (l : Api_Line) : RdT := (l.tagged, l.imports, l.exports, l.addrs, l.row, l.kind, l.dev, l.port, l.peer, l.far, l.name, l.mac, l.addr, l.bits, l.vlan, l.num, l.cost, 0)
def badT (e : Int) : RdT := ([], [], [], [], 0, 0, nilS, nilS, nilS, nilS, nilS, 0, 0, 0, 0, 0, 0, e)
def MemQ (l : Api_Line) : Prop := l.vlan ∉ l.tagged ∧ (0 < l.vlan ∨ 0 < l.tagged.length)
theorem yMembers_spec {l : Api_Line} (ht : Few l.tagged) : palingref11_members l = some (decide (MemQ l)) := by
  unfold palingref11_members MemQ
  rw [loop_each (f := palingref11_members_L1 l) l.tagged (fun _ x => ¬ x = l.vlan) (.inl () : Unit ⊕ Unit) (.inr ()) ht (fun i h0 h1 h2 => by
    have ht' := ht
    have hw := wr64 (n := i + 1) (by omega) (by unfold Few at ht'; omega)
    simp only [palingref11_members_L1, h1, nth_getI h2, hw, decide_true, if_true, Option.bind_some]
    by_cases c : getI l.tagged i = l.vlan <;> simp [c]) (by simp [palingref11_members_L1])]
  by_cases c : l.vlan ∈ l.tagged
  · obtain ⟨i, hi, e⟩ := mem_getI c
    rw [if_neg (fun h => h i hi e)]
    simp [c]
  · rw [if_pos (show EachP l.tagged (fun _ x => ¬ x = l.vlan) from fun i hi e => c (by have := getI_mem hi; rw [e] at this; exact this))]
    by_cases d : l.vlan > 0
    · have d' : 0 < l.vlan := d
      simp [c, d']
    · have d' : ¬ 0 < l.vlan := d
      simp [c, d']
theorem readG {w : ByteArray} {wt : List ByteArray} (hform : palingref11_form (w :: wt) = some fm) (hne : fm ≠ ⟨#[]⟩) (hlen : ((w :: wt).length : Int) = wr_i64 ((fm.size : Int) + 1)) (hkd : palingref11_kind w = some kd) (hf : fm.size ≤ 100) (S : Nat → Gs) (N : Nat → Int) (C : Nat → Prop) (hS : S 0 = ⟨⟨nilS, nilS, nilS, nilS, nilS, 0, 0, 0, 0, 0, 0⟩, [], [], [], []⟩) (hN : N 0 = 0)
    (h : ∀ i, i < fm.size → (C i → fS (w :: wt) row fm kd (tupG (S i) (N i) (i : Int)) = some (.inl (tupG (S (i + 1)) (N (i + 1)) ((i + 1 : Nat) : Int)))) ∧ (¬ C i → ∃ e : Int, e ≠ 0 ∧ fS (w :: wt) row fm kd (tupG (S i) (N i) (i : Int)) = some (.inr (.inl e)))) (hT : Few (S fm.size).T) :
    (((∀ i, i < fm.size → C i) ∧ (kd = 2 → MemQ (lineG row kd (S fm.size)))) → palingref11_Read (w :: wt) row = some (okT (lineG row kd (S fm.size)))) ∧
    (¬ ((∀ i, i < fm.size → C i) ∧ (kd = 2 → MemQ (lineG row kd (S fm.size)))) → ∃ e : Int, e ≠ 0 ∧ palingref11_Read (w :: wt) row = some (badT e)) := by
  have hJ : palingref11_Read_J1 (w :: wt) row fm = some (.inl fm) := by
    unfold palingref11_Read_J1 palingref11_Read_J2
    rw [seqB_dec, if_neg (by simpa using hne), Option.bind_some, if_neg (by simpa using hlen)]
  have hx : nth (w :: wt) 0 = some w := rfl
  have hst : tupG (S 0) (N 0) ((0 : Nat) : Int) = ([], [], [], nilS, nilS, nilS, nilS, nilS, 0, 0, 0, 0, 0, 0, 0, 0, []) := by rw [hS, hN]; rfl
  by_cases hall : ∀ i, i < fm.size → C i
  · have e := loopM_trace (f := fS (w :: wt) row fm kd) (r := Sum.inr ((S fm.size).T, (S fm.size).I, (S fm.size).E, (S fm.size).A, (S fm.size).s.dev, (S fm.size).s.port, (S fm.size).s.peer, (S fm.size).s.far, (S fm.size).s.name, (S fm.size).s.mac, (S fm.size).s.addr, (S fm.size).s.bits, (S fm.size).s.vlan, (S fm.size).s.num, (S fm.size).s.cost)) (fun i => tupG (S i) (N i) (i : Int)) fm.size (by omega) (fun i hi => (h i hi).1 (hall i hi)) (by
      show palingref11_Read_L3 (w :: wt) row fm kd _ _ _ _ _ _ _ _ _ _ _ _ _ _ _ (fm.size : Int) _ = _
      unfold palingref11_Read_L3
      rw [if_neg (by simp)])
    rw [hst] at e
    have hr : palingref11_Read (w :: wt) row = if kd = 2 ∧ ¬ MemQ (lineG row kd (S fm.size)) then some (badT 21) else some (okT (lineG row kd (S fm.size))) := by
      unfold palingref11_Read
      rw [hform, Option.bind_some, hJ, Option.bind_some]
      simp only
      rw [hx, Option.bind_some, hkd, Option.bind_some, e, Option.bind_some]
      simp only
      by_cases k2 : kd = 2
      · rw [if_pos (by simpa using k2)]
        have hm := yMembers_spec (l := lineG row kd (S fm.size)) hT
        unfold lineG at hm ⊢
        rw [hm, Option.bind_some]
        by_cases c : MemQ (⟨row, kd, (S fm.size).s.dev, (S fm.size).s.port, (S fm.size).s.peer, (S fm.size).s.far, (S fm.size).s.name, (S fm.size).s.mac, (S fm.size).s.addr, (S fm.size).s.bits, (S fm.size).s.vlan, (S fm.size).s.num, (S fm.size).s.cost, (S fm.size).T, (S fm.size).I, (S fm.size).E, (S fm.size).A⟩ : Api_Line)
        · rw [if_neg (by simpa using c), if_neg (fun h => h.2 c)]; rfl
        · rw [if_pos (by simpa using c), if_pos ⟨k2, c⟩]; rfl
      · rw [if_neg (by simpa using k2), if_neg (fun h => k2 h.1)]; rfl
    refine ⟨fun hq => ?_, fun hq => ⟨21, by decide, ?_⟩⟩
    · rw [hr, if_neg (fun h => h.2 (hq.2 h.1))]
    · rw [hr, if_pos]
      by_cases k2 : kd = 2
      · exact ⟨k2, fun hm => hq ⟨hall, fun _ => hm⟩⟩
      · exact absurd ⟨hall, fun k => absurd k k2⟩ hq
  · obtain ⟨k, hk, hbad, hlt⟩ := first_bad fm.size hall
    obtain ⟨e, he, hs⟩ := (h k hk).2 hbad
    have e1 := loopM_trace (f := fS (w :: wt) row fm kd) (r := Sum.inl e) (fun i => tupG (S i) (N i) (i : Int)) k (by omega) (fun i hi => (h i (by omega)).1 (hlt i hi)) hs
    rw [hst] at e1
    refine ⟨fun hq => absurd hq.1 hall, fun _ => ⟨e, he, ?_⟩⟩
    unfold palingref11_Read
    rw [hform, Option.bind_some, hJ, Option.bind_some]
    simp only
    rw [hx, Option.bind_some, hkd, Option.bind_some, e1, Option.bind_some]
    rfl
end
theorem rRightG {l : Api_Line} {LP : Prop} (hlen : LP → l.tagged.length ≤ 16 ∧ l.imports.length ≤ 16 ∧ l.exports.length ≤ 16 ∧ l.addrs.length ≤ 16)
    (h : l.tagged.length ≤ 16 → l.imports.length ≤ 16 → l.exports.length ≤ 16 → l.addrs.length ≤ 16 → ∃ ws, palingref11_Words l = some ws ∧ (∃ Q l1, (Q → palingref11_Read ws l.row = some (okT l1)) ∧ (¬ Q → ∃ e : Int, e ≠ 0 ∧ palingref11_Read ws l.row = some (badT e)) ∧ (LP ↔ Q ∧ l = l1))) : palingref11_Right l = some (decide LP) := by
  unfold palingref11_Right
  by_cases t1 : l.tagged.length ≤ 16
  case neg => rw [if_pos (by simp; omega), decide_eq_false (fun h => t1 (hlen h).1)]
  by_cases t2 : l.imports.length ≤ 16
  case neg => rw [if_neg (by simp; omega), if_pos (by simp; omega), decide_eq_false (fun h => t2 (hlen h).2.1)]
  by_cases t3 : l.exports.length ≤ 16
  case neg => rw [if_neg (by simp; omega), if_neg (by simp; omega), if_pos (by simp; omega), decide_eq_false (fun h => t3 (hlen h).2.2.1)]
  by_cases t4 : l.addrs.length ≤ 16
  case neg => rw [if_neg (by simp; omega), if_neg (by simp; omega), if_neg (by simp; omega), if_pos (by simp; omega), decide_eq_false (fun h => t4 (hlen h).2.2.2)]
  rw [if_neg (by simp; omega), if_neg (by simp; omega), if_neg (by simp; omega), if_neg (by simp; omega)]
  obtain ⟨ws, hW, Q, l1, q1, q2, hLP⟩ := h t1 t2 t3 t4
  rw [hW, Option.bind_some]
  simp only
  by_cases c : Q
  · rw [q1 c, Option.bind_some]
    unfold okT
    simp only
    rw [if_pos (by rfl)]
    have hs := rSameL_spec (a := l) (b := l1) (by unfold Few; omega) (by unfold Few; omega) (by unfold Few; omega) (by unfold Few; omega)
    have : (⟨l1.row, l1.kind, l1.dev, l1.port, l1.peer, l1.far, l1.name, l1.mac, l1.addr, l1.bits, l1.vlan, l1.num, l1.cost, l1.tagged, l1.imports, l1.exports, l1.addrs⟩ : Api_Line) = l1 := rfl
    rw [this, hs, Option.bind_some]
    exact sdec ⟨fun h => hLP.2 ⟨c, h⟩, fun h => (hLP.1 h).2⟩
  · obtain ⟨e, he, hq⟩ := q2 c
    rw [hq, Option.bind_some]
    unfold badT
    simp only
    rw [if_neg (by simpa using he), decide_eq_false (fun h => c (hLP.1 h).1)]
theorem sRightG {l b : Api_Line} {Q LP : Prop} (hLP : LP ↔ ((NameP l.dev ∧ Q) ∧ l = b)) (hu : stmt_used l = some (b, decide Q)) (f1 : Few b.tagged) (f2 : Few b.imports) (f3 : Few b.exports) (f4 : Few b.addrs) (hd : l.dev.size ≤ 1000000) : stmt_Right l = some (decide LP) := by
  unfold stmt_Right
  rw [hu, Option.bind_some]
  simp only
  by_cases c : Q
  · rw [if_pos (decide_eq_true c), num_Name_spec hd, Option.bind_some]
    by_cases c2 : NameP l.dev
    · rw [if_pos (decide_eq_true c2), sSameL_spec f1 f2 f3 f4, Option.bind_some]
      exact sdec ⟨fun h => hLP.2 ⟨⟨c2, c⟩, h.symm⟩, fun h => (hLP.1 h).2.symm⟩
    · rw [if_neg (by simpa using c2), decide_eq_false (fun h => c2 (hLP.1 h).1.1)]
  · rw [if_neg (by simpa using c), decide_eq_false (fun h => c (hLP.1 h).1.2)]
/-! ### Words -/
section
variable {x : ByteArray} {nm row kd n : Int} {g : Gs}
theorem wg_of {c : Int} {g1 g2 : Gs} {C : Prop} (h : wdG c x nm row kd g = some (if C then outG g1 0 else outG g2 21)) : WG c x nm row kd g g1 C :=
  ⟨fun hc => by rw [h, if_pos hc], fun hc => ⟨g2, 21, by decide, by rw [h, if_neg hc]⟩⟩
theorem wgN0 (hx : x.size ≤ 1000000) : WG 78 x 0 row kd g { g with s := { g.s with dev := x } } (NameP x) := by
  refine ⟨fun h => ?_, fun h => ⟨g, 20, by decide, ?_⟩⟩
  · unfold wdG; rw [wordN hx, if_pos h]; rfl
  · unfold wdG; rw [wordN hx, if_neg h]; rfl
theorem wgV (n1 : -9223372036854775808 ≤ n) (n2 : n < 9223372036854775808) : WG 86 (textI n) nm row kd g { g with s := { g.s with vlan := n } } (1 ≤ n ∧ n ≤ 4094) := by
  refine wg_of (g2 := { g with s := { g.s with vlan := 0 } }) ?_
  unfold wdG palingref11_word_own
  rw [if_neg (by decide), if_neg (by decide), if_neg (by decide), if_neg (by decide), if_neg (by decide), if_pos (by decide), rRead_text n1 n2 (by decide) (by decide), Option.bind_some]
  by_cases h : 1 ≤ n ∧ n ≤ 4094
  · simp [h, outG]
  · simp [h, outG]
theorem text_ne (n1 : -9223372036854775808 ≤ n) (n2 : n < 9223372036854775808) : textI n ≠ ⟨#[45]⟩ := by
  rw [textI_L, show (⟨#[45]⟩ : ByteArray) = bstr [45] by rfl]
  intro h
  have hl := textL_len n1 n2
  have hs := congrArg ByteArray.size h
  rw [bstr_size, bstr_size] at hs
  have hb : ∀ x ∈ textL n, 0 ≤ x ∧ x < 256 := fun x hx => by have := textL_c x hx; omega
  have i0 : inL (textL n) 0 := ⟨by omega, by omega⟩
  have e1 := byteAt_bstr hb i0
  have e2 : byteAt (bstr [45]) 0 = 45 := by decide
  rw [h, e2] at e1
  refine textL_hd n1 n2 ?_
  obtain ⟨a, ha⟩ := List.length_eq_one_iff.1 hs
  rw [ha] at e1 ⊢
  have : getI [a] 0 = a := rfl
  rw [this] at e1; rw [← e1]
theorem com_ne {l : List Int} (h0 : l ≠ []) (hl : l.length ≤ 16) (ho : ∀ x ∈ l, -9223372036854775808 ≤ x ∧ x < 9223372036854775808) : bstr (joinL (l.map textL)) ≠ ⟨#[45]⟩ := by
  intro h
  have hs := congrArg ByteArray.size h
  rw [bstr_size] at hs
  have hs' : (joinL (l.map textL)).length = 1 := hs
  match l, h0 with
  | [a], _ =>
    have hx := ho a (by simp)
    exact text_ne hx.1 hx.2 (by rw [textI_L]; exact h)
  | a :: b :: r, _ =>
    have hx := ho a (by simp)
    have h1 := textL_len hx.1 hx.2
    have e : joinL ((a :: b :: r).map textL) = textL a ++ 44 :: joinL ((b :: r).map textL) := rfl
    rw [e, List.length_append, List.length_cons] at hs'
    have hl1 : (joinL ((b :: r).map textL)).length = 0 := by omega
    have hl2 : (textL a).length = 0 := by omega
    omega
end
end Go.Eng
