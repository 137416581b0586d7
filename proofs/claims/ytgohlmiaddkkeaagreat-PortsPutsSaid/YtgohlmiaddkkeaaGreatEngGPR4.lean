/- Part of the proof of PortsPuts: plain laws of the printed mirrors. No conditions. -/
import Derived.Test.YtgohlmiaddkkeaaGreatEngGP1
import Derived.Test.YtgohlmiaddkkeaaGreatEngGR15
import Derived.Test.YtgohlmiaddkkeaaGreatEngGF1
set_option linter.unusedVariables false
set_option linter.unusedSectionVars false
set_option linter.unusedSimpArgs false
namespace Go.Eng
open Go Classical
attribute [local congr] ite_cg
section
variable {n : Api_Net}
noncomputable def putD (dev : Int) (l : List Api_Domain) (v : Int) : List Api_Domain := if 0 < v ∧ domIx l dev v < 0 then l ++ [⟨dev, v, 0, -1, 0, []⟩] else l
end
end Go.Eng

set_option linter.unusedVariables false
set_option linter.unusedSectionVars false
set_option linter.unusedSimpArgs false
namespace Go.Eng
open Go Classical
attribute [local congr] ite_cg
section
variable {n : Api_Net} {l : Api_Line}
theorem dev_twice {l : Api_Line} {ds : List Api_Device} (hf : Few ds) : slices_ContainsFunc_Device_Device_1 ds l = some (decide (0 ≤ fstI ds fun d => d.name = l.dev ∨ d.mac = l.mac)) := by
  first
  | (unfold slices_ContainsFunc_Device_Device_1 slices_IndexFunc_Device_Device_1
     rw [loop_first ds (fun d => d.name = l.dev ∨ d.mac = l.mac) hf (fun i h0 h1 h2 => by
       have hf' := hf
       have hw := wr64 (n := i + 1) (by omega) (by unfold Few at hf'; omega)
       simp only [slices_IndexFunc_Device_Device_1_L1, ports_Device_1, seqB_dec, h1, nth_getI h2, hw, decide_true, if_true, Option.bind_some]
       by_cases c1 : (getI ds i).name = l.dev <;> by_cases c2 : (getI ds i).mac = l.mac <;> simp [c1, c2]) (by simp [slices_IndexFunc_Device_Device_1_L1])]
     simp only [bind_ite, Option.bind_some, dif1, dif2, dif3, dif4, dif5, dif6, dif7, dnot, ibeq, ibne, decide_eq_true_eq, if_not2, ge_iff_le, gt_iff_lt, fst_ret, Bool.false_eq_true, decide_false])
  | (unfold slices_ContainsFunc_Device_Device_1 slices_IndexFunc_Device_Device_1x
     rw [loop_first ds (fun d => d.name = l.dev ∨ d.mac = l.mac) hf (fun i h0 h1 h2 => by
       have hf' := hf
       have hw := wr64 (n := i + 1) (by omega) (by unfold Few at hf'; omega)
       simp only [slices_IndexFunc_Device_Device_1x_L1, ports_Device_1, seqB_dec, h1, nth_getI h2, hw, decide_true, if_true, Option.bind_some]
       by_cases c1 : (getI ds i).name = l.dev <;> by_cases c2 : (getI ds i).mac = l.mac <;> simp [c1, c2]) (by simp [slices_IndexFunc_Device_Device_1x_L1])]
     simp only [bind_ite, Option.bind_some, dif1, dif2, dif3, dif4, dif5, dif6, dif7, dnot, ibeq, ibne, decide_eq_true_eq, if_not2, ge_iff_le, gt_iff_lt, fst_ret, Bool.false_eq_true, decide_false])
theorem dom_there {ds : List Api_Domain} (hf : Few ds) {a b : Int} : slices_ContainsFunc_Domain_draft_domain_1 ds a b = some (decide (0 ≤ domIx ds a b)) := by
  unfold slices_ContainsFunc_Domain_draft_domain_1 slices_IndexFunc_Domain_draft_domain_1
  rw [loop_first ds (fun d => d.dev = a ∧ d.vlan = b) hf (fun i h0 h1 h2 => by
    have hf' := hf
    have hw := wr64 (n := i + 1) (by omega) (by unfold Few at hf'; omega)
    simp only [slices_IndexFunc_Domain_draft_domain_1_L1, ports_draft_domain_1, h1, nth_getI h2, hw, decide_true, if_true, Option.bind_some]
    by_cases c1 : (getI ds i).dev = a <;> by_cases c2 : (getI ds i).vlan = b <;> simp [c1, c2]) (by simp [slices_IndexFunc_Domain_draft_domain_1_L1])]
  simp only [bind_ite, Option.bind_some, dif1, dif2, dif3, dif4, dif5, dif6, dif7, dnot, ibeq, ibne, decide_eq_true_eq, if_not2, ge_iff_le, gt_iff_lt, fst_ret, Bool.false_eq_true, decide_false]
  rfl
theorem put_spec {a1 : List Api_Device} {a2 : List Api_Port} {a3 : List Api_Link} {ds : List Api_Domain} {k m o : Nat} {a6 : List Api_Static} {a7 : List Api_Flood} {a9 : List Api_Vrf} {a11 : List Api_Irb} {dev v : Int} (hf : ds.length ≤ 1000) (hk : k = ds.length) :
    ports_draft_domain_own a1 a2 a3 ds k a6 a7 m a9 o a11 dev v = some (putD dev ds v, (putD dev ds v).length) := by
  unfold ports_draft_domain_own ports_draft_domain_own_J1
  rw [dom_there (by unfold Few; omega)]
  unfold putD
  by_cases c1 : 0 < v
  · rw [if_pos (decide_eq_true c1)]
    simp only [Option.bind_some]
    by_cases c2 : 0 ≤ domIx ds dev v
    · rw [if_neg (by simpa using c2), if_neg (by omega), hk]
    · have hc : 0 < v ∧ domIx ds dev v < 0 := ⟨c1, by omega⟩
      have hro : roomy 64 (ds ++ [(⟨dev, v, 0, -1, 0, []⟩ : Api_Domain)]) = true := roomy_few (by simp; omega)
      have hb : (!(decide (0 ≤ domIx ds dev v))) = true := by simpa using c2
      rw [if_pos hb, if_pos hro, if_pos hc]
  · rw [if_neg (by simpa using c1)]
    simp only [Option.bind_some]
    rw [if_neg (by simp), if_neg (fun h => c1 h.1), hk]
theorem putDs_len {dev : Int} : ∀ (vs : List Int) (ds : List Api_Domain), ds.length ≤ (vs.foldl (putD dev) ds).length ∧ (vs.foldl (putD dev) ds).length ≤ ds.length + vs.length := by
  intro vs
  induction vs with
  | nil => intro ds; exact ⟨Nat.le_refl _, Nat.le_refl _⟩
  | cons v vs ih =>
    intro ds
    have h1 := ih (putD dev ds v)
    have h2 : ds.length ≤ (putD dev ds v).length ∧ (putD dev ds v).length ≤ ds.length + 1 := by unfold putD; split <;> simp
    rw [List.foldl_cons, List.length_cons]
    omega
noncomputable def domsP (n : Api_Net) (l : Api_Line) : List Api_Domain := l.tagged.foldl (putD (devI n l.dev)) (putD (devI n l.dev) n.domains l.vlan)
noncomputable def portP (n : Api_Net) (l : Api_Line) : Api_Port := ⟨l.row, devI n l.dev, l.vlan, l.cost, -1, l.port, l.tagged⟩
end
end Go.Eng

set_option linter.unusedVariables false
set_option linter.unusedSectionVars false
set_option linter.unusedSimpArgs false
namespace Go.Eng
open Go Classical
attribute [local congr] ite_cg
def sizesL (l : Api_Line) : List Int := [(l.dev.size : Int), (l.port.size : Int), (l.peer.size : Int), (l.far.size : Int), (l.name.size : Int), (l.tagged.length : Int), (l.imports.length : Int), (l.exports.length : Int), (l.addrs.length : Int)]
theorem great12_in {l : Api_Line} {a : List Api_Line} {v4 v3 : Int} (h0 : 0 ≤ v3) (h1 : v3 ≤ 1000000) : ∃ r, loopM (fun s : Int × Int => match s with | (v24, v25) => palinglaw12_Great_L2 a v4 l l l l l l l l l v24 v25) (v3, 0) = some r ∧ ∀ s, r = .inr s → ∀ x ∈ sizesL l, x ≤ 300 := by
  have hpos : ∀ x ∈ sizesL l, 0 ≤ x := by intro x hx; simp [sizesL] at hx; omega
  have hlen : (sizesL l).length = 9 := rfl
  obtain ⟨r, e, h⟩ := loopM_rule (f := fun s : Int × Int => match s with | (v24, v25) => palinglaw12_Great_L2 a v4 l l l l l l l l l v24 v25)
    (fun s => 0 ≤ s.2 ∧ s.2 ≤ 9 ∧ 0 ≤ s.1 ∧ s.1 ≤ 1000000 + 300 * s.2 ∧ ∀ j : Int, 0 ≤ j → j < s.2 → getI (sizesL l) j ≤ 300) (fun r => ∀ s, r = .inr s → ∀ x ∈ sizesL l, x ≤ 300) (fun s => (9 - s.2).toNat) (s := (v3, 0)) (fun s hI => by
    obtain ⟨v, i⟩ := s
    obtain ⟨i0, i1, w0, w1, hall⟩ := hI
    simp only at i0 i1 w0 w1 hall
    by_cases c : i < 9
    · have hin : inL (sizesL l) i := ⟨i0, by rw [hlen]; exact c⟩
      have hp := hpos _ (getI_mem hin)
      have hn : nth (sizesL l) i = some (getI (sizesL l) i) := nth_getI hin
      have hlt : decide (i < ((sizesL l).length : Int)) = true := decide_eq_true (by rw [hlen]; exact c)
      have hw := wr64 (n := i + 1) (by omega) (by omega)
      by_cases c2 : getI (sizesL l) i > 300
      · refine ⟨.inr (.inl ()), ?_, fun s h => by cases h⟩
        show palinglaw12_Great_L2 a v4 l l l l l l l l l v i = _
        unfold palinglaw12_Great_L2
        show (if decide (i < ((sizesL l).length : Int)) = true then (nth (sizesL l) i).bind _ else _) = _
        rw [if_pos hlt, hn, Option.bind_some, if_pos (decide_eq_true c2)]
      · have hw2 := wr64 (n := v + getI (sizesL l) i) (by omega) (by omega)
        refine ⟨.inl (v + getI (sizesL l) i, i + 1), ?_, ⟨by simp only; omega, by simp only; omega, by simp only; omega, by simp only; omega, fun j j0 j1 => ?_⟩, by simp only; omega⟩
        · show palinglaw12_Great_L2 a v4 l l l l l l l l l v i = _
          unfold palinglaw12_Great_L2
          show (if decide (i < ((sizesL l).length : Int)) = true then (nth (sizesL l) i).bind _ else _) = _
          rw [if_pos hlt, hn, Option.bind_some, if_neg (by simpa using c2), hw, hw2]
        · simp only at j1
          by_cases e : j = i
          · rw [e]; omega
          · exact hall j j0 (by omega)
    · have hlt : ¬ decide (i < ((sizesL l).length : Int)) = true := by rw [hlen]; simpa using c
      refine ⟨.inr (.inr v), ?_, fun s _ x hx => ?_⟩
      · show palinglaw12_Great_L2 a v4 l l l l l l l l l v i = _
        unfold palinglaw12_Great_L2
        show (if decide (i < ((sizesL l).length : Int)) = true then (nth (sizesL l) i).bind _ else _) = _
        rw [if_neg hlt]
      · obtain ⟨j, hj, rfl⟩ := mem_getI hx
        have h2 := hj.2
        rw [hlen] at h2
        exact hall j hj.1 (by omega)) ⟨by simp, by simp, by simpa using h0, by simp; omega, fun j j0 j1 => by simp only at j1; omega⟩ (by simp only; omega)
  exact ⟨r, e, h⟩
theorem great12_spec {l : Api_Line} : ∃ b, palinglaw12_Great [l] = some b ∧ (b = false → ∀ x ∈ sizesL l, x ≤ 300) := by
  unfold palinglaw12_Great
  rw [if_neg (by simp)]
  have hin : inL [l] 0 := ⟨by omega, by simp⟩
  have hg : getI [l] 0 = l := rfl
  obtain ⟨r, e, h⟩ := great12_in (l := l) (a := [l]) (v4 := 0) (v3 := 0) (by omega) (by omega)
  have hs : (match ((0, 0) : Int × Int) with | (v3, v4) => palinglaw12_Great_L1 [l] v3 v4) = (match r with | Sum.inl () => some (.inr (.inl ())) | Sum.inr v31 => some (.inl (v31, 1))) := by
    show palinglaw12_Great_L1 [l] 0 0 = _
    unfold palinglaw12_Great_L1
    have hw : wr_i64 (0 + 1) = 1 := wr64 (by omega) (by omega)
    rw [if_pos (by simp)]
    simp only [nth_getI hin, hg, Option.bind_some, e, hw]
    rcases r with r | r <;> rfl
  rcases r with r | r
  · have := loopM_trace (f := fun s : Int × Int => match s with | (v3, v4) => palinglaw12_Great_L1 [l] v3 v4) (fun _ => ((0, 0) : Int × Int)) 0 (r := Sum.inl ()) (by omega) (fun i hi => by omega) hs
    rw [this]
    exact ⟨true, rfl, fun h => by cases h⟩
  · have := loopM_trace (f := fun s : Int × Int => match s with | (v3, v4) => palinglaw12_Great_L1 [l] v3 v4) (fun i => if i = 0 then ((0, 0) : Int × Int) else (r, 1)) 1 (r := Sum.inr r) (by omega) (fun i hi => by
      have : i = 0 := by omega
      subst this
      exact hs) (by
      show palinglaw12_Great_L1 [l] r 1 = _
      unfold palinglaw12_Great_L1
      rw [if_neg (by simp)])
    have e2 : loopM (fun s : Int × Int => match s with | (v3, v4) => palinglaw12_Great_L1 [l] v3 v4) (0, 0) = some (Sum.inr r) := this
    rw [e2]
    exact ⟨_, rfl, fun _ => h r rfl⟩
end Go.Eng

set_option linter.unusedVariables false
set_option linter.unusedSectionVars false
set_option linter.unusedSimpArgs false
namespace Go.Eng
open Go Classical
attribute [local congr] ite_cg
section
variable {n : Api_Net} {l : Api_Line}
theorem sm_dev (hs : SmN n) {x : Api_Device} (hn : n.devices.length ≤ 1000) : SmN { n with devices := n.devices ++ [x] } :=
  { hs with devices := (by unfold Few; simp; omega) }
theorem sm_port (hs : SmN n) {x : Api_Port} (hn : n.ports.length ≤ 1000) (hx : Few x.tagged) : SmN { n with ports := n.ports ++ [x] } :=
  { hs with ports := (by unfold Few; simp; omega), tagged := fun d hd => (by
      rcases List.mem_append.1 hd with h | h
      · exact hs.tagged d h
      · rw [List.mem_singleton] at h; rw [h]; exact hx) }
theorem sm_doms {dev : Int} : ∀ (vs : List Int) (n : Api_Net), SmN n → (vs.foldl (putD dev) n.domains).length ≤ 1000 → SmN { n with domains := vs.foldl (putD dev) n.domains } := by
  intro vs n hs hc
  refine { hs with domains := (by unfold Few; simp only; omega), peers := ?_ }
  have : ∀ (vs : List Int) (ds : List Api_Domain), (∀ d ∈ ds, Few d.peers) → ∀ d ∈ vs.foldl (putD dev) ds, Few d.peers := by
    intro vs
    induction vs with
    | nil => intro ds h; exact h
    | cons x vs ih =>
      intro ds h
      refine ih _ fun d hd => ?_
      unfold putD at hd
      split at hd
      · rcases List.mem_append.1 hd with hd | hd
        · exact h d hd
        · rw [List.mem_singleton] at hd; rw [hd]; exact few_nil
      · exact h d hd
  exact this vs n.domains hs.peers
end
end Go.Eng

set_option linter.unusedVariables false
set_option linter.unusedSectionVars false
set_option linter.unusedSimpArgs false
namespace Go.Eng
open Go Classical
attribute [local congr] ite_cg
variable {n : Api_Net}

end Go.Eng

set_option linter.unusedVariables false
set_option linter.unusedSectionVars false
set_option linter.unusedSimpArgs false
namespace Go.Eng
open Go Classical
attribute [local congr] ite_cg
section
variable {n : Api_Net}
end
end Go.Eng

set_option linter.unusedVariables false
set_option linter.unusedSectionVars false
set_option linter.unusedSimpArgs false
namespace Go.Eng
open Go Classical
attribute [local congr] ite_cg
section
variable {n : Api_Net}
end
end Go.Eng

set_option linter.unusedVariables false
set_option linter.unusedSectionVars false
set_option linter.unusedSimpArgs false
namespace Go.Eng
open Go Classical

def LeL (l' l : List Int) : Prop := l'.length = l.length ∧ ∀ x, inL l x → getI l' x ≤ getI l x
theorem LeL.refl (l : List Int) : LeL l l := ⟨rfl, fun _ _ => Int.le_refl _⟩
theorem LeL.trans {a b c : List Int} (h : LeL a b) (g : LeL b c) : LeL a c :=
  ⟨h.1.trans g.1, fun x hx => Int.le_trans (h.2 x (by unfold inL at *; rw [g.1]; exact hx)) (g.2 x hx)⟩
theorem LeL.inL {a b : List Int} (h : LeL a b) {x : Int} : inL a x ↔ inL b x := by unfold Go.Eng.inL; rw [h.1]

structure Lbs (E : Int → Int → Prop) (N : Nat) (l : List Int) : Prop where
  len : l.length = N
  conn : ∀ x, inL l x → Conn E x (getI l x)
  rng : ∀ x, inL l x → inL l (getI l x)
section
variable {E : Int → Int → Prop} {N : Nat} {next : Int → List Int}
end
end Go.Eng

set_option linter.unusedVariables false
set_option linter.unusedSectionVars false
set_option linter.unusedSimpArgs false
namespace Go.Eng
open Go Classical
attribute [local congr] ite_cg
section
variable {n : Api_Net}
end
end Go.Eng

set_option linter.unusedVariables false
set_option linter.unusedSectionVars false
set_option linter.unusedSimpArgs false
namespace Go.Eng
open Go Classical
attribute [local congr] ite_cg
variable {n : Api_Net}

end Go.Eng

set_option linter.unusedVariables false
set_option linter.unusedSectionVars false
set_option linter.unusedSimpArgs false
namespace Go.Eng
open Go Classical
attribute [local congr] ite_cg
section
variable {n : Api_Net}
end
end Go.Eng

set_option linter.unusedVariables false
set_option linter.unusedSectionVars false
set_option linter.unusedSimpArgs false
namespace Go.Eng
open Go Classical

section
variable {a b : List Int} {N part : Int}
end

/-! ### How many roots -/
end Go.Eng

set_option linter.unusedVariables false
set_option linter.unusedSectionVars false
set_option linter.unusedSimpArgs false
namespace Go.Eng
open Go Classical
attribute [local congr] ite_cg

section
variable {f : List Int} {T : Int → Int}
end

section
variable {E : Int → Int → Prop} {N : Nat} {f : List Int}
end

section
variable {n : Api_Net}
end
end Go.Eng

set_option linter.unusedVariables false
set_option linter.unusedSectionVars false
set_option linter.unusedSimpArgs false
namespace Go.Eng
open Go Classical
attribute [local congr] ite_cg

section
variable {n : Api_Net}
theorem rDevice_spec (hs : SmN n) {s : ByteArray} : palingref15_Device n s = some (devI n s) := by
  unfold palingref15_Device
  rw [loop_first n.devices (fun d => d.name = s) hs.devices (fun i h0 h1 h2 => by
    have := hs.devices
    simp (disch := omega) only [palingref15_Device_L1, seqB_dec, h1, nth_getI h2, wr64, bind_ite, Option.bind_some, dif1, dif2, dif3, dif4, dif5, dif6, dif7, dnot, ibeq, ibne, decide_eq_true_eq, if_not2, ge_iff_le, gt_iff_lt, fst_ret, Bool.false_eq_true, decide_false, decide_true, if_true]; split <;> rfl) (by simp [palingref15_Device_L1])]
  simp only [bind_ite, Option.bind_some, dif1, dif2, dif3, dif4, dif5, dif6, dif7, dnot, ibeq, ibne, decide_eq_true_eq, if_not2, ge_iff_le, gt_iff_lt, fst_ret, Bool.false_eq_true, decide_false]
  rfl
theorem rPort_spec (hs : SmN n) {d : Int} {s : ByteArray} : palingref15_Port n d s = some (portI n d s) := by
  unfold palingref15_Port
  rw [loop_first n.ports (fun p => p.dev = d ∧ p.name = s) hs.ports (fun i h0 h1 h2 => by
    have := hs.ports
    simp (disch := omega) only [palingref15_Port_L1, seqB_dec, h1, nth_getI h2, wr64, bind_ite, Option.bind_some, dif1, dif2, dif3, dif4, dif5, dif6, dif7, dnot, ibeq, ibne, decide_eq_true_eq, if_not2, ge_iff_le, gt_iff_lt, fst_ret, Bool.false_eq_true, decide_false, mrg1, mrg2, mrg3, mrg4, mrg5, mrg6, mrg7, decide_true, if_true]; first | exact fpos Iff.rfl | (split <;> rfl)) (by simp [palingref15_Port_L1])]
  simp only [bind_ite, Option.bind_some, dif1, dif2, dif3, dif4, dif5, dif6, dif7, dnot, ibeq, ibne, decide_eq_true_eq, if_not2, ge_iff_le, gt_iff_lt, fst_ret, Bool.false_eq_true, decide_false]
  rfl
end
end Go.Eng
