/- Plain laws of names: texts that are names; devices and ports by their names. -/
import Derived.Test.YtlinloabahbioaaEngPE
import Derived.Test.YtlinloabahbioaaEngF2
import Derived.Test.YtlinloabahbioaaEngP15
import Derived.Test.YtlinloabahbioaaEngP15d
set_option linter.unusedVariables false
set_option linter.unusedSectionVars false
set_option linter.unusedSimpArgs false
namespace Go.Eng
open Go Classical
attribute [local congr] ite_cg

/-- An index runs up to a number as long as all is well. -/
theorem loop_upto {ρ : Type} {f : Int → Option (Int ⊕ ρ)} (N : Nat) (P : Int → Prop) (a b : ρ) (hb : N ≤ 1000000)
    (h1 : ∀ i : Int, 0 ≤ i → i < N → f i = some (if P i then .inl (i + 1) else .inr a)) (h2 : f N = some (.inr b)) :
    loopM f 0 = if ∀ i : Int, 0 ≤ i → i < N → P i then some b else some a := by
  rw [loop_each (mkL N fun x => x) (fun i _ => P i) a b (by unfold Few; rw [mkL_len]; exact hb) (fun i i0 i1 _ => h1 i i0 (by rw [mkL_len] at i1; exact i1)) (by rw [mkL_len]; exact h2)]
  have : EachP (mkL N fun x => x) (fun i _ => P i) ↔ ∀ i : Int, 0 ≤ i → i < N → P i :=
    ⟨fun h i a b => h i (mkL_inL.2 ⟨a, b⟩), fun h i hi => h i hi.1 (mkL_inL.1 hi).2⟩
  simp only [this]

def LetterP (c : Int) : Prop := 97 ≤ c ∧ c ≤ 122
def DigitP (c : Int) : Prop := 48 ≤ c ∧ c ≤ 57
/-- A text that is a name. -/
def NameP (s : ByteArray) : Prop := (∀ i : Int, 0 ≤ i → i < s.size → LetterP (byteAt s i) ∨ (DigitP (byteAt s i) ∧ i ≠ 0)) ∧ 0 < s.size ∧ s.size ≤ 12
theorem num_Name_spec {s : ByteArray} (hs : s.size ≤ 1000000) : num_Name s = some (decide (NameP s)) := by
  unfold num_Name
  rw [loop_upto (f := num_Name_L1 s) s.size (fun i => LetterP (byteAt s i) ∨ (DigitP (byteAt s i) ∧ i ≠ 0)) (.inl ()) (.inr ()) hs (fun i i0 i1 => by
    have hw := wr64 (n := i + 1) (by omega) (by omega)
    have hin : decide (0 ≤ (i : Int) ∧ (i : Int) < (s.size : Int)) = true := decide_eq_true ⟨i0, i1⟩
    simp only [num_Name_L1, i1, hin, hw, decide_true, if_true, bind_ite, Option.bind_some, dif1, dif2, dif3, dif4, dif5, dif6, dif7, dnot, ibeq, ibne, decide_eq_true_eq, if_not2, ge_iff_le, gt_iff_lt, fst_ret, Bool.false_eq_true, decide_false]
    unfold LetterP DigitP
    generalize byteAt s i = c
    by_cases c1 : 97 ≤ c <;> by_cases c2 : 48 ≤ c <;> by_cases c3 : c ≤ 122 <;> by_cases c4 : c ≤ 57 <;> by_cases c5 : i = 0 <;> simp [c1, c2, c3, c4, c5] <;> omega) (by simp [num_Name_L1])]
  have hN : NameP s ↔ (∀ i : Int, 0 ≤ i → i < s.size → LetterP (byteAt s i) ∨ (DigitP (byteAt s i) ∧ i ≠ 0)) ∧ 0 < s.size ∧ s.size ≤ 12 := Iff.rfl
  generalize NameP s = A at *
  by_cases h : ∀ i : Int, 0 ≤ i → i < s.size → LetterP (byteAt s i) ∨ (DigitP (byteAt s i) ∧ i ≠ 0)
  · rw [if_pos h]
    simp only [Option.bind_some]
    by_cases h2 : 0 < s.size
    · have h3 : (s.size : Int) > 0 := by omega
      by_cases h4 : s.size ≤ 12
      · have h5 : (s.size : Int) ≤ 12 := by omega
        simp only [h3, h5, hN.2 ⟨h, h2, h4⟩, decide_true, if_true]
      · have h5 : ¬ (s.size : Int) ≤ 12 := by omega
        have : ¬ A := fun q => h4 (hN.1 q).2.2
        simp only [h3, h5, this, decide_true, decide_false, if_true]
    · have h3 : ¬ (s.size : Int) > 0 := by omega
      have : ¬ A := fun q => h2 (hN.1 q).2.1
      simp only [h3, this, decide_false, Bool.false_eq_true, if_false]
  · have : ¬ A := fun q => h (hN.1 q).1
    rw [if_neg h]
    simp [this]

section
variable {n : Api_Net}
noncomputable def devI (n : Api_Net) (s : ByteArray) : Int := fstI n.devices fun d => d.name = s
noncomputable def portI (n : Api_Net) (d : Int) (s : ByteArray) : Int := fstI n.ports fun p => p.dev = d ∧ p.name = s
theorem seqB_comm_dec {x y : ByteArray} : seqB x y = decide (x = y) := seqB_dec
theorem names_Device_spec (hs : SmN n) {s : ByteArray} : names_Device n s = some (if RightP n then devI n s else -1) := by
  first
  | (simp only [names_Device, names_find_Device_Device_1, names_Right_spec hs, slices_IndexFunc_Device_Device_1]
     rw [loop_first n.devices (fun d => d.name = s) hs.devices (fun i h0 h1 h2 => by
       have := hs.devices
       simp (disch := omega) only [slices_IndexFunc_Device_Device_1_L1, names_Device_1, seqB_dec, h1, nth_getI h2, wr64, bind_ite, Option.bind_some, dif1, dif2, dif3, dif4, dif5, dif6, dif7, dnot, ibeq, ibne, decide_eq_true_eq, if_not2, ge_iff_le, gt_iff_lt, fst_ret, Bool.false_eq_true, decide_false, decide_true, if_true]; split <;> rfl) (by simp [slices_IndexFunc_Device_Device_1_L1])]
     simp only [bind_ite, Option.bind_some, dif1, dif2, dif3, dif4, dif5, dif6, dif7, dnot, ibeq, ibne, decide_eq_true_eq, if_not2, ge_iff_le, gt_iff_lt, fst_ret, Bool.false_eq_true, decide_false]
     split <;> rfl)
  | (simp only [names_Device, names_find_Device_Device_1, names_Right_spec hs, slices_IndexFunc_Device_Device_1x]
     rw [loop_first n.devices (fun d => d.name = s) hs.devices (fun i h0 h1 h2 => by
       have := hs.devices
       simp (disch := omega) only [slices_IndexFunc_Device_Device_1x_L1, names_Device_1, seqB_dec, h1, nth_getI h2, wr64, bind_ite, Option.bind_some, dif1, dif2, dif3, dif4, dif5, dif6, dif7, dnot, ibeq, ibne, decide_eq_true_eq, if_not2, ge_iff_le, gt_iff_lt, fst_ret, Bool.false_eq_true, decide_false, decide_true, if_true]; split <;> rfl) (by simp [slices_IndexFunc_Device_Device_1x_L1])]
     simp only [bind_ite, Option.bind_some, dif1, dif2, dif3, dif4, dif5, dif6, dif7, dnot, ibeq, ibne, decide_eq_true_eq, if_not2, ge_iff_le, gt_iff_lt, fst_ret, Bool.false_eq_true, decide_false]
     split <;> rfl)
theorem names_Port_spec (hs : SmN n) {d : Int} {s : ByteArray} : names_Port n d s = some (if RightP n then portI n d s else -1) := by
  simp only [names_Port, names_find_Port_Port_1, names_Right_spec hs, slices_IndexFunc_Port_Port_1]
  rw [loop_first n.ports (fun p => p.dev = d ∧ p.name = s) hs.ports (fun i h0 h1 h2 => by
    have := hs.ports
    simp (disch := omega) only [slices_IndexFunc_Port_Port_1_L1, names_Port_1, seqB_dec, h1, nth_getI h2, wr64, bind_ite, Option.bind_some, dif1, dif2, dif3, dif4, dif5, dif6, dif7, dnot, ibeq, ibne, decide_eq_true_eq, if_not2, ge_iff_le, gt_iff_lt, fst_ret, Bool.false_eq_true, decide_false, mrg1, mrg2, mrg3, mrg4, mrg5, mrg6, mrg7, decide_true, if_true]; first | exact fpos Iff.rfl | (split <;> rfl)) (by simp [slices_IndexFunc_Port_Port_1_L1])]
  simp only [bind_ite, Option.bind_some, dif1, dif2, dif3, dif4, dif5, dif6, dif7, dnot, ibeq, ibne, decide_eq_true_eq, if_not2, ge_iff_le, gt_iff_lt, fst_ret, Bool.false_eq_true, decide_false]
  split <;> rfl
theorem devI_in {s : ByteArray} (h : 0 ≤ devI n s) : inL n.devices (devI n s) ∧ (getI n.devices (devI n s)).name = s := ⟨fstI_inL.1 h, fstI_is (l := n.devices) (P := fun d => d.name = s) h⟩
theorem portI_in {d : Int} {s : ByteArray} (h : 0 ≤ portI n d s) : inL n.ports (portI n d s) ∧ (getI n.ports (portI n d s)).dev = d ∧ (getI n.ports (portI n d s)).name = s := ⟨fstI_inL.1 h, fstI_is (l := n.ports) (P := fun p => p.dev = d ∧ p.name = s) h⟩
end
end Go.Eng
