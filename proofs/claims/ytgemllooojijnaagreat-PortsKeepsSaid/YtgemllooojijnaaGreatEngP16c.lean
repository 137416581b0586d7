/- Plain laws of chapter 16 (ports): what was put is there, and all else is as it was. -/
import Derived.Test.YtgemllooojijnaaGreatEngP16b
set_option linter.unusedVariables false
set_option linter.unusedSectionVars false
set_option linter.unusedSimpArgs false
namespace Go.Eng
open Go Classical
attribute [local congr] ite_cg
theorem putDs_keep {dev a b : Int} : ∀ (vs : List Int) (ds : List Api_Domain), 0 ≤ domIx ds a b → 0 ≤ domIx (vs.foldl (putD dev) ds) a b := by
  intro vs
  induction vs with
  | nil => intro ds h; exact h
  | cons v vs ih => intro ds h; exact ih _ (by rw [putD_keep h]; exact h)
theorem putDs_ix {dev : Int} : ∀ (vs : List Int) (ds : List Api_Domain) (v : Int), v ∈ vs → 0 < v → 0 ≤ domIx (vs.foldl (putD dev) ds) dev v := by
  intro vs
  induction vs with
  | nil => intro ds v h; cases h
  | cons x vs ih =>
    intro ds v h hv
    rcases List.mem_cons.1 h with rfl | h
    · exact putDs_keep vs _ (putD_ix hv)
    · exact ih _ v h hv
theorem putDs_pre {dev : Int} : ∀ (vs : List Int) (ds : List Api_Domain), ∃ e, vs.foldl (putD dev) ds = ds ++ e := by
  intro vs
  induction vs with
  | nil => intro ds; exact ⟨[], by simp⟩
  | cons x vs ih =>
    intro ds
    obtain ⟨e, h⟩ := ih (putD dev ds x)
    rw [List.foldl_cons, h]
    unfold putD
    split
    · exact ⟨[⟨dev, x, 0, -1, 0, []⟩] ++ e, by rw [List.append_assoc]⟩
    · exact ⟨e, rfl⟩
theorem rise_rng {l : List Int} {b : Int} (h : RiseP l b) : ∀ v ∈ l, 1 ≤ v ∧ v ≤ b := by
  intro v hv
  rcases h with e | h
  · rw [e] at hv; cases hv
  · obtain ⟨i, hi, rfl⟩ := mem_getI hv
    have := h.1 i hi
    exact ⟨this.1, this.2.1⟩
section
variable {n : Api_Net} {l : Api_Line}
theorem sm_dev (hs : SmN n) {x : Api_Device} (hn : n.devices.length ≤ 1000) : SmN { n with devices := n.devices ++ [x] } :=
  { hs with devices := (by unfold Few; simp; omega) }
theorem sm_port (hs : SmN n) {x : Api_Port} (hn : n.ports.length ≤ 1000) (hx : Few x.tagged) : SmN { n with ports := n.ports ++ [x] } :=
  { hs with ports := (by unfold Few; simp; omega), tagged := fun d hd => (by
      rcases List.mem_append.1 hd with h | h
      · exact hs.tagged d h
      · rw [List.mem_singleton] at h; rw [h]; exact hx) }
theorem sm_doms {dev : Int} : ∀ (vs : List Int) (n : Api_Net), SmN n → (vs.foldl (putD dev) n.domains).length ≤ 1000 → SmN { n with domains := vs.foldl (putD dev) n.domains } := by
  intro vs n hs hc
  refine { hs with domains := (by unfold Few; simp only; omega), peers := ?_ }
  have : ∀ (vs : List Int) (ds : List Api_Domain), (∀ d ∈ ds, Few d.peers) → ∀ d ∈ vs.foldl (putD dev) ds, Few d.peers := by
    intro vs
    induction vs with
    | nil => intro ds h; exact h
    | cons x vs ih =>
      intro ds h
      refine ih _ fun d hd => ?_
      unfold putD at hd
      split at hd
      · rcases List.mem_append.1 hd with hd | hd
        · exact h d hd
        · rw [List.mem_singleton] at hd; rw [hd]; exact few_nil
      · exact h d hd
  exact this vs n.domains hs.peers
theorem names_Same_no : names_Same ⟨[], [], [], [], [], [], [], []⟩ ⟨[], [], [], [], [], [], [], []⟩ = some true := by kernel_rfl
theorem portsKeeps_J (hg : BndN n 200 100) (hd : l.dev.size ≤ 1000000) : palinglaw16_PortsKeeps_J1 n l = some (.inr ()) := by
  have hs := hg.sm
  have hgd := hg.devices
  unfold palinglaw16_PortsKeeps_J1
  rcases ports_Device_spec hs (l := l) hd with ⟨e, hne, h⟩ | ⟨hk, hr, hc, hno, h⟩
  · rw [h]
    simp only [Option.bind_some]
    rw [if_neg (by simpa using hne)]
  rw [h]
  have hsm := sm_dev hs (x := ⟨l.row, l.num, l.dev, l.mac, 0⟩) (by omega)
  have hR := right_device hr (v := ⟨l.row, l.num, l.dev, l.mac, 0⟩) hc
  have hdv : devI { n with devices := n.devices ++ [⟨l.row, l.num, l.dev, l.mac, 0⟩] } l.dev = (n.devices.length : Int) := by
    unfold devI
    simp only
    rw [fstI_app, if_neg (by have := (fstI_none_mem (l := n.devices) (P := fun d => d.name = l.dev)).2 hno; omega), if_pos rfl]
  have hl1 : (((n.devices ++ [(⟨l.row, l.num, l.dev, l.mac, 0⟩ : Api_Device)]).length : Nat) : Int) = (n.devices.length : Int) + 1 := by simp
  have hw := wr64 (n := (n.devices.length : Int) + 1 - 1) (by omega) (by omega)
  have hsl : slok (n.devices ++ [(⟨l.row, l.num, l.dev, l.mac, 0⟩ : Api_Device)]).length 0 ((n.devices.length : Int) + 1 - 1) = true := by rw [slok_dec]; exact decide_eq_true (by simp; omega)
  have hz : (((n.devices.length : Int) + 1) == 0) = false := by
    have : ¬ (n.devices.length : Int) + 1 = 0 := by omega
    simpa using this
  have hb : ((n.devices.length : Int) != (n.devices.length : Int) + 1 - 1) = false := by
    have : (n.devices.length : Int) = (n.devices.length : Int) + 1 - 1 := by omega
    simp
  have hsame : names_Same n n = some true := by rw [names_Same_spec hs]; simp
  have htk : List.drop (Int.toNat 0) (List.take (Int.toNat ((n.devices.length : Int) + 1 - 1)) (n.devices ++ [(⟨l.row, l.num, l.dev, l.mac, 0⟩ : Api_Device)])) = n.devices := by
    rw [show (n.devices.length : Int) + 1 - 1 = n.devices.length from by omega]; exact take_app1
  simp only [Option.bind_some, beq_self_eq_true, if_true]
  rw [rCopy_spec hsm, Option.bind_some]
  simp only [hl1, hz, names_Device_spec hsm, hR, hdv, hw, hb, hsl, names_Right_spec hsm, htk, decide_true, Option.bind_some, Bool.not_true, Bool.false_eq_true, if_false, if_true]
  show (names_Same n n).bind _ = some _
  rw [hsame]; rfl
end
end Go.Eng
