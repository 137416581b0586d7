/- Plain laws of chapter 16 (ports): devices and ports put into a net. -/
import Derived.Test.YtgemllooojijnaaGreatEngPS
import Derived.Test.YtgemllooojijnaaGreatEngPR4
import Derived.Test.YtgemllooojijnaaGreatEngPC
set_option linter.unusedVariables false
set_option linter.unusedSectionVars false
set_option linter.unusedSimpArgs false
namespace Go.Eng
open Go Classical
attribute [local congr] ite_cg
section
variable {n : Api_Net} {l : Api_Line}
/-- How a draft is begun. -/
theorem pbegin_spec (hs : SmN n) {k : Int} {Q : Prop} (hb : l.kind = k → ∃ b, stmt_Right l = some b ∧ (b = true → Q ∧ NameP l.dev)) :
    ports_begin n l k = some (.inl ()) ∨ (l.kind = k ∧ Q ∧ RightP n ∧ ports_begin n l k = some (.inr (n.devices, n.ports, n.links, n.domains, n.statics, n.floods, n.vrfs, n.irbs, n.ports.length, n.domains.length, n.floods.length, n.vrfs.length))) := by
  unfold ports_begin
  by_cases hk : l.kind = k
  case neg => exact .inl (by rw [if_pos (by simpa using hk)])
  rw [if_neg (by simpa using hk)]
  obtain ⟨b, h1, h2⟩ := hb hk
  rw [h1]
  simp only [Option.bind_some]
  cases b with
  | false => exact .inl rfl
  | true =>
    simp only [Bool.not_true, Bool.false_eq_true, if_false, names_Right_spec hs, names_Copy_spec hs, Option.bind_some]
    by_cases hr : RightP n
    case neg => exact .inl (by simp [hr])
    exact .inr ⟨hk, (h2 rfl).1, hr, by simp [hr]⟩
theorem dev_twice {l : Api_Line} {ds : List Api_Device} (hf : Few ds) : slices_ContainsFunc_Device_Device_1 ds l = some (decide (0 ≤ fstI ds fun d => d.name = l.dev ∨ d.mac = l.mac)) := by
  unfold slices_ContainsFunc_Device_Device_1 slices_IndexFunc_Device_Device_1
  rw [loop_first ds (fun d => d.name = l.dev ∨ d.mac = l.mac) hf (fun i h0 h1 h2 => by
    have hf' := hf
    have hw := wr64 (n := i + 1) (by omega) (by unfold Few at hf'; omega)
    simp only [slices_IndexFunc_Device_Device_1_L1, ports_Device_1, seqB_dec, h1, nth_getI h2, hw, decide_true, if_true, Option.bind_some]
    by_cases c1 : (getI ds i).name = l.dev <;> by_cases c2 : (getI ds i).mac = l.mac <;> simp [c1, c2]) (by simp [slices_IndexFunc_Device_Device_1_L1])]
  simp only [bind_ite, Option.bind_some, dif1, dif2, dif3, dif4, dif5, dif6, dif7, dnot, ibeq, ibne, decide_eq_true_eq, if_not2, ge_iff_le, gt_iff_lt, fst_ret, Bool.false_eq_true, decide_false]
theorem ports_Device_spec (hs : SmN n) (hd : l.dev.size ≤ 1000000) :
    (∃ e : Int, e ≠ 0 ∧ ports_Device n l = some ([], [], [], [], [], [], [], [], 0, 0, 0, 0, e)) ∨
    (l.kind = 1 ∧ RightP n ∧ n.devices.length < 8 ∧ (∀ d ∈ n.devices, ¬ d.name = l.dev) ∧ ports_Device n l =
      some (n.devices ++ [⟨l.row, l.num, l.dev, l.mac, 0⟩], n.ports, n.links, n.domains, n.statics, n.floods, n.vrfs, n.irbs, n.ports.length, n.domains.length, n.floods.length, n.vrfs.length, 0)) := by
  unfold ports_Device
  rcases pbegin_spec hs (l := l) (k := 1) (fun hk => stmt_R1 hk hd) with h | ⟨hk, _, hr, h⟩
  · exact .inl ⟨2, by decide, by rw [h]; rfl⟩
  rw [h]
  simp only [Option.bind_some, dev_twice hs.devices]
  by_cases c1 : 0 ≤ fstI n.devices fun d => d.name = l.dev ∨ d.mac = l.mac
  · exact .inl ⟨30, by decide, by rw [if_pos (decide_eq_true c1)]⟩
  rw [if_neg (by simpa using c1)]
  by_cases c2 : ((n.devices.length : Nat) : Int) = 8
  · exact .inl ⟨3, by decide, by rw [if_pos (by simpa using c2)]⟩
  have hf := hr.few.1
  rw [if_neg (by simpa using c2), if_pos (roomy_few (by simp; omega))]
  exact .inr ⟨hk, hr, by omega, fun d hd e => fstI_none_mem.1 (by omega : (fstI n.devices fun d => d.name = l.dev ∨ d.mac = l.mac) < 0) d hd (Or.inl e), rfl⟩
theorem dom_there {ds : List Api_Domain} (hf : Few ds) {a b : Int} : slices_ContainsFunc_Domain_draft_domain_1 ds a b = some (decide (0 ≤ domIx ds a b)) := by
  unfold slices_ContainsFunc_Domain_draft_domain_1 slices_IndexFunc_Domain_draft_domain_1
  rw [loop_first ds (fun d => d.dev = a ∧ d.vlan = b) hf (fun i h0 h1 h2 => by
    have hf' := hf
    have hw := wr64 (n := i + 1) (by omega) (by unfold Few at hf'; omega)
    simp only [slices_IndexFunc_Domain_draft_domain_1_L1, ports_draft_domain_1, h1, nth_getI h2, hw, decide_true, if_true, Option.bind_some]
    by_cases c1 : (getI ds i).dev = a <;> by_cases c2 : (getI ds i).vlan = b <;> simp [c1, c2]) (by simp [slices_IndexFunc_Domain_draft_domain_1_L1])]
  simp only [bind_ite, Option.bind_some, dif1, dif2, dif3, dif4, dif5, dif6, dif7, dnot, ibeq, ibne, decide_eq_true_eq, if_not2, ge_iff_le, gt_iff_lt, fst_ret, Bool.false_eq_true, decide_false]
  rfl
theorem put_spec {a1 : List Api_Device} {a2 : List Api_Port} {a3 : List Api_Link} {ds : List Api_Domain} {k m o : Nat} {a6 : List Api_Static} {a7 : List Api_Flood} {a9 : List Api_Vrf} {a11 : List Api_Irb} {dev v : Int} (hf : ds.length ≤ 1000) (hk : k = ds.length) :
    ports_draft_domain_own a1 a2 a3 ds k a6 a7 m a9 o a11 dev v = some (putD dev ds v, (putD dev ds v).length) := by
  unfold ports_draft_domain_own ports_draft_domain_own_J1
  rw [dom_there (by unfold Few; omega)]
  unfold putD
  by_cases c1 : 0 < v
  · rw [if_pos (decide_eq_true c1)]
    simp only [Option.bind_some]
    by_cases c2 : 0 ≤ domIx ds dev v
    · rw [if_neg (by simpa using c2), if_neg (by omega), hk]
    · have hc : 0 < v ∧ domIx ds dev v < 0 := ⟨c1, by omega⟩
      have hro : roomy 64 (ds ++ [(⟨dev, v, 0, -1, 0, []⟩ : Api_Domain)]) = true := roomy_few (by simp; omega)
      have hb : (!(decide (0 ≤ domIx ds dev v))) = true := by simpa using c2
      rw [if_pos hb, if_pos hro, if_pos hc]
  · rw [if_neg (by simpa using c1)]
    simp only [Option.bind_some]
    rw [if_neg (by simp), if_neg (fun h => c1 h.1), hk]
theorem putDs_len {dev : Int} : ∀ (vs : List Int) (ds : List Api_Domain), ds.length ≤ (vs.foldl (putD dev) ds).length ∧ (vs.foldl (putD dev) ds).length ≤ ds.length + vs.length := by
  intro vs
  induction vs with
  | nil => intro ds; exact ⟨Nat.le_refl _, Nat.le_refl _⟩
  | cons v vs ih =>
    intro ds
    have h1 := ih (putD dev ds v)
    have h2 : ds.length ≤ (putD dev ds v).length ∧ (putD dev ds v).length ≤ ds.length + 1 := by unfold putD; split <;> simp
    rw [List.foldl_cons, List.length_cons]
    omega
noncomputable def domsP (n : Api_Net) (l : Api_Line) : List Api_Domain := l.tagged.foldl (putD (devI n l.dev)) (putD (devI n l.dev) n.domains l.vlan)
noncomputable def portP (n : Api_Net) (l : Api_Line) : Api_Port := ⟨l.row, devI n l.dev, l.vlan, l.cost, -1, l.port, l.tagged⟩
theorem ports_Port_spec (hs : SmN n) (hg : n.domains.length ≤ 200) (hd : l.dev.size ≤ 1000000) (hp : l.port.size ≤ 1000000) (ht : l.tagged.length ≤ 300) :
    (∃ e : Int, e ≠ 0 ∧ ports_Port n l = some ([], [], [], [], [], [], [], [], 0, 0, 0, e)) ∨
    (l.kind = 2 ∧ (0 ≤ l.vlan ∧ l.vlan ≤ 4094 ∧ RiseP l.tagged 4094 ∧ (0 < l.vlan ∨ 0 < l.tagged.length) ∧ l.vlan ∉ l.tagged) ∧ RightP n ∧ inL n.devices (devI n l.dev) ∧ portI n (devI n l.dev) l.port < 0 ∧ n.ports.length < 40 ∧ (domsP n l).length ≤ 48 ∧ ports_Port n l =
      some (n.devices, n.ports ++ [portP n l], n.links, domsP n l, n.statics, n.floods, n.vrfs, n.irbs, (domsP n l).length, n.floods.length, n.vrfs.length, 0)) := by
  have hft : Few l.tagged := by unfold Few; omega
  unfold ports_Port
  rcases pbegin_spec hs (l := l) (k := 2) (fun hk => stmt_R2 hk hd hp hft) with h | ⟨hk, hq, hr, h⟩
  · exact .inl ⟨2, by decide, by rw [h]; rfl⟩
  rw [h]
  simp only [Option.bind_some, names_Device_spec hs, names_Port_spec hs, hr, if_true, Clone_int_spec hft]
  by_cases c1 : devI n l.dev < 0
  · exact .inl ⟨31, by decide, by rw [if_pos (decide_eq_true c1)]⟩
  rw [if_neg (by simpa using c1)]
  by_cases c2 : portI n (devI n l.dev) l.port ≥ 0
  · exact .inl ⟨30, by decide, by rw [if_pos (decide_eq_true c2)]⟩
  rw [if_neg (by simpa using c2)]
  by_cases c3 : ((n.ports.length : Nat) : Int) = 40
  · exact .inl ⟨3, by decide, by rw [if_pos (by simpa using c3)]⟩
  have hf := hr.few.2.1
  rw [if_neg (by simpa using c3), if_pos (roomy_few (by simp; omega)), put_spec (by omega) rfl]
  simp only [Option.bind_some]
  have h1 : n.domains.length ≤ (putD (devI n l.dev) n.domains l.vlan).length ∧ (putD (devI n l.dev) n.domains l.vlan).length ≤ n.domains.length + 1 := by unfold putD; split <;> simp
  have hloop : loopM (fun s : (List Api_Domain) × Nat × Int => match s with | (l46, n47, v48) => ports_Port_L1 l n.devices n.ports n.links n.statics n.floods n.vrfs n.irbs n.floods.length n.vrfs.length (devI n l.dev) l.tagged l46 n47 v48) (putD (devI n l.dev) n.domains l.vlan, (putD (devI n l.dev) n.domains l.vlan).length, 0) = some (domsP n l, (domsP n l).length) :=
    loopM_trace (f := fun s : (List Api_Domain) × Nat × Int => match s with | (l46, n47, v48) => ports_Port_L1 l n.devices n.ports n.links n.statics n.floods n.vrfs n.irbs n.floods.length n.vrfs.length (devI n l.dev) l.tagged l46 n47 v48)
      (fun i => ((l.tagged.take i).foldl (putD (devI n l.dev)) (putD (devI n l.dev) n.domains l.vlan), ((l.tagged.take i).foldl (putD (devI n l.dev)) (putD (devI n l.dev) n.domains l.vlan)).length, (i : Int))) l.tagged.length (by omega) (fun i hi => by
        have hin : inL l.tagged (i : Int) := ⟨by omega, by omega⟩
        have hw := wr64 (n := (i : Int) + 1) (by omega) (by omega)
        have c : (i : Int) < (l.tagged.length : Int) := by omega
        have hb := (putDs_len (dev := devI n l.dev) (l.tagged.take i) (putD (devI n l.dev) n.domains l.vlan)).2
        have htl : (l.tagged.take i).length ≤ 300 := by simp; omega
        have hst : l.tagged.take (i + 1) = l.tagged.take i ++ [getI l.tagged (i : Int)] := by
          have := getI_get? hin
          simp only [Int.toNat_natCast] at this
          rw [List.take_add_one, this]; rfl
        show ports_Port_L1 l _ _ _ _ _ _ _ _ _ _ _ _ _ _ = _
        unfold ports_Port_L1
        rw [if_pos (decide_eq_true c), nth_getI hin, Option.bind_some, put_spec (by omega) rfl]
        simp only [Option.bind_some, hw, hst, List.foldl_append, List.foldl_cons, List.foldl_nil]
        simp) (by
        show ports_Port_L1 l _ _ _ _ _ _ _ _ _ _ _ _ _ _ = _
        unfold ports_Port_L1
        rw [if_neg (by simp), List.take_length]
        rfl)
  rw [hloop]
  simp only [Option.bind_some]
  by_cases c4 : ((domsP n l).length : Int) > 48
  · exact .inl ⟨3, by decide, by rw [if_pos (decide_eq_true c4)]⟩
  rw [if_neg (by simpa using c4)]
  exact .inr ⟨hk, hq, trivial, fstI_inL.1 (by unfold devI at c1; omega), by omega, by omega, by omega, rfl⟩
end
end Go.Eng
