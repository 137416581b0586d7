/- Chapter 18 (domains): what is told of a domain, on both sides. -/
import Derived.Test.YtdlaaoajcoogbaaGreatDoorEngQ1
import Derived.Test.YtdlaaoajcoogbaaGreatDoorEngQ3
import Derived.Test.YtdlaaoajcoogbaaGreatDoorEngGPEi
import Derived.Test.YtdlaaoajcoogbaaGreatDoorEngGP1
set_option linter.unusedVariables false
set_option linter.unusedSectionVars false
set_option linter.unusedSimpArgs false
namespace Go.Eng
open Go Classical
attribute [local congr] ite_cg
section
variable {n : Api_Net} {d : Int}
noncomputable def hostB (n : Api_Net) (p : Int) : Bool := decide ((getI n.ports p).link < 0)
noncomputable def hostsI (n : Api_Net) (d : Int) : List Int := if RightP n ∧ inL n.domains d then (membersL n d).filter (hostB n) else []
theorem Hosts_1_spec {p : Int} (hp : inL n.ports p) : domains_Hosts_1 p n = some (! hostB n p) := by
  unfold domains_Hosts_1 hostB
  rw [nth_getI hp, Option.bind_some]
  by_cases c : (getI n.ports p).link < 0
  · have : ¬ 0 ≤ (getI n.ports p).link := by omega
    simp [c, this]
  · have : 0 ≤ (getI n.ports p).link := by omega
    simp [c, this]
theorem IF_Hosts_spec {l : List Int} (hl : Few l) (ha : ∀ p ∈ l, inL n.ports p) : slices_IndexFunc_int_Hosts_1 l n = some (fstI l (fun p => hostB n p = false)) := by
  unfold slices_IndexFunc_int_Hosts_1
  rw [loop_first l (fun p => hostB n p = false) hl (fun i h0 h1 h2 => by
    have hl' : l.length ≤ 1000000 := hl
    simp (disch := omega) only [slices_IndexFunc_int_Hosts_1_L1, h1, nth_getI h2, wr64, Hosts_1_spec (ha _ (getI_mem h2)), decide_true, if_true, Option.bind_some]
    cases hostB n (getI l i) <;> simp) (by simp [slices_IndexFunc_int_Hosts_1_L1])]
  by_cases h2 : 0 ≤ fstI l (fun p => hostB n p = false)
  · simp [h2]
  · have := fstI_ge (l := l) (P := fun p => hostB n p = false)
    simp [h2]; omega
theorem del_hosts {l : List Int} (hl : l.length ≤ 1000000) (ha : ∀ p ∈ l, inL n.ports p) : ∃ r, slices_DeleteFunc_int_Hosts_1_own l n = some (r, l.filter (hostB n)) := by
  have hf : Few l := hl
  simp only [slices_DeleteFunc_int_Hosts_1_own, IF_Hosts_spec hf ha, Option.bind_some]
  rcases fstI_cases (l := l) (P := fun p => hostB n p = false) with ⟨e, h1⟩ | ⟨h1, h2, h3⟩
  · rw [e]
    have : l.filter (hostB n) = l := by
      rw [List.filter_eq_self]
      intro x hx
      obtain ⟨i, hi, rfl⟩ := mem_getI hx
      have := h1 i hi
      simpa using this
    exact ⟨l, by simp [this]⟩
  · have h4 : ¬ fstI l (fun p => hostB n p = false) = -1 := by have := h1.1; omega
    have h5 := wr64 (n := fstI l (fun p => hostB n p = false) + 1) (by have := h1.1; omega) (by have := h1.2; omega)
    generalize fstI l (fun p => hostB n p = false) = i0 at *
    obtain ⟨a, i, e, q1, q2, q3, q4⟩ := del_loop l (hostB n) (f := fun s : (List Int) × Int × Int => match s with | (l6, v7, v8) => slices_DeleteFunc_int_Hosts_1_own_L1 l n l6 v7 v8) hf (fun a i j ha0 hi hij hj hi2 hg => by
      have j1 := hj.1; have j2 := hj.2
      have ji : inL a j := ⟨hj.1, by omega⟩
      have ii : inL a i := ⟨hi, by omega⟩
      have w1 := wr64 (n := i + 1) (by omega) (by omega)
      have w2 := wr64 (n := j + 1) (by omega) (by omega)
      have l1 : lin a j = true := by rw [lin_dec]; exact decide_eq_true ji
      have l2 : lin a i = true := by rw [lin_dec]; exact decide_eq_true ii
      simp only [slices_DeleteFunc_int_Hosts_1_own_L1, j2, l1, l2, getI_get? ji, getI_get? ii, hg, Hosts_1_spec (ha _ (getI_mem hj)), w1, w2, decide_true, if_true, Option.bind_some, Bool.not_not]
      split <;> rfl) (fun a i ha0 => by simp [slices_DeleteFunc_int_Hosts_1_own_L1]) h1 h2 (fun j hj hlt => by have := h3 j hj hlt; simpa using this)
    have s1 : slok a.length i a.length = true := by rw [slok_dec]; exact decide_eq_true ⟨q2, by omega, by omega⟩
    have s2 : List.take i.toNat a ++ (List.replicate ((Int.toNat (a.length : Int)) - i.toNat) (0 : Int) ++ List.drop (Int.toNat (a.length : Int)) a) = List.take i.toNat a ++ List.replicate (a.length - i.toNat) (0 : Int) := by simp
    have s3 : slok (List.take i.toNat a ++ List.replicate (a.length - i.toNat) (0 : Int)).length 0 i = true := by rw [slok_dec]; exact decide_eq_true ⟨by omega, q2, by simp; omega⟩
    refine ⟨List.take i.toNat a ++ List.replicate (a.length - i.toNat) (0 : Int), ?_⟩
    simp only [ibeq, h4, decide_false, Bool.false_eq_true, if_false, h5, e, s1, s2, s3, if_true, Option.bind_some]
    rw [← q4]
    have : (List.take i.toNat a).length = i.toNat := by simp; omega
    simp [this]
theorem domains_Hosts_spec (hs : SmN n) : domains_Hosts n d = some (hostsI n d) := by
  unfold domains_Hosts hostsI
  rw [names_Members_spec hs]
  simp only [Option.bind_some]
  have hp : n.ports.length ≤ 1000000 := hs.ports
  by_cases c : RightP n ∧ inL n.domains d
  · rw [if_pos c, if_pos c]
    obtain ⟨r, hr⟩ := del_hosts (n := n) (l := membersL n d) (by have := @membersL_len n d; omega) (fun p h => membersL_in h)
    rw [hr]; rfl
  · rw [if_neg c, if_neg c]
    obtain ⟨r, hr⟩ := del_hosts (n := n) (l := []) (by simp) (fun p h => by simp at h)
    rw [hr]; rfl
end
end Go.Eng
