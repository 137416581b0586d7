/- Chapter 18 (domains): what is told of a domain, on both sides. -/
import Derived.Test.YtdlaaoajcoogbaaGreatDoorEngQ1
import Derived.Test.YtdlaaoajcoogbaaGreatDoorEngQ3
import Derived.Test.YtdlaaoajcoogbaaGreatDoorEngGPEi
import Derived.Test.YtdlaaoajcoogbaaGreatDoorEngGP1
set_option linter.unusedVariables false
set_option linter.unusedSectionVars false
set_option linter.unusedSimpArgs false
namespace Go.Eng
open Go Classical
attribute [local congr] ite_cg
section
variable {n : Api_Net} {d : Int}
noncomputable def hostB (n : Api_Net) (p : Int) : Bool := decide ((getI n.ports p).link < 0)
noncomputable def hostsI (n : Api_Net) (d : Int) : List Int := if RightP n ∧ inL n.domains d then (membersL n d).filter (hostB n) else []
theorem Hosts_1_spec {p : Int} (hp : inL n.ports p) : domains_Hosts_1 p n = some (! hostB n p) := by
  unfold domains_Hosts_1 hostB
  rw [nth_getI hp, Option.bind_some]
  by_cases c : (getI n.ports p).link < 0
  · have : ¬ 0 ≤ (getI n.ports p).link := by omega
    simp [c, this]
  · have : 0 ≤ (getI n.ports p).link := by omega
    simp [c, this]
theorem IF_Hosts_spec {l : List Int} (hl : Few l) (ha : ∀ p ∈ l, inL n.ports p) : slices_IndexFunc_int_Hosts_1 l n = some (fstI l (fun p => hostB n p = false)) := by
  unfold slices_IndexFunc_int_Hosts_1
  rw [loop_first l (fun p => hostB n p = false) hl (fun i h0 h1 h2 => by
    have hl' : l.length ≤ 1000000 := hl
    simp (disch := omega) only [slices_IndexFunc_int_Hosts_1_L1, h1, nth_getI h2, wr64, Hosts_1_spec (ha _ (getI_mem h2)), decide_true, if_true, Option.bind_some]
    cases hostB n (getI l i) <;> simp) (by simp [slices_IndexFunc_int_Hosts_1_L1])]
  by_cases h2 : 0 ≤ fstI l (fun p => hostB n p = false)
  · simp [h2]
  · have := fstI_ge (l := l) (P := fun p => hostB n p = false)
    simp [h2]; omega
theorem del_hosts {l : List Int} (hl : l.length ≤ 1000000) (ha : ∀ p ∈ l, inL n.ports p) : ∃ r, slices_DeleteFunc_int_Hosts_1_own l n = some (r, l.filter (hostB n)) := by
  have hf : Few l := hl
  simp only [slices_DeleteFunc_int_Hosts_1_own, IF_Hosts_spec hf ha, Option.bind_some]
  rcases fstI_cases (l := l) (P := fun p => hostB n p = false) with ⟨e, h1⟩ | ⟨h1, h2, h3⟩
  · rw [e]
    have : l.filter (hostB n) = l := by
      rw [List.filter_eq_self]
      intro x hx
      obtain ⟨i, hi, rfl⟩ := mem_getI hx
      have := h1 i hi
      simpa using this
    exact ⟨l, by simp [this]⟩
  · have h4 : ¬ fstI l (fun p => hostB n p = false) = -1 := by have := h1.1; omega
    have h5 := wr64 (n := fstI l (fun p => hostB n p = false) + 1) (by have := h1.1; omega) (by have := h1.2; omega)
    generalize fstI l (fun p => hostB n p = false) = i0 at *
    obtain ⟨a, i, e, q1, q2, q3, q4⟩ := del_loop l (hostB n) (f := fun s : (List Int) × Int × Int => match s with | (l6, v7, v8) => slices_DeleteFunc_int_Hosts_1_own_L1 l n l6 v7 v8) hf (fun a i j ha0 hi hij hj hi2 hg => by
      have j1 := hj.1; have j2 := hj.2
      have ji : inL a j := ⟨hj.1, by omega⟩
      have ii : inL a i := ⟨hi, by omega⟩
      have w1 := wr64 (n := i + 1) (by omega) (by omega)
      have w2 := wr64 (n := j + 1) (by omega) (by omega)
      have l1 : lin a j = true := by rw [lin_dec]; exact decide_eq_true ji
      have l2 : lin a i = true := by rw [lin_dec]; exact decide_eq_true ii
      simp only [slices_DeleteFunc_int_Hosts_1_own_L1, j2, l1, l2, getI_get? ji, getI_get? ii, hg, Hosts_1_spec (ha _ (getI_mem hj)), w1, w2, decide_true, if_true, Option.bind_some, Bool.not_not]
      split <;> rfl) (fun a i ha0 => by simp [slices_DeleteFunc_int_Hosts_1_own_L1]) h1 h2 (fun j hj hlt => by have := h3 j hj hlt; simpa using this)
    have s1 : slok a.length i a.length = true := by rw [slok_dec]; exact decide_eq_true ⟨q2, by omega, by omega⟩
    have s2 : List.take i.toNat a ++ (List.replicate ((Int.toNat (a.length : Int)) - i.toNat) (0 : Int) ++ List.drop (Int.toNat (a.length : Int)) a) = List.take i.toNat a ++ List.replicate (a.length - i.toNat) (0 : Int) := by simp
    have s3 : slok (List.take i.toNat a ++ List.replicate (a.length - i.toNat) (0 : Int)).length 0 i = true := by rw [slok_dec]; exact decide_eq_true ⟨by omega, q2, by simp; omega⟩
    refine ⟨List.take i.toNat a ++ List.replicate (a.length - i.toNat) (0 : Int), ?_⟩
    simp only [ibeq, h4, decide_false, Bool.false_eq_true, if_false, h5, e, s1, s2, s3, if_true, Option.bind_some]
    rw [← q4]
    have : (List.take i.toNat a).length = i.toNat := by simp; omega
    simp [this]
theorem domains_Hosts_spec (hs : SmN n) : domains_Hosts n d = some (hostsI n d) := by
  unfold domains_Hosts hostsI
  rw [names_Members_spec hs]
  simp only [Option.bind_some]
  have hp : n.ports.length ≤ 1000000 := hs.ports
  by_cases c : RightP n ∧ inL n.domains d
  · rw [if_pos c, if_pos c]
    obtain ⟨r, hr⟩ := del_hosts (n := n) (l := membersL n d) (by have := @membersL_len n d; omega) (fun p h => membersL_in h)
    rw [hr]; rfl
  · rw [if_neg c, if_neg c]
    obtain ⟨r, hr⟩ := del_hosts (n := n) (l := []) (by simp) (fun p h => by simp at h)
    rw [hr]; rfl
theorem rHosts_spec (hs : SmN n) (hr : RightP n) : palingref18_Hosts n d = some (hostsI n d) := by
  unfold palingref18_Hosts hostsI
  rw [rMembers_spec hs]
  simp only [Option.bind_some]
  have hp : n.ports.length ≤ 1000000 := hs.ports
  have hm : (if inL n.domains d then membersL n d else []).length ≤ 1000000 := by
    split
    · have := @membersL_len n d; omega
    · simp
  have hin : ∀ p ∈ (if inL n.domains d then membersL n d else []), inL n.ports p := by
    split
    · exact fun p h => membersL_in h
    · intro p h; simp at h
  have key : ∀ l : List Int, l.length ≤ 1000000 → (∀ p ∈ l, inL n.ports p) → loopM (fun s : (List Int) × Int => match s with | (l6, v7) => palingref18_Hosts_L1 n l l6 v7) ([], 0) = some (l.filter (hostB n)) := by
    intro l hl ha
    have hf : Few l := hl
    rw [loop_gather l (fun _ p => hostB n p = true) (fun _ p => p) (f := fun s : (List Int) × Int => match s with | (l6, v7) => palingref18_Hosts_L1 n l l6 v7) (out := id) hf (fun i s h0 h1 h2 hsl => by
      have hip := ha _ (getI_mem h2)
      have hw := wr64 (n := i + 1) (by omega) (by omega)
      have l1 : lin l i = true := by rw [lin_dec]; exact decide_eq_true h2
      have hroom : roomy 8 (s ++ [getI l i]) = true := roomy_few (by simp; omega)
      show palingref18_Hosts_L1 n l s i = _
      unfold palingref18_Hosts_L1
      rw [if_pos (decide_eq_true h1), if_pos l1, getI_get? h2, Option.bind_some, nth_getI hip, Option.bind_some, hw]
      have hlk : (getI n.ports (getI l i)).link = -1 ∨ 0 ≤ (getI n.ports (getI l i)).link := by
        rcases (hr.ports _ hip).2.2.2.2.2.2.2.2 with h | h
        · exact .inl h
        · exact .inr h.1.1
      by_cases c : (getI n.ports (getI l i)).link = -1
      · have hb : hostB n (getI l i) = true := by unfold hostB; rw [c]; rfl
        rw [if_pos (by simp [c]), Option.bind_some, if_pos hroom, if_pos hb]
      · have hb : ¬ hostB n (getI l i) = true := by unfold hostB; simp; omega
        rw [if_neg (by simpa using c), if_neg hb]) (fun s => by
      show palingref18_Hosts_L1 n l s l.length = _
      unfold palingref18_Hosts_L1
      rw [if_neg (by simp)]; rfl), gather_filter]
    rfl
  rw [key _ hm hin]
  by_cases c : inL n.domains d
  · simp [c, hr]
  · simp [c]
theorem join3 {x y z : ByteArray} : joinTx [x, y, z] ⟨#[]⟩ = x ++ y ++ z := by
  apply ByteArray.ext
  apply Array.ext'
  simp [joinTx, List.intercalate, List.intersperse]
theorem join3_ok {x y z : ByteArray} (h : x.size + y.size + z.size ≤ 140737488355328) : joinok [x, y, z] ⟨#[]⟩ = true := by
  unfold joinok
  refine decide_eq_true ⟨by simp, by simp, ?_⟩
  have e : ∀ b : ByteArray, b.data.toList.length = b.size := fun b => by simp
  simp [List.intercalate, List.intersperse]
  have h1 := e x; have h2 := e y; have h3 := e z
  simp at h1 h2 h3
  omega
noncomputable def textD (n : Api_Net) (d : Int) : ByteArray := if RightP n ∧ inL n.domains d then (getI n.devices (getI n.domains d).dev).name ++ (⟨#[47]⟩ : ByteArray) ++ textI (getI n.domains d).vlan else ⟨#[]⟩
theorem dom_pre (hr : RightP n) (hd : inL n.domains d) : inL n.devices (getI n.domains d).dev ∧ -9223372036854775808 ≤ (getI n.domains d).vlan ∧ (getI n.domains d).vlan < 9223372036854775808 := by
  have := hr.bare d hd
  refine ⟨this.1, ?_, ?_⟩
  · have := this.2; omega
  · have := this.2; omega
theorem domains_Text_spec (hs : SmN n) (hb : ∀ x ∈ n.devices, x.name.size ≤ 140737488351232) : domains_Text n d = some (textD n d) := by
  unfold domains_Text textD
  by_cases c0 : d < 0
  · rw [if_pos (decide_eq_true c0), if_neg (fun h => by have := h.2.1; omega)]
  rw [if_neg (by simpa using c0)]
  by_cases c1 : d ≥ (n.domains.length : Int)
  · rw [if_pos (decide_eq_true c1), if_neg (fun h => by have := h.2.2; omega)]
  rw [if_neg (by simpa using c1), names_Right_spec hs, Option.bind_some]
  by_cases hr : RightP n
  case neg => rw [if_pos (by simpa using hr), if_neg (fun h => hr h.1)]
  have hd : inL n.domains d := ⟨by omega, by omega⟩
  obtain ⟨p1, p2, p3⟩ := dom_pre hr hd
  have hnm := hb _ (getI_mem p1)
  have htl := textI_len p2 p3
  have h47 : (⟨#[47]⟩ : ByteArray).size = 1 := rfl
  rw [if_neg (by simpa using hr), nth_getI hd, Option.bind_some, nth_getI p1, Option.bind_some, num_Text_spec p2 p3, Option.bind_some, if_pos ⟨hr, hd⟩]
  unfold domains_joined strings_Join
  rw [if_pos (join3_ok (by omega)), join3]
  rfl
theorem rText18_spec (hs : SmN n) (hr : RightP n) (hb : ∀ x ∈ n.devices, x.name.size ≤ 140737488351232) : palingref18_Text n d = some (textD n d) := by
  unfold palingref18_Text textD
  rw [rPlace_spec, Option.bind_some]
  by_cases hd : inL n.domains d
  case neg => rw [if_pos (by simpa using hd), if_neg (fun h => hd h.2)]
  obtain ⟨p1, p2, p3⟩ := dom_pre hr hd
  have hnm := hb _ (getI_mem p1)
  have htl := textI_len p2 p3
  have h47 : (⟨#[47]⟩ : ByteArray).size = 1 := rfl
  have hmx : IntKind.i64.max = 9223372036854775807 := by decide
  have s1 : sadok (getI n.devices (getI n.domains d).dev).name (⟨#[47]⟩ : ByteArray) = true := by
    unfold sadok; rw [hmx]; exact decide_eq_true (by omega)
  have hsz : ((getI n.devices (getI n.domains d).dev).name ++ (⟨#[47]⟩ : ByteArray)).size = (getI n.devices (getI n.domains d).dev).name.size + 1 := by
    rw [ByteArray.size_append, h47]
  have s2 : sadok ((getI n.devices (getI n.domains d).dev).name ++ (⟨#[47]⟩ : ByteArray)) (textI (getI n.domains d).vlan) = true := by
    unfold sadok; rw [hmx, hsz]; exact decide_eq_true (by omega)
  rw [if_neg (by simpa using hd), nth_getI hd, Option.bind_some, nth_getI p1, Option.bind_some, if_pos s1, rText_spec p2 p3, Option.bind_some, if_pos s2, if_pos ⟨hr, hd⟩]
end
end Go.Eng
