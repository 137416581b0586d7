/- Plain laws of chapter 19 (overlay): meshes of flood lists. -/
import Derived.Test.YtcclngfmkodgjaaGreatEngGP19a
set_option linter.unusedVariables false
set_option linter.unusedSectionVars false
set_option linter.unusedSimpArgs false
namespace Go.Eng
open Go Classical
attribute [local congr] ite_cg
theorem take_succ_get {α : Type} [Inhabited α] {l : List α} {k : Nat} (h : k < l.length) : l.take (k + 1) = l.take k ++ [getI l (k : Int)] := by
  have := getI_get? (l := l) (i := (k : Int)) ⟨by omega, by omega⟩
  rw [List.take_add_one, show l[k]? = some (getI l (k : Int)) from by simpa using this]; rfl
theorem loop_allx {α : Type} [Inhabited α] {f : Bool × Int → Option ((Bool × Int) ⊕ Bool)} (l : List α) (A B : α → Prop) (b0 : Bool) (hb : Few l)
    (ht : ∀ i : Int, 0 ≤ i → i < l.length → inL l i → f (true, i) = some (if A (getI l i) then .inl (decide (B (getI l i)), i + 1) else .inr false))
    (hf : ∀ i : Int, 0 ≤ i → i < l.length → inL l i → f (false, i) = some (.inr false) ∨ f (false, i) = some (.inl (false, i + 1))) (h2 : ∀ b, f (b, l.length) = some (.inr b)) :
    loopM f (b0, 0) = some (b0 && decide (∀ x ∈ l, A x ∧ B x)) := by
  obtain ⟨r, e, h⟩ := loopM_rule (f := f) (fun s => ∃ k : Nat, s.2 = (k : Int) ∧ k ≤ l.length ∧ s.1 = (b0 && decide (∀ x ∈ l.take k, A x ∧ B x))) (fun r => r = (b0 && decide (∀ x ∈ l, A x ∧ B x))) (fun s => (l.length - s.2).toNat) (s := (b0, 0)) (fun s hI => by
    obtain ⟨b, v⟩ := s
    obtain ⟨k, hk, hkl, hbk⟩ := hI
    simp only at hk hbk
    subst hk
    by_cases c : k < l.length
    · have hin : inL l (k : Int) := ⟨by omega, by omega⟩
      have hts := take_succ_get (l := l) c
      cases b with
      | false =>
        have hno : ∀ m, k ≤ m → (b0 && decide (∀ x ∈ l.take m, A x ∧ B x)) = false := fun m hm => by
          have hbk := hbk.symm
          rw [Bool.and_eq_false_iff] at hbk ⊢
          rcases hbk with e | e
          · exact .inl e
          · refine .inr (decide_eq_false fun q => (of_decide_eq_false e) fun x hx => q x ?_)
            exact (List.take_subset_take_left l hm) hx
        rcases hf (k : Int) (by omega) (by omega) hin with e | e
        · refine ⟨_, e, ?_⟩
          simp only
          have := hno l.length (by omega)
          rw [List.take_of_length_le (Nat.le_refl _)] at this
          exact this.symm
        · refine ⟨_, e, ⟨k + 1, by simp, by omega, (hno (k + 1) (by omega)).symm⟩, by simp only; omega⟩
      | true =>
        have hbk := hbk.symm
        rw [Bool.and_eq_true, decide_eq_true_eq] at hbk
        obtain ⟨e0, hall⟩ := hbk
        refine ⟨_, ht (k : Int) (by omega) (by omega) hin, ?_⟩
        by_cases cA : A (getI l (k : Int))
        · rw [if_pos cA]
          refine ⟨⟨k + 1, by simp, by omega, ?_⟩, by simp only; omega⟩
          simp only
          rw [e0, Bool.true_and]
          refine decide_eq_decide.2 ⟨fun hB x hx => ?_, fun h => (h _ (by rw [hts]; simp)).2⟩
          rw [hts] at hx
          rcases List.mem_append.1 hx with hx | hx
          · exact hall x hx
          · rw [List.mem_singleton] at hx; rw [hx]; exact ⟨cA, hB⟩
        · rw [if_neg cA]
          simp only
          rw [e0, Bool.true_and]
          exact (decide_eq_false fun h => cA (h _ (getI_mem hin)).1).symm
    · have : k = l.length := by omega
      subst this
      refine ⟨_, h2 b, ?_⟩
      simp only
      rw [hbk, List.take_of_length_le (Nat.le_refl _)]) ⟨0, rfl, by omega, by simp⟩ (by unfold Few at hb; simp only; omega)
  rw [e, h]
theorem loop_setmap {α ρ : Type} [Inhabited α] {f : List α × Int → Option ((List α × Int) ⊕ ρ)} (l : List α) (g : α → α) (out : List α → ρ) (hb : Few l)
    (h1 : ∀ (m : List α) (i : Int), m.length = l.length → 0 ≤ i → i < l.length → inL l i → getI m i = getI l i → f (m, i) = some (.inl (m.set i.toNat (g (getI l i)), i + 1))) (h2 : ∀ m, f (m, l.length) = some (.inr (out m))) :
    loopM f (l, 0) = some (out (l.map g)) := by
  have hlen : ∀ i, i ≤ l.length → ((l.take i).map g ++ l.drop i).length = l.length := fun i hi => by simp; omega
  have := loopM_trace (f := f) (fun i => ((l.take i).map g ++ l.drop i, (i : Int))) l.length (r := out (l.map g)) (by unfold Few at hb; omega) (fun i hi => by
    have hin : inL l (i : Int) := ⟨by omega, by omega⟩
    have hd : l.drop i = getI l (i : Int) :: l.drop (i + 1) := by
      have h := getI_get? hin
      obtain ⟨h1, h2⟩ := List.getElem?_eq_some_iff.1 h
      rw [← h2]; simp
    have hl1 : ((l.take i).map g).length = i := by simp; omega
    have hg : getI ((l.take i).map g ++ l.drop i) (i : Int) = getI l (i : Int) := by
      rw [hd]
      unfold getI
      simp only [Int.toNat_natCast]
      rw [List.getElem?_append_right (by omega), hl1]; simp
    rw [h1 _ (i : Int) (hlen i (by omega)) (by omega) (by omega) hin hg]
    simp only [Int.toNat_natCast]
    congr 3
    rw [List.set_append_right _ _ (by omega), hl1, hd, take_succ_get hi]
    simp) (by
    simp only [List.take_length, List.drop_length, List.append_nil]
    exact h2 _)
  simpa using this
section
variable {n : Api_Net}
def GoodA (n : Api_Net) (f : Api_Flood) (a : Int) : Prop := 0 ≤ ownI n a ∧ a ≠ 0 ∧ 0 ≤ vniI n (ownI n a) f.vni ∧ 0 ≤ floodI n (ownI n a) f.vni
noncomputable def farL (n : Api_Net) (f : Api_Flood) (a : Int) : List Int := (getI n.floods (floodI n (ownI n a) f.vni)).addrs
def FarA (n : Api_Net) (f : Api_Flood) (a : Int) : Prop := (getI n.devices f.dev).vtep ∈ farL n f a ∧ ∀ b ∈ f.addrs, b = a ∨ b ∈ farL n f a
def AgreeP (n : Api_Net) (f : Api_Flood) : Prop := 0 ≤ vniI n f.dev f.vni ∧ ∀ a ∈ f.addrs, GoodA n f a ∧ FarA n f a
theorem agrees_spec (hs : SmN n) {f : Api_Flood} (hf : inL n.devices f.dev) (ha : Few f.addrs) : overlay_agrees n f = some (decide (AgreeP n f)) := by
  unfold overlay_agrees
  rw [nth_getI hf, Option.bind_some, overlay_find_spec hs, Option.bind_some]
  have ha' := ha
  unfold Few at ha'
  rw [loop_allx f.addrs (GoodA n f) (FarA n f) (decide (vniI n f.dev f.vni ≥ 0)) ha (fun i i0 i1 hi => by
    have hw := wr64 (n := i + 1) (by omega) (by omega)
    simp only [overlay_agrees_L1, i1, nth_getI hi, overlay_owner_spec hs, decide_true, if_true, Option.bind_some]
    have hJ : overlay_agrees_J2 n f (getI n.devices f.dev) true i (getI f.addrs i) (ownI n (getI f.addrs i)) = some (decide (GoodA n f (getI f.addrs i))) := by
      simp only [overlay_agrees_J2, overlay_find_spec hs, overlay_list_spec hs, Option.bind_some, if_true]
      unfold GoodA
      by_cases c1 : 0 ≤ ownI n (getI f.addrs i) <;> by_cases c2 : getI f.addrs i = 0 <;> by_cases c3 : 0 ≤ vniI n (ownI n (getI f.addrs i)) f.vni <;> by_cases c4 : 0 ≤ floodI n (ownI n (getI f.addrs i)) f.vni <;> simp [c1, c2, c3, c4]
    rw [hJ, Option.bind_some]
    by_cases c : GoodA n f (getI f.addrs i)
    case neg => simp only [c, decide_false, Bool.not_false, if_true, if_false]
    have hfl : inL n.floods (floodI n (ownI n (getI f.addrs i)) f.vni) := fstI_inL.1 c.2.2.2
    have hfar := hs.addrs _ (getI_mem hfl)
    simp only [c, decide_true, Bool.not_true, Bool.false_eq_true, if_false, if_true, overlay_list_spec hs, nth_getI hfl, Contains_u32_spec hfar, Option.bind_some]
    rw [loop_allx f.addrs (fun _ => True) (fun b => b = getI f.addrs i ∨ b ∈ farL n f (getI f.addrs i)) _ ha (fun j j0 j1 hj => by
      have hw := wr64 (n := j + 1) (by omega) (by omega)
      simp only [overlay_agrees_L3, j1, nth_getI hj, hw, Contains_u32_spec hfar, decide_true, if_true, Option.bind_some]
      by_cases e : getI f.addrs j = getI f.addrs i
      · simp [e]
      · simp only [e, beq_iff_eq, if_false, false_or]; rfl) (fun j j0 j1 hj => by
      have hw := wr64 (n := j + 1) (by omega) (by omega)
      refine .inr ?_
      simp only [overlay_agrees_L3, j1, nth_getI hj, hw, decide_true, if_true, Option.bind_some, Bool.false_eq_true, if_false]) (fun b => by simp [overlay_agrees_L3])]
    simp only [Option.bind_some, hw, true_and]
    congr 3
    rw [Bool.eq_iff_iff]
    simp only [Bool.and_eq_true, decide_eq_true_eq]
    rfl) (fun i i0 i1 hi => by
    refine .inl ?_
    simp only [overlay_agrees_L1, i1, nth_getI hi, overlay_owner_spec hs, overlay_agrees_J2, decide_true, if_true, Option.bind_some, Bool.false_eq_true, if_false, Bool.not_false]) (fun b => by simp [overlay_agrees_L1])]
  rw [Option.bind_some]
  refine congrArg some ?_
  rw [Bool.eq_iff_iff]
  simp only [Bool.and_eq_true, decide_eq_true_eq]
  rfl
noncomputable def peersF (n : Api_Net) (d : Api_Domain) : List Int := if d.vni ≠ 0 ∧ 0 ≤ floodI n d.dev d.vni then (getI n.floods (floodI n d.dev d.vni)).addrs.map (fun a => vniI n (ownI n a) d.vni) else []
noncomputable def meshF (n : Api_Net) (d : Api_Domain) : Api_Domain := { d with peers := peersF n d }
noncomputable def meshN (n : Api_Net) : Api_Net := { n with domains := n.domains.map (meshF n) }
theorem peers_len (hs : SmN n) {d : Api_Domain} : Few (peersF n d) := by
  unfold peersF
  split
  · rename_i h
    have := hs.addrs _ (getI_mem (fstI_inL.1 h.2))
    unfold Few at this ⊢
    rw [List.length_map]; exact this
  · exact few_nil
theorem sm_mesh (hs : SmN n) : SmN (meshN n) :=
  { hs with domains := (by have := hs.domains; unfold Few at *; simpa [meshN] using this), peers := fun d hd => (by
      obtain ⟨d0, _, rfl⟩ := List.mem_map.1 hd
      exact peers_len hs) }
theorem loop_putmap {α β ρ : Type} [Inhabited α] {f : List β × Int → Option ((List β × Int) ⊕ ρ)} (l : List α) (h : α → β) (out : List β → ρ) (hb : Few l)
    (h1 : ∀ (m : List β) (i : Int), 0 ≤ i → i < l.length → inL l i → m.length ≤ l.length → f (m, i) = some (.inl (m ++ [h (getI l i)], i + 1))) (h2 : ∀ m, f (m, l.length) = some (.inr (out m))) :
    loopM f ([], 0) = some (out (l.map h)) := by
  have := loopM_trace (f := f) (fun i => ((l.take i).map h, (i : Int))) l.length (r := out (l.map h)) (by unfold Few at hb; omega) (fun i hi => by
    rw [h1 _ (i : Int) (by omega) (by omega) ⟨by omega, by omega⟩ (by simp; omega), take_succ_get hi]
    simp) (by simp only [List.take_length]; exact h2 _)
  simpa using this
theorem mesh_loop (hs : SmN n) {a b c0 e f g h} {i j k o : Nat} : loopM (fun s : (List Api_Domain) × Int => match s with | (l30, v31) => overlay_Mesh_L2 n a b c0 e f g h i j k o l30 v31) (n.domains, 0) = some (n.domains.map (meshF n)) := by
  have hdf := hs.domains
  refine loop_setmap n.domains (meshF n) id hs.domains (fun m x hm x0 x1 hx hg => ?_) (fun m => by simp [overlay_Mesh_L2])
  have hw := wr64 (n := x + 1) (by omega) (by unfold Few at hdf; omega)
  have hxm : inL m x := ⟨x0, by omega⟩
  have hJ : ∀ y : Int, overlay_Mesh_J3 n a b c0 e f g h i j k o m x (getI n.domains x) y = some (decide ((getI n.domains x).vni ≠ 0 ∧ 0 ≤ y)) := fun y => by
    unfold overlay_Mesh_J3
    by_cases c : (getI n.domains x).vni = 0 <;> simp [c]
  simp only [overlay_Mesh_L2, x1, nth_getI hx, overlay_list_spec hs, hJ, lin_dec, hxm, getI_get? hxm, hg, hw, decide_true, if_true, Option.bind_some]
  by_cases c : (getI n.domains x).vni ≠ 0 ∧ 0 ≤ floodI n (getI n.domains x).dev (getI n.domains x).vni
  · have hfl' : inL n.floods (floodI n (getI n.domains x).dev (getI n.domains x).vni) := fstI_inL.1 c.2
    have hff := hs.addrs _ (getI_mem hfl')
    rw [if_pos (decide_eq_true c), nth_getI hfl', Option.bind_some]
    have hin : loopM (fun s : (List Int) × Int => match s with | (l45, v46) => overlay_Mesh_L4 n a b c0 e f g h i j k o m x (getI n.domains x) (getI n.floods (floodI n (getI n.domains x).dev (getI n.domains x).vni)) l45 v46) ([], 0) = some (peersF n (getI n.domains x)) := by
      unfold peersF
      rw [if_pos c]
      refine loop_putmap (getI n.floods (floodI n (getI n.domains x).dev (getI n.domains x).vni)).addrs (fun a => vniI n (ownI n a) (getI n.domains x).vni) id hff (fun q z z0 z1 hz hq => ?_) (fun q => by simp [overlay_Mesh_L4])
      have hff' := hff
      unfold Few at hff'
      have hw2 := wr64 (n := z + 1) (by omega) (by omega)
      have hro : roomy 8 (q ++ [vniI n (ownI n (getI (getI n.floods (floodI n (getI n.domains x).dev (getI n.domains x).vni)).addrs z)) (getI n.domains x).vni]) = true := roomy_few (by simp; omega)
      simp only [overlay_Mesh_L4, z1, nth_getI hz, overlay_owner_spec hs, overlay_find_spec hs, hro, hw2, decide_true, if_true, Option.bind_some]
    rw [hin]
    rfl
  · rw [if_neg (by simpa using c)]
    have : peersF n (getI n.domains x) = [] := by unfold peersF; rw [if_neg c]
    unfold meshF
    rw [this]
end
end Go.Eng
