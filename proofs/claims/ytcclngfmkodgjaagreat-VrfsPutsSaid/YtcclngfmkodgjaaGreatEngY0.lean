/- Chapter 03: texts of lists, on the reference's side: what is written is read again. -/
import Derived.Test.YtcclngfmkodgjaaGreatEngU2
set_option linter.unusedVariables false
set_option linter.unusedSectionVars false
set_option linter.unusedSimpArgs false
namespace Go.Eng
open Go Classical
/-! ### Loops in parts -/
section
variable {σ ρ : Type} {f : σ → Option (σ ⊕ ρ)} {s s1 s2 : σ} {n k : Nat} {r : ρ}
def Rch (f : σ → Option (σ ⊕ ρ)) (n : Nat) (s s1 : σ) : Prop := ∀ m, iter f (m + n) s = iter f m s1
theorem Rch.refl : Rch f 0 s s := fun m => rfl
theorem Rch.one (h : f s = some (.inl s1)) : Rch f 1 s s1 := fun m => by rw [iter_succ, h]
theorem Rch.trans (h : Rch f n s s1) (h2 : Rch f k s1 s2) : Rch f (n + k) s s2 := fun m => by
  rw [show m + (n + k) = (m + k) + n by omega, h, h2]
theorem Rch.out (h : Rch f n s s1) (hn : n < 18446744073709551616) (he : f s1 = some (.inr r)) : loopM f s = some r := by
  obtain ⟨m, hm⟩ : ∃ m, 18446744073709551616 = (m + 1) + n := ⟨18446744073709551615 - n, by omega⟩
  have : loopM f s = iter f ((m + 1) + n) s := by rw [← hm]; rfl
  rw [this, h, iter_succ, he]
theorem Rch.steps (st : Nat → σ) : ∀ n : Nat, (∀ i, i < n → f (st i) = some (.inl (st (i + 1)))) → Rch f n (st 0) (st n)
  | 0, _ => Rch.refl
  | n + 1, h => (Rch.steps st n fun i hi => h i (by omega)).trans (Rch.one (h n (by omega)))
end
theorem first_bad {C : Nat → Prop} : ∀ n : Nat, ¬ (∀ i, i < n → C i) → ∃ k, k < n ∧ ¬ C k ∧ ∀ i, i < k → C i
  | 0, h => absurd (fun i hi => absurd hi (Nat.not_lt_zero i)) h
  | n + 1, h => by
    by_cases c : ∀ i, i < n → C i
    · exact ⟨n, by omega, fun hn => h fun i hi => by
        by_cases e : i = n
        · rw [e]; exact hn
        · exact c i (by omega), c⟩
    · obtain ⟨k, h1, h2, h3⟩ := first_bad n c
      exact ⟨k, by omega, h2, h3⟩
theorem sadY {a b : ByteArray} (h : a.size + b.size ≤ 1000000) : sadok a b = true := by
  unfold sadok
  have : IntKind.i64.max = 9223372036854775807 := by decide
  rw [this]
  exact decide_eq_true (by omega)
theorem ext_bstr {l : List Int} {i j : Nat} : (bstr l).extract i j = bstr ((l.take j).drop i) := by
  unfold bstr
  apply ByteArray.ext
  simp [List.drop_take]
theorem getI_drop {l d r : List Int} {i j : Nat} (h : l.drop i = d ++ r) (hj : j < d.length) : inL l ((i : Int) + j) ∧ getI l ((i : Int) + j) = d[j] := by
  have h2 : l[i + j]? = some d[j] := by
    have := congrArg (fun t => t[j]?) h
    simp only [List.getElem?_drop] at this
    rw [this, List.getElem?_append_left hj, List.getElem?_eq_getElem hj]
  have h3 : i + j < l.length := (List.getElem?_eq_some_iff.1 h2).1
  refine ⟨⟨by omega, by omega⟩, ?_⟩
  have := getI_nat h2
  rw [← this]
  rfl
theorem drop_len {l d r : List Int} {i : Nat} (h : l.drop i = d ++ r) (hi : i ≤ l.length) : i + d.length + r.length = l.length := by
  have := congrArg List.length h
  simp at this; omega
theorem drop_more {l d r : List Int} {i : Nat} (h : l.drop i = d ++ r) : l.drop (i + d.length) = r := by
  rw [← List.drop_drop, h, List.drop_left]
theorem ext_one {l d r : List Int} {i j : Nat} (h : l.drop i = d ++ r) (hj : j < d.length) : (bstr l).extract (i + j) (i + j + 1) = bstr [d[j]] := by
  have h3 := getI_drop h hj
  rw [ext_bstr]
  have h2 : l[i + j]? = some d[j] := by
    have := getI_get? h3.1
    rw [h3.2] at this
    rw [← this]; congr 1
  congr 1
  rw [List.take_add_one, h2, List.drop_append]
  have h4 : i + j < l.length := (List.getElem?_eq_some_iff.1 h2).1
  rw [List.drop_of_length_le (by simp; omega), List.length_take, show i + j - min (i + j) l.length = 0 by omega]
  rfl
/-! ### What stands between commas -/
def joinL : List (List Int) → List Int
  | [] => []
  | [d] => d
  | d :: e :: r => d ++ 44 :: joinL (e :: r)
theorem joinL_snoc {d : List Int} : ∀ {ps : List (List Int)}, joinL (ps ++ [d]) = if ps = [] then d else joinL ps ++ 44 :: d
  | [] => rfl
  | [p] => rfl
  | p :: q :: r => by
    have ih := joinL_snoc (d := d) (ps := q :: r)
    rw [if_neg (by simp)] at ih ⊢
    show p ++ 44 :: joinL ((q :: r) ++ [d]) = (p ++ 44 :: joinL (q :: r)) ++ 44 :: d
    rw [ih]; simp
theorem joinL_b {ps : List (List Int)} (hb : ∀ d ∈ ps, ∀ x ∈ d, 0 ≤ x ∧ x < 256) : ∀ x ∈ joinL ps, 0 ≤ x ∧ x < 256 := by
  induction ps with
  | nil => intro x hx; cases hx
  | cons d r ih =>
    cases r with
    | nil => exact hb d (by simp)
    | cons e r =>
      intro x hx
      rcases List.mem_append.1 hx with h | h
      · exact hb d (by simp) x h
      · rcases List.mem_cons.1 h with rfl | h
        · omega
        · exact ih (fun d hd => hb d (by simp [List.mem_cons] at hd ⊢; exact .inr hd)) x h
theorem joinL_len {k : Nat} {ps : List (List Int)} (hk : ∀ d ∈ ps, d.length ≤ k) : (joinL ps).length ≤ (k + 1) * ps.length := by
  induction ps with
  | nil => simp [joinL]
  | cons d r ih =>
    have hd := hk d (by simp)
    cases r with
    | nil => simp [joinL]; omega
    | cons e r =>
      have := ih (fun d hd => hk d (by simp [List.mem_cons] at hd ⊢; exact .inr hd))
      have e1 : (joinL (d :: e :: r)).length = d.length + (joinL (e :: r)).length + 1 := by
        show (d ++ 44 :: joinL (e :: r)).length = _
        simp; omega
      rw [e1, List.length_cons, Nat.mul_add]; omega
abbrev fSp (L : List Int) := fun s : (List ByteArray) × Nat × Int => match s with | (l2, n3, v4) => palingref03_Split_L1 (bstr L) l2 n3 v4
section
variable {L : List Int} (hb : ∀ x ∈ L, 0 ≤ x ∧ x < 256) (hL : L.length ≤ 100000)
include hb hL
theorem spl_in {d r : List Int} {i : Nat} {A : List ByteArray} (h : L.drop i = d ++ r) (hi : i ≤ L.length) (hd : ∀ x ∈ d, x ≠ 44) (hA : A.length ≤ 100000) :
    Rch (fSp L) d.length (A ++ [bstr []], A.length + 1, (i : Int)) (A ++ [bstr d], A.length + 1, ((i + d.length : Nat) : Int)) := by
  have hlen := drop_len h hi
  have e := Rch.steps (f := fSp L) (fun j => (A ++ [bstr (d.take j)], A.length + 1, ((i + j : Nat) : Int))) d.length (fun j hj => by
    obtain ⟨il, gx⟩ := getI_drop h hj
    have hx := ext_one h hj
    have hbt : byteAt (bstr L) ((i : Int) + j) = d[j] := by rw [byteAt_bstr hb il, gx]
    have h44 := hd d[j] (List.getElem_mem _)
    have htk : d.take (j + 1) = d.take j ++ [d[j]] := by rw [List.take_add_one, List.getElem?_eq_getElem hj]; rfl
    show palingref03_Split_L1 (bstr L) (A ++ [bstr (d.take j)]) (A.length + 1) ((i + j : Nat) : Int) = _
    have c1 : ((i + j : Nat) : Int) = (i : Int) + j := by omega
    unfold palingref03_Split_L1
    have w1 : wr_i64 (((A.length + 1 : Nat) : Int) - 1) = A.length := by rw [wr64 (by omega) (by omega)]; omega
    have w2 : wr_i64 ((i : Int) + j + 1) = ((i + j + 1 : Nat) : Int) := by rw [wr64 (by omega) (by omega)]; omega
    have sl : slok (bstr L).size ((i : Int) + j) ((i + j + 1 : Nat) : Int) = true := by rw [slok_dec, bstr_size]; exact decide_eq_true ⟨by omega, by omega, by omega⟩
    have t1 : ((i : Int) + j).toNat = i + j := by omega
    have sa : sadok (bstr (d.take j)) (bstr [d[j]]) = true := sadY (by rw [bstr_size, bstr_size]; simp; omega)
    rw [c1, bstr_size, if_pos (decide_eq_true (by omega)), if_pos (decide_eq_true (by omega)), hbt, if_neg (by simpa using h44), w1, if_pos (by rw [lin_dec]; exact decide_eq_true ⟨by omega, by simp; omega⟩), w2]
    simp only [Int.toNat_natCast]
    rw [List.getElem?_append_right (Nat.le_refl _), Nat.sub_self]
    simp only [List.getElem?_cons_zero, Option.bind_some]
    rw [← bstr_size, if_pos sl, t1, hx, if_pos sa, bstr_app, htk, List.set_append_right _ _ (Nat.le_refl _), Nat.sub_self, List.set_cons_zero]
    rfl)
  simpa using e
theorem spl_com {r : List Int} {i : Nat} {A : List ByteArray} (h : L.drop i = 44 :: r) (hi : i ≤ L.length) (hA : A.length ≤ 100000) :
    Rch (fSp L) 1 (A, A.length, (i : Int)) (A ++ [bstr []], A.length + 1, ((i + 1 : Nat) : Int)) := by
  have h' : L.drop i = [44] ++ r := h
  obtain ⟨il, gx⟩ := getI_drop (j := 0) h' (by simp)
  have hlen := drop_len h' hi
  simp only [List.length_singleton] at hlen
  rw [show (i : Int) + ((0 : Nat) : Int) = (i : Int) by omega] at il gx
  refine Rch.one ?_
  show palingref03_Split_L1 (bstr L) A A.length (i : Int) = _
  unfold palingref03_Split_L1
  have hbt : byteAt (bstr L) (i : Int) = 44 := by rw [byteAt_bstr hb il, gx]; rfl
  rw [bstr_size, if_pos (decide_eq_true (by omega)), if_pos (decide_eq_true (by omega)), hbt, if_pos (show ((44 : Int) == 44) = true from rfl), if_pos (roomy_few (by simp; omega)), wr64 (by omega) (by omega), List.length_append]
  rfl
theorem spl_all : ∀ (ps : List (List Int)) (A : List ByteArray) (i : Nat), ps ≠ [] → (∀ d ∈ ps, ∀ x ∈ d, x ≠ 44) → L.drop i = joinL ps → i ≤ L.length → A.length + ps.length ≤ 100000 →
    ∃ k, k ≤ L.length - i ∧ Rch (fSp L) k (A ++ [bstr []], A.length + 1, (i : Int)) (A ++ ps.map bstr, A.length + ps.length, (L.length : Int))
  | [], _, _, h, _, _, _, _ => absurd rfl h
  | [d], A, i, _, hd, h, hi, hA => by
    have h' : L.drop i = d ++ [] := by rw [h]; simp [joinL]
    have hlen := drop_len h' hi
    simp only [List.length_nil, Nat.add_zero] at hlen
    have e := spl_in hb hL h' hi (hd d (by simp)) (A := A) (by simp at hA; omega)
    rw [hlen] at e
    exact ⟨d.length, by omega, e⟩
  | d :: e :: r, A, i, _, hd, h, hi, hA => by
    have h' : L.drop i = d ++ 44 :: joinL (e :: r) := h
    have hlen := drop_len h' hi
    simp only [List.length_cons] at hlen hA
    have h2 := drop_more h'
    have h3 : L.drop (i + d.length + 1) = joinL (e :: r) := by rw [← List.drop_drop, h2]; rfl
    have e1 := spl_in hb hL h' hi (hd d (by simp)) (A := A) (by omega)
    have e2 := spl_com hb hL h2 (by omega) (A := A ++ [bstr d]) (by simp; omega)
    rw [List.length_append, List.length_singleton] at e2
    obtain ⟨k, hk, e3⟩ := spl_all (e :: r) (A ++ [bstr d]) (i + d.length + 1) (by simp) (fun x hx => hd x (by simp [List.mem_cons] at hx ⊢; exact .inr hx)) h3 (by omega) (by simp; omega)
    rw [List.length_append, List.length_singleton] at e3
    refine ⟨d.length + 1 + k, by omega, ?_⟩
    have e4 := (e1.trans e2).trans e3
    rw [show A.length + 1 + (e :: r).length = A.length + (d :: e :: r).length by simp; omega] at e4
    simpa using e4
end
theorem split_spec {ps : List (List Int)} (h0 : ps ≠ []) (hb : ∀ d ∈ ps, ∀ x ∈ d, 0 ≤ x ∧ x < 256) (hd : ∀ d ∈ ps, ∀ x ∈ d, x ≠ 44) (hL : (joinL ps).length ≤ 100000) (hP : ps.length ≤ 100000) : palingref03_Split (bstr (joinL ps)) = some (ps.map bstr, ps.length) := by
  obtain ⟨k, hk, e⟩ := spl_all (joinL_b hb) hL ps [] 0 h0 hd rfl (by omega) (by simpa using hP)
  have e2 := e.out (by omega) (r := (ps.map bstr, ps.length)) (by
    show palingref03_Split_L1 (bstr (joinL ps)) ([] ++ ps.map bstr) (([] : List ByteArray).length + ps.length) ((joinL ps).length : Int) = _
    unfold palingref03_Split_L1
    rw [bstr_size, if_neg (by simp)]
    simp)
  unfold palingref03_Split
  have e3 : loopM (fSp (joinL ps)) ([(⟨#[]⟩ : ByteArray)], (List.length [(⟨#[]⟩ : ByteArray)]), 0) = some (ps.map bstr, ps.length) := e2
  rw [e3]; rfl
/-! ### Lists of numbers -/
def textL (n : Int) : List Int := if n < 0 then 45 :: digL (-n).toNat else digL n.toNat
theorem textI_L {n : Int} : textI n = bstr (textL n) := by unfold textI textL; split <;> rfl
theorem textL_c {n : Int} : ∀ x ∈ textL n, x = 45 ∨ 48 ≤ x ∧ x ≤ 57 := by
  intro x hx
  unfold textL at hx
  split at hx
  · rcases List.mem_cons.1 hx with h | h
    · exact .inl h
    · exact .inr (digL_mem _ _ (Nat.le_refl _) x h)
  · exact .inr (digL_mem _ _ (Nat.le_refl _) x hx)
theorem textL_len {n : Int} (n1 : -9223372036854775808 ≤ n) (n2 : n < 9223372036854775808) : (textL n).length ≤ 21 ∧ 1 ≤ (textL n).length := by
  unfold textL
  split
  · have := digL_len 19 (-n).toNat (by omega)
    simp; omega
  · have := digL_len 19 n.toNat (by omega)
    omega
theorem textL_hd {n : Int} (n1 : -9223372036854775808 ≤ n) (n2 : n < 9223372036854775808) : textL n ≠ [45] := by
  unfold textL
  split
  · have := digL_len 19 (-n).toNat (by omega)
    intro h
    simp at h; rw [h] at this; simp at this
  · intro h
    have := digL_mem n.toNat n.toNat (Nat.le_refl _) 45 (by rw [h]; simp)
    omega
section
variable {l : List Int} (hl : l.length ≤ 16) (ho : ∀ x ∈ l, -9223372036854775808 ≤ x ∧ x < 9223372036854775808)
include hl ho
theorem comL_len (k : Nat) : (joinL ((l.take k).map textL)).length ≤ 400 := by
  have := joinL_len (k := 21) (ps := (l.take k).map textL) (fun d hd => by
    obtain ⟨x, hx, rfl⟩ := List.mem_map.1 hd
    exact (textL_len (ho x (List.mem_of_mem_take hx)).1 (ho x (List.mem_of_mem_take hx)).2).1)
  simp only [List.length_map, List.length_take] at this; omega
theorem listText_spec : palingref03_ListText l = some (bstr (joinL (l.map textL))) := by
  have e := loopM_trace (f := fun s : ByteArray × Int => match s with | (v2, v3) => palingref03_ListText_L1 l v2 v3) (r := bstr (joinL (l.map textL))) (fun i => (bstr (joinL ((l.take i).map textL)), (i : Int))) l.length (by omega) (fun i hi => by
    have il : inL l (i : Int) := ⟨by omega, by omega⟩
    have hm := getI_mem il
    have hx := ho _ hm
    have hst : l.take (i + 1) = l.take i ++ [getI l (i : Int)] := by
      have := getI_get? il
      simp only [Int.toNat_natCast] at this
      rw [List.take_add_one, this]; rfl
    have h1 := comL_len hl ho i
    have h2 := comL_len hl ho (i + 1)
    have ht := textL_len hx.1 hx.2
    show palingref03_ListText_L1 l (bstr (joinL ((l.take i).map textL))) (i : Int) = _
    unfold palingref03_ListText_L1
    rw [if_pos (decide_eq_true (by omega)), nth_getI il, hst, List.map_append, List.map_singleton, joinL_snoc]
    simp only [Option.bind_some, rText_spec hx.1 hx.2, textI_L]
    rw [wr64 (by omega) (by omega)]
    by_cases c : i = 0
    · subst c
      have sa : sadok (bstr (joinL ((l.take 0).map textL))) (bstr (textL (getI l ((0 : Nat) : Int)))) = true := sadY (by rw [bstr_size, bstr_size]; simp only [List.map_take] at h1 ⊢; omega)
      rw [if_neg (by simp), if_pos sa, if_pos (by simp), bstr_app]
      rfl
    · have s1 : sadok (bstr (joinL ((l.take i).map textL))) (⟨#[44]⟩ : ByteArray) = true := sadY (by rw [bstr_size, show (⟨#[44]⟩ : ByteArray).size = 1 from rfl]; omega)
      have e44 : (⟨#[44]⟩ : ByteArray) = bstr [44] := by rfl
      have s2 : sadok (bstr (joinL ((l.take i).map textL) ++ [44])) (bstr (textL (getI l (i : Int)))) = true := sadY (by rw [bstr_size, bstr_size, List.length_append, List.length_singleton]; omega)
      have hne : ¬ (l.take i).map textL = [] := by rw [List.map_eq_nil_iff, List.take_eq_nil_iff]; rintro (h | h); exact c h; rw [h] at hi; simp at hi
      rw [if_pos (decide_eq_true (by omega)), if_pos s1, e44, bstr_app, if_pos s2, bstr_app, if_neg hne]
      simp) (by
    show palingref03_ListText_L1 l (bstr (joinL ((l.take l.length).map textL))) (l.length : Int) = _
    unfold palingref03_ListText_L1
    rw [if_neg (by simp), List.take_length])
  unfold palingref03_ListText
  have e' : loopM (fun s : ByteArray × Int => match s with | (v2, v3) => palingref03_ListText_L1 l v2 v3) ((⟨#[]⟩ : ByteArray), 0) = some (bstr (joinL (l.map textL))) := e
  rw [e']; rfl
theorem readList_spec (h0 : l ≠ []) {lo hi : Int} (l0 : 0 ≤ lo) (h1 : hi ≤ 4294967295) : palingref03_ReadList (bstr (joinL (l.map textL))) lo hi = some (if RisingP l lo hi then (l, true) else ([], false)) := by
  have hc : (joinL (l.map textL)).length ≤ 400 := by have := comL_len hl ho l.length; rwa [List.take_length] at this
  have hsp := split_spec (ps := l.map textL) (by simpa using h0) (fun d hd x hx => by
      obtain ⟨y, hy, rfl⟩ := List.mem_map.1 hd
      have := textL_c x hx; omega) (fun d hd x hx => by
      obtain ⟨y, hy, rfl⟩ := List.mem_map.1 hd
      have := textL_c x hx; omega) (by omega) (by simp; omega)
  unfold palingref03_ReadList
  rw [hsp, Option.bind_some]
  simp only [List.map_map, List.length_map]
  have hstep : ∀ i : Nat, i < l.length → (fun s : (List Int) × Int => match s with | (l8, v9) => palingref03_ReadList_L1 lo hi (l.map (bstr ∘ textL)) l.length l8 v9) (l.take i, (i : Int)) = some (if lo ≤ getI l (i : Int) ∧ getI l (i : Int) ≤ hi then .inl (l.take (i + 1), ((i + 1 : Nat) : Int)) else .inr (.inl ())) := fun i hi' => by
    have il : inL l (i : Int) := ⟨by omega, by omega⟩
    have hx := ho _ (getI_mem il)
    have hg : (l.map (bstr ∘ textL))[((i : Nat) : Int).toNat]? = some (textI (getI l (i : Int))) := by
      rw [List.getElem?_map, getI_get? il, textI_L]; rfl
    have hst : l.take (i + 1) = l.take i ++ [getI l (i : Int)] := by
      have := getI_get? il
      simp only [Int.toNat_natCast] at this
      rw [List.take_add_one, this]; rfl
    show palingref03_ReadList_L1 lo hi (l.map (bstr ∘ textL)) l.length (l.take i) (i : Int) = _
    unfold palingref03_ReadList_L1
    rw [if_pos (decide_eq_true (by omega)), if_pos (by rw [lin_dec]; exact decide_eq_true ⟨by omega, by simp; omega⟩), hg, Option.bind_some, rRead_text hx.1 hx.2 l0 h1, Option.bind_some]
    by_cases c : lo ≤ getI l (i : Int) ∧ getI l (i : Int) ≤ hi
    · simp only [c, and_self, if_true, Bool.not_true, Bool.false_eq_true, if_false]
      rw [if_pos (roomy_few (by simp; omega)), hst, wr64 (by omega) (by omega)]
      rfl
    · rw [if_neg c, if_neg c]; rfl
  by_cases hall : ∀ i : Nat, i < l.length → lo ≤ getI l (i : Int) ∧ getI l (i : Int) ≤ hi
  · have e := loopM_trace (f := fun s : (List Int) × Int => match s with | (l8, v9) => palingref03_ReadList_L1 lo hi (l.map (bstr ∘ textL)) l.length l8 v9) (r := Sum.inr l) (fun i => (l.take i, (i : Int))) l.length (by omega) (fun i hi' => (hstep i hi').trans (by rw [if_pos (hall i hi')])) (by
      show palingref03_ReadList_L1 lo hi (l.map (bstr ∘ textL)) l.length (l.take l.length) (l.length : Int) = _
      unfold palingref03_ReadList_L1
      rw [if_neg (by simp), List.take_length])
    have e' : loopM (fun s : (List Int) × Int => match s with | (l8, v9) => palingref03_ReadList_L1 lo hi (l.map (bstr ∘ textL)) l.length l8 v9) ([], 0) = some (Sum.inr l) := e
    rw [e', Option.bind_some]
    simp only
    rw [rRising3_spec (by unfold Few; omega), Option.bind_some]
    by_cases c : RisingP l lo hi
    · simp [c]
    · simp [c]
  · have hne : ¬ RisingP l lo hi := fun h => hall fun i hi' => by
      have := h.1 (i : Int) ⟨by omega, by omega⟩
      exact ⟨this.1, this.2.1⟩
    obtain ⟨k, hk, hbad, hlt⟩ := first_bad l.length hall
    have e := loopM_trace (f := fun s : (List Int) × Int => match s with | (l8, v9) => palingref03_ReadList_L1 lo hi (l.map (bstr ∘ textL)) l.length l8 v9) (r := Sum.inl ()) (fun i => (l.take i, (i : Int))) k (by omega) (fun i hi' => (hstep i (by omega)).trans (by rw [if_pos (hlt i hi')])) ((hstep k hk).trans (by rw [if_neg hbad]))
    have e' : loopM (fun s : (List Int) × Int => match s with | (l8, v9) => palingref03_ReadList_L1 lo hi (l.map (bstr ∘ textL)) l.length l8 v9) ([], 0) = some (Sum.inl ()) := e
    rw [e', Option.bind_some, if_neg hne]
end
end Go.Eng
