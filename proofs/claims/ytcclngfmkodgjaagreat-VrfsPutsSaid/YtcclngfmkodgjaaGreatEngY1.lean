/- Chapters 02 and 03: texts of addresses, and of lists of them, on the reference's side. -/
import Derived.Test.YtcclngfmkodgjaaGreatEngY0
set_option linter.unusedVariables false
set_option linter.unusedSectionVars false
set_option linter.unusedSimpArgs false
namespace Go.Eng
open Go Classical
def dec3 (n : Nat) : List Int := if n < 10 then [48 + (n : Int)] else if n < 100 then [48 + ((n / 10 : Nat) : Int), 48 + ((n % 10 : Nat) : Int)] else [48 + ((n / 100 : Nat) : Int), 48 + ((n / 10 % 10 : Nat) : Int), 48 + ((n % 10 : Nat) : Int)]
theorem dec3_len {n : Nat} : (dec3 n).length ≤ 3 ∧ 1 ≤ (dec3 n).length := by unfold dec3; split <;> (try split) <;> simp
theorem dec3_c {n : Nat} (h : n < 256) : ∀ x ∈ dec3 n, 48 ≤ x ∧ x ≤ 57 := by
  intro x hx
  unfold dec3 at hx
  split at hx
  · simp at hx; omega
  · split at hx
    · simp at hx; omega
    · simp at hx; omega
def chkD (n : Nat) : Bool := (match palingref02_number (n : Int) with | some s => seqB s (bstr (dec3 n)) | none => false) && (match palingref02_digits (bstr (dec3 n)) with | some v => v == (n : Int) | none => false)
theorem chkD_all : (List.range 256).all chkD = true := by kernel_rfl
theorem dec3_spec {n : Nat} (h : n < 256) : palingref02_number (n : Int) = some (bstr (dec3 n)) ∧ palingref02_digits (bstr (dec3 n)) = some (n : Int) := by
  have h2 := List.all_eq_true.1 chkD_all n (List.mem_range.2 h)
  unfold chkD at h2
  rw [Bool.and_eq_true] at h2
  obtain ⟨a, b⟩ := h2
  constructor
  · cases hx : palingref02_number (n : Int) with
    | none => rw [hx] at a; simp at a
    | some s => rw [hx] at a; simp only [seqB_dec] at a; rw [of_decide_eq_true a]
  · cases hx : palingref02_digits (bstr (dec3 n)) with
    | none => rw [hx] at b; simp at b
    | some s => rw [hx] at b; simp at b; rw [b]
def addrL (a : Int) : List Int := dec3 (a / 16777216).toNat ++ 46 :: (dec3 (a / 65536 % 256).toNat ++ 46 :: (dec3 (a / 256 % 256).toNat ++ 46 :: dec3 (a % 256).toNat))
theorem addrL_c {a : Int} (a0 : 0 ≤ a) (a1 : a < 4294967296) : ∀ x ∈ addrL a, x = 46 ∨ 48 ≤ x ∧ x ≤ 57 := by
  intro x hx
  unfold addrL at hx
  simp only [List.mem_append, List.mem_cons] at hx
  rcases hx with h | rfl | h | rfl | h | rfl | h
  · exact .inr (dec3_c (by omega) x h)
  · exact .inl rfl
  · exact .inr (dec3_c (by omega) x h)
  · exact .inl rfl
  · exact .inr (dec3_c (by omega) x h)
  · exact .inl rfl
  · exact .inr (dec3_c (by omega) x h)
theorem addrL_len {a : Int} : (addrL a).length ≤ 15 ∧ 1 ≤ (addrL a).length := by
  have h1 := dec3_len (n := (a / 16777216).toNat)
  have h2 := dec3_len (n := (a / 65536 % 256).toNat)
  have h3 := dec3_len (n := (a / 256 % 256).toNat)
  have h4 := dec3_len (n := (a % 256).toNat)
  unfold addrL
  simp only [List.length_append, List.length_cons]; omega
theorem e46 : (⟨#[46]⟩ : ByteArray) = bstr [46] := by rfl
theorem addrText_of {a : Int} {q3 q2 q1 q0 : Nat} (b3 : q3 < 256) (b2 : q2 < 256) (b1 : q1 < 256) (b0 : q0 < 256) (e3 : wr_i64 (Int.tdiv (wr_i64 a) 16777216) = (q3 : Int)) (e2 : Int.tmod (wr_i64 (Int.tdiv (wr_i64 a) 65536)) 256 = (q2 : Int)) (e1 : Int.tmod (wr_i64 (Int.tdiv (wr_i64 a) 256)) 256 = (q1 : Int)) (e0 : Int.tmod (wr_i64 a) 256 = (q0 : Int)) :
    palingref02_Text a = some (bstr (dec3 q3 ++ 46 :: (dec3 q2 ++ 46 :: (dec3 q1 ++ 46 :: dec3 q0)))) := by
  have h1 := dec3_len (n := q3)
  have h2 := dec3_len (n := q2)
  have h3 := dec3_len (n := q1)
  have h4 := dec3_len (n := q0)
  have n1 := (dec3_spec b3).1
  have n2 := (dec3_spec b2).1
  have n3 := (dec3_spec b1).1
  have n4 := (dec3_spec b0).1
  have hs : ∀ {x y : List Int}, x.length + y.length ≤ 1000 → sadok (bstr x) (bstr y) = true := fun h => sadY (by rw [bstr_size, bstr_size]; omega)
  unfold palingref02_Text
  rw [e3, e2, e1, e0, n1, n2, n3, n4]
  rw [e46]
  generalize dec3 q3 = d1 at *
  generalize dec3 q2 = d2 at *
  generalize dec3 q1 = d3 at *
  generalize dec3 q0 = d4 at *
  clear n1 n2 n3 n4 e3 e2 e1 e0
  have s1 : sadok (bstr d1) (bstr [46]) = true := hs (by simp only [List.length_singleton]; omega)
  have s2 : sadok (bstr (d1 ++ [46])) (bstr d2) = true := hs (by simp only [List.length_append, List.length_singleton]; omega)
  have s3 : sadok (bstr (d1 ++ [46] ++ d2)) (bstr [46]) = true := hs (by simp only [List.length_append, List.length_singleton]; omega)
  have s4 : sadok (bstr (d1 ++ [46] ++ d2 ++ [46])) (bstr d3) = true := hs (by simp only [List.length_append, List.length_singleton]; omega)
  have s5 : sadok (bstr (d1 ++ [46] ++ d2 ++ [46] ++ d3)) (bstr [46]) = true := hs (by simp only [List.length_append, List.length_singleton]; omega)
  have s6 : sadok (bstr (d1 ++ [46] ++ d2 ++ [46] ++ d3 ++ [46])) (bstr d4) = true := hs (by simp only [List.length_append, List.length_singleton]; omega)
  rw [Option.bind_some, if_pos s1, Option.bind_some, bstr_app, if_pos s2, bstr_app, if_pos s3, Option.bind_some, bstr_app, if_pos s4, bstr_app, if_pos s5, Option.bind_some, bstr_app, if_pos s6, bstr_app]
  simp
theorem addrText_spec {a : Int} (a0 : 0 ≤ a) (a1 : a < 4294967296) : palingref02_Text a = some (bstr (addrL a)) := by
  have w : wr_i64 a = a := wr64 (by omega) (by omega)
  refine addrText_of (by omega) (by omega) (by omega) (by omega) ?_ ?_ ?_ ?_
  · rw [w, Int.tdiv_eq_ediv_of_nonneg a0, wr64 (by omega) (by omega)]; omega
  · rw [w, Int.tdiv_eq_ediv_of_nonneg a0, wr64 (by omega) (by omega), Int.tmod_eq_emod_of_nonneg (by omega)]; omega
  · rw [w, Int.tdiv_eq_ediv_of_nonneg a0, wr64 (by omega) (by omega), Int.tmod_eq_emod_of_nonneg (by omega)]; omega
  · rw [w, Int.tmod_eq_emod_of_nonneg (by omega)]; omega
abbrev fAd (L : List Int) := fun s : Int × Int × ByteArray × Int => match s with | (v2, v3, v4, v5) => palingref02_Read_L1 (bstr L) v2 v3 v4 v5
section
variable {L : List Int} (hb : ∀ x ∈ L, 0 ≤ x ∧ x < 256) (hL : L.length ≤ 1000)
include hb hL
theorem ad_in {d r : List Int} {i : Nat} {acc k : Int} (h : L.drop i = d ++ r) (hi : i ≤ L.length) (hd : ∀ x ∈ d, x ≠ 46) (h3 : d.length ≤ 3) :
    Rch (fAd L) d.length (acc, k, bstr [], (i : Int)) (acc, k, bstr d, ((i + d.length : Nat) : Int)) := by
  have hlen := drop_len h hi
  have e := Rch.steps (f := fAd L) (fun j => (acc, k, bstr (d.take j), ((i + j : Nat) : Int))) d.length (fun j hj => by
    obtain ⟨il, gx⟩ := getI_drop h hj
    have hx := ext_one h hj
    have hbt : byteAt (bstr L) ((i : Int) + j) = d[j] := by rw [byteAt_bstr hb il, gx]
    have h46 := hd d[j] (List.getElem_mem _)
    have htk : d.take (j + 1) = d.take j ++ [d[j]] := by rw [List.take_add_one, List.getElem?_eq_getElem hj]; rfl
    show palingref02_Read_L1 (bstr L) acc k (bstr (d.take j)) ((i + j : Nat) : Int) = _
    have c1 : ((i + j : Nat) : Int) = (i : Int) + j := by omega
    have w2 : wr_i64 ((i : Int) + j + 1) = ((i + j + 1 : Nat) : Int) := by rw [wr64 (by omega) (by omega)]; omega
    have sl : slok (bstr L).size ((i : Int) + j) ((i + j + 1 : Nat) : Int) = true := by rw [slok_dec, bstr_size]; exact decide_eq_true ⟨by omega, by omega, by omega⟩
    have t1 : ((i : Int) + j).toNat = i + j := by omega
    have sa : sadok (bstr (d.take j)) (bstr [d[j]]) = true := sadY (by rw [bstr_size, bstr_size]; simp; omega)
    have hJ : palingref02_Read_J2 (bstr L) acc k (bstr (d.take j)) ((i : Int) + j) = some true := by
      unfold palingref02_Read_J2
      rw [bstr_size, if_pos (decide_eq_true (by omega)), if_pos (decide_eq_true (by omega)), hbt]
      simpa using h46
    unfold palingref02_Read_L1
    rw [c1, hJ, if_pos (by rw [bstr_size]; exact decide_eq_true (by omega)), Option.bind_some]
    simp only [if_true]
    rw [w2, if_pos sl]
    have hsz : ¬ decide (((bstr (d.take j ++ [d[j]])).size : Int) > 3) = true := by rw [bstr_size]; simp; omega
    simp only [Int.toNat_natCast, t1, hx, sa, if_true, bstr_app]
    rw [if_neg hsz, htk]
    rfl)
  simpa using e
theorem ad_end {d : List Int} {p : Nat} {acc k n : Int} (hp : p ≤ L.length) (h46 : p = L.length ∨ ∃ r, L.drop p = 46 :: r) (hn : palingref02_digits (bstr d) = some n) (n0 : 0 ≤ n) (n1 : n ≤ 255) (k0 : 0 ≤ k) (k1 : k ≤ 3) (a0 : 0 ≤ acc) (a1 : acc ≤ 4294967296) :
    Rch (fAd L) 1 (acc, k, bstr d, (p : Int)) (acc * 256 + n, k + 1, bstr [], ((p + 1 : Nat) : Int)) := by
  have hJ : palingref02_Read_J2 (bstr L) acc k (bstr d) (p : Int) = some false := by
    unfold palingref02_Read_J2
    rcases h46 with h | ⟨r, h⟩
    · rw [bstr_size, if_neg (by simp; omega)]
    · have h' : L.drop p = [46] ++ r := h
      obtain ⟨il, gx⟩ := getI_drop (j := 0) h' (by simp)
      rw [show (p : Int) + ((0 : Nat) : Int) = (p : Int) by omega] at il gx
      have i2 := il.2
      rw [bstr_size, if_pos (decide_eq_true (by omega)), if_pos (decide_eq_true (by omega)), byteAt_bstr hb il, gx]
      rfl
  refine Rch.one ?_
  show palingref02_Read_L1 (bstr L) acc k (bstr d) (p : Int) = _
  unfold palingref02_Read_L1
  rw [hJ, if_pos (by rw [bstr_size]; exact decide_eq_true (by omega)), Option.bind_some]
  simp only
  rw [if_neg (by simp), hn, Option.bind_some, if_neg (by simpa using n1), if_neg (by simpa using k1), Option.bind_some, wr64 (n := acc * 256) (by omega) (by omega), wr64 (n := acc * 256 + n) (by omega) (by omega), wr64 (n := k + 1) (by omega) (by omega), wr64 (n := (p : Int) + 1) (by omega) (by omega)]
  rfl
theorem ad_seg {m i : Nat} {r : List Int} {acc k : Int} (hm : m < 256) (h : L.drop i = dec3 m ++ r) (hi : i ≤ L.length) (hr : r = [] ∨ ∃ q, r = 46 :: q) (k0 : 0 ≤ k) (k1 : k ≤ 3) (a0 : 0 ≤ acc) (a1 : acc ≤ 4294967296) :
    Rch (fAd L) ((dec3 m).length + 1) (acc, k, bstr [], (i : Int)) (acc * 256 + m, k + 1, bstr [], ((i + (dec3 m).length + 1 : Nat) : Int)) := by
  have hlen := drop_len h hi
  refine (ad_in hb hL h hi (fun x hx => by have := dec3_c hm x hx; omega) dec3_len.1).trans (ad_end hb hL (by omega) ?_ (dec3_spec hm).2 (by omega) (by omega) k0 k1 a0 a1)
  rcases hr with rfl | ⟨q, rfl⟩
  · left; simp at hlen; omega
  · right; exact ⟨q, drop_more h⟩
end
theorem addrRead_spec {a : Int} (a0 : 0 ≤ a) (a1 : a < 4294967296) : palingref02_Read (bstr (addrL a)) = some (a, true) := by
  have hc := addrL_c a0 a1
  have hb : ∀ x ∈ addrL a, 0 ≤ x ∧ x < 256 := fun x hx => by have := hc x hx; omega
  have hl := addrL_len (a := a)
  have d0 : (addrL a).drop 0 = dec3 (a / 16777216).toNat ++ 46 :: (dec3 (a / 65536 % 256).toNat ++ 46 :: (dec3 (a / 256 % 256).toNat ++ 46 :: dec3 (a % 256).toNat)) := rfl
  have l0 := drop_len d0 (by omega)
  have d1' := drop_more d0
  have d1 : (addrL a).drop (0 + (dec3 (a / 16777216).toNat).length + 1) = dec3 (a / 65536 % 256).toNat ++ 46 :: (dec3 (a / 256 % 256).toNat ++ 46 :: dec3 (a % 256).toNat) := by rw [← List.drop_drop, d1']; rfl
  have d2' := drop_more d1
  have d2 : (addrL a).drop (0 + (dec3 (a / 16777216).toNat).length + 1 + (dec3 (a / 65536 % 256).toNat).length + 1) = dec3 (a / 256 % 256).toNat ++ 46 :: dec3 (a % 256).toNat := by rw [← List.drop_drop, d2']; rfl
  have d3' := drop_more d2
  have d3 : (addrL a).drop (0 + (dec3 (a / 16777216).toNat).length + 1 + (dec3 (a / 65536 % 256).toNat).length + 1 + (dec3 (a / 256 % 256).toNat).length + 1) = dec3 (a % 256).toNat ++ [] := by rw [← List.drop_drop, d3', List.append_nil]; rfl
  simp only [List.length_append, List.length_cons] at l0
  have g0 := ad_seg hb (by omega) (m := (a / 16777216).toNat) (acc := 0) (k := 0) (by omega) d0 (by omega) (.inr ⟨_, rfl⟩) (by omega) (by omega) (by omega) (by omega)
  have g1 := ad_seg hb (by omega) (m := (a / 65536 % 256).toNat) (acc := 0 * 256 + (((a / 16777216).toNat : Nat) : Int)) (k := 0 + 1) (by omega) d1 (by omega) (.inr ⟨_, rfl⟩) (by omega) (by omega) (by omega) (by omega)
  have g2 := ad_seg hb (by omega) (m := (a / 256 % 256).toNat) (acc := (0 * 256 + (((a / 16777216).toNat : Nat) : Int)) * 256 + (((a / 65536 % 256).toNat : Nat) : Int)) (k := 0 + 1 + 1) (by omega) d2 (by omega) (.inr ⟨_, rfl⟩) (by omega) (by omega) (by omega) (by omega)
  have g3 := ad_seg hb (by omega) (m := (a % 256).toNat) (acc := ((0 * 256 + (((a / 16777216).toNat : Nat) : Int)) * 256 + (((a / 65536 % 256).toNat : Nat) : Int)) * 256 + (((a / 256 % 256).toNat : Nat) : Int)) (k := 0 + 1 + 1 + 1) (by omega) d3 (by omega) (.inl rfl) (by omega) (by omega) (by omega) (by omega)
  have ha : (((0 * 256 + (((a / 16777216).toNat : Nat) : Int)) * 256 + (((a / 65536 % 256).toNat : Nat) : Int)) * 256 + (((a / 256 % 256).toNat : Nat) : Int)) * 256 + (((a % 256).toNat : Nat) : Int) = a := by omega
  rw [ha] at g3
  have e := (((g0.trans g1).trans g2).trans g3).out (by omega) (r := Sum.inr (a, 4)) (by
    show palingref02_Read_L1 (bstr (addrL a)) a (0 + 1 + 1 + 1 + 1) (bstr []) _ = _
    unfold palingref02_Read_L1
    rw [bstr_size, if_neg (by simp only [decide_eq_true_eq]; omega)]
    rfl)
  have e' : loopM (fAd (addrL a)) (0, 0, (⟨#[]⟩ : ByteArray), 0) = some (Sum.inr (a, 4)) := e
  unfold palingref02_Read
  rw [e', Option.bind_some]
  simp only
  rw [if_neg (by decide), wr32 a0 (by omega)]
/-! ### Lists of addresses -/
section
variable {l : List Int} (hl : l.length ≤ 16) (ho : ∀ x ∈ l, 0 ≤ x ∧ x < 4294967296)
include hl ho
end
end Go.Eng
