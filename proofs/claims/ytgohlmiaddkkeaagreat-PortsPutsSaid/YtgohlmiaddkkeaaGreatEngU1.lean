/- Chapter 01: an address's text is read again. -/
import Derived.Test.YtgohlmiaddkkeaaGreatEngT2
import Derived.Test.YtgohlmiaddkkeaaGreatEngGL7a
set_option linter.unusedVariables false
set_option linter.unusedSectionVars false
set_option linter.unusedSimpArgs false
namespace Go.Eng
open Go Classical
def hexC (d : Int) : Int := if d < 10 then 48 + d else 87 + d
theorem hexC_b {d : Int} (h0 : 0 ≤ d) (h1 : d < 16) : 0 ≤ hexC d ∧ hexC d < 256 := by unfold hexC; split <;> omega
abbrev hexD : ByteArray := ⟨#[48, 49, 50, 51, 52, 53, 54, 55, 56, 57, 97, 98, 99, 100, 101, 102]⟩
theorem hex_ex (k : Nat) (hk : k < 16) : ByteArray.extract hexD k (k + 1) = bstr [hexC (k : Int)] := by
  have h : ∀ j : Fin 16, (ByteArray.extract hexD j.val (j.val + 1)).toList = (bstr [hexC (j.val : Int)]).toList := by decide +kernel
  have := h ⟨k, hk⟩
  simp only at this
  have e := seqB_dec (x := ByteArray.extract hexD k (k + 1)) (y := bstr [hexC (k : Int)])
  have t : seqB (ByteArray.extract hexD k (k + 1)) (bstr [hexC (k : Int)]) = true := by unfold seqB; rw [this]; simp
  rw [e] at t
  exact of_decide_eq_true t
def byL (m : Int) : List Int := [m / 1099511627776 % 256, m / 4294967296 % 256, m / 16777216 % 256, m / 65536 % 256, m / 256 % 256, m % 256]
def pc2 (x : Int) : List Int := [hexC (x / 16), hexC (x % 16)]
def macL (m : Int) : List Int := pc2 (m / 1099511627776 % 256) ++ ([58] ++ pc2 (m / 4294967296 % 256)) ++ ([58] ++ pc2 (m / 16777216 % 256)) ++ ([58] ++ pc2 (m / 65536 % 256)) ++ ([58] ++ pc2 (m / 256 % 256)) ++ ([58] ++ pc2 (m % 256))
theorem text_step {l L : List Int} {j : Nat} {x : Int} (hj : (j : Int) < 6) (hin : inL l (j : Int)) (hg : getI l (j : Int) = x) (x0 : 0 ≤ x) (x1 : x < 256) (hL : L.length ≤ 100) :
    palingref01_Text_L1 l (bstr L) (j : Int) = some (.inl (bstr (L ++ ((if 0 < j then [58] else []) ++ pc2 x)), ((j + 1 : Nat) : Int))) := by
  have hmax : IntKind.i64.max = 9223372036854775807 := by decide
  have hsd : ∀ (a b : List Int), a.length ≤ 1000 → b.length ≤ 1000 → sadok (bstr a) (bstr b) = true := fun a b h1 h2 => by
    unfold sadok; rw [hmax, bstr_size, bstr_size]; simp; omega
  have e1 : Int.tdiv x 16 = x / 16 := Int.tdiv_eq_ediv_of_nonneg x0
  have e2 : Int.tmod x 16 = x % 16 := Int.tmod_eq_emod_of_nonneg x0
  have w1 : wr_u8 (x / 16) = x / 16 := wr8 (by omega) (by omega)
  have w2 : wr_u8 (x / 16 + 1) = x / 16 + 1 := wr8 (by omega) (by omega)
  have w3 : wr_u8 (x % 16 + 1) = x % 16 + 1 := wr8 (by omega) (by omega)
  have h16 : hexD.size = 16 := rfl
  have x1' : ByteArray.extract hexD (x / 16).toNat (x / 16 + 1).toNat = bstr [hexC (x / 16)] := by
    have := hex_ex (x / 16).toNat (by omega)
    rw [show (x / 16 + 1).toNat = (x / 16).toNat + 1 from by omega, this, show (((x / 16).toNat : Nat) : Int) = x / 16 from by omega]
  have x2' : ByteArray.extract hexD (x % 16).toNat (x % 16 + 1).toNat = bstr [hexC (x % 16)] := by
    have := hex_ex (x % 16).toNat (by omega)
    rw [show (x % 16 + 1).toNat = (x % 16).toNat + 1 from by omega, this, show (((x % 16).toNat : Nat) : Int) = x % 16 from by omega]
  have h58 : (⟨#[58]⟩ : ByteArray) = bstr [58] := rfl
  have hJ : palingref01_Text_J2 l (bstr L) (j : Int) = some (bstr (L ++ (if 0 < j then [58] else []))) := by
    unfold palingref01_Text_J2
    by_cases c : 0 < j
    · rw [if_pos (by simpa using c), h58, if_pos (hsd _ _ (by omega) (by simp)), bstr_app, if_pos c]
    · rw [if_neg (by simpa using c), if_neg c, List.append_nil]
  generalize hP : L ++ (if 0 < j then [58] else []) = P at *
  have hPl : P.length ≤ 101 := by rw [← hP]; simp; split <;> simp <;> omega
  have s1 : slok hexD.size (x / 16) (x / 16 + 1) = true := by rw [slok_dec, h16]; exact decide_eq_true ⟨by omega, by omega, by omega⟩
  have s2 : slok hexD.size (x % 16) (x % 16 + 1) = true := by rw [slok_dec, h16]; exact decide_eq_true ⟨by omega, by omega, by omega⟩
  unfold palingref01_Text_L1
  rw [if_pos (by simpa using hj), hJ, Option.bind_some]
  simp only [linT1 hin, getI_get? hin, hg, Option.bind_some, if_true, e1, e2, w1, w2, w3]
  rw [if_pos s1, x1', if_pos (hsd _ _ (by omega) (by simp)), if_pos s2, bstr_app, x2', if_pos (hsd _ _ (by simp; omega) (by simp)), bstr_app, wr64 (by omega) (by omega)]
  rw [← List.append_assoc, hP]
  simp [pc2]
theorem mac_Text_spec {m : Int} (h1 : 0 ≤ m) (h2 : m < 18446744073709551616) : palingref01_Text m = some (bstr (macL m)) := by
  unfold palingref01_Text
  rw [r01Bytes_spec h1 h2, Option.bind_some]
  dsimp only
  have hb : ∀ k : Int, 0 ≤ k % 256 ∧ k % 256 < 256 := fun k => ⟨Int.emod_nonneg _ (by decide), Int.emod_lt_of_pos _ (by decide)⟩
  have e := loopM_trace (f := fun s : ByteArray × Int => match s with | (v5, v6) => palingref01_Text_L1 (byL m) v5 v6) (r := bstr (macL m)) (fun i => match i with
    | 0 => (bstr [], 0)
    | 1 => (bstr ([] ++ ([] ++ pc2 (m / 1099511627776 % 256))), 1)
    | 2 => (bstr (([] ++ ([] ++ pc2 (m / 1099511627776 % 256))) ++ ([58] ++ pc2 (m / 4294967296 % 256))), 2)
    | 3 => (bstr ((([] ++ ([] ++ pc2 (m / 1099511627776 % 256))) ++ ([58] ++ pc2 (m / 4294967296 % 256))) ++ ([58] ++ pc2 (m / 16777216 % 256))), 3)
    | 4 => (bstr (((([] ++ ([] ++ pc2 (m / 1099511627776 % 256))) ++ ([58] ++ pc2 (m / 4294967296 % 256))) ++ ([58] ++ pc2 (m / 16777216 % 256))) ++ ([58] ++ pc2 (m / 65536 % 256))), 4)
    | 5 => (bstr ((((([] ++ ([] ++ pc2 (m / 1099511627776 % 256))) ++ ([58] ++ pc2 (m / 4294967296 % 256))) ++ ([58] ++ pc2 (m / 16777216 % 256))) ++ ([58] ++ pc2 (m / 65536 % 256))) ++ ([58] ++ pc2 (m / 256 % 256))), 5)
    | _ => (bstr ((((([] ++ ([] ++ pc2 (m / 1099511627776 % 256))) ++ ([58] ++ pc2 (m / 4294967296 % 256))) ++ ([58] ++ pc2 (m / 16777216 % 256))) ++ ([58] ++ pc2 (m / 65536 % 256))) ++ ([58] ++ pc2 (m / 256 % 256)) ++ ([58] ++ pc2 (m % 256))), 6)) 6 (by decide) (fun i hi => by
      match i, hi with
      | 0, _ => exact text_step (l := byL m) (j := 0) (by decide) ⟨by decide, by simp [byL]⟩ rfl (hb _).1 (hb _).2 (by simp)
      | 1, _ => exact text_step (l := byL m) (j := 1) (by decide) ⟨by decide, by simp [byL]⟩ rfl (hb _).1 (hb _).2 (by simp [pc2])
      | 2, _ => exact text_step (l := byL m) (j := 2) (by decide) ⟨by decide, by simp [byL]⟩ rfl (hb _).1 (hb _).2 (by simp [pc2])
      | 3, _ => exact text_step (l := byL m) (j := 3) (by decide) ⟨by decide, by simp [byL]⟩ rfl (hb _).1 (hb _).2 (by simp [pc2])
      | 4, _ => exact text_step (l := byL m) (j := 4) (by decide) ⟨by decide, by simp [byL]⟩ rfl (hb _).1 (hb _).2 (by simp [pc2])
      | 5, _ => exact text_step (l := byL m) (j := 5) (by decide) ⟨by decide, by simp [byL]⟩ rfl (hb _).1 (hb _).2 (by simp [pc2])) (by
      show palingref01_Text_L1 (byL m) _ 6 = _
      unfold palingref01_Text_L1
      rw [if_neg (by decide)]
      rfl)
  have e' : loopM (fun s : ByteArray × Int => match s with | (v5, v6) => palingref01_Text_L1 [m / 1099511627776 % 256, m / 4294967296 % 256, m / 16777216 % 256, m / 65536 % 256, m / 256 % 256, m % 256] v5 v6) ((⟨#[]⟩ : ByteArray), 0) = some (bstr (macL m)) := e
  rw [e']; rfl
def digH (c : Int) : Int := if 48 ≤ c ∧ c ≤ 57 then c - 48 else if 97 ≤ c ∧ c ≤ 102 then c - 87 else 0
noncomputable def rdH (l : List Int) : Nat → Int
  | 0 => 0
  | i + 1 => if i % 3 = 2 then rdH l i else rdH l i * 16 + digH (getI l (i : Int))
theorem digH_b {c : Int} : 0 ≤ digH c ∧ digH c < 16 := by unfold digH; split <;> (try split) <;> omega
theorem digH_hex {d : Int} (h0 : 0 ≤ d) (h1 : d < 16) : digH (hexC d) = d := by
  unfold hexC digH
  by_cases c : d < 10
  · rw [if_pos c, if_pos (by omega)]; omega
  · rw [if_neg c, if_neg (by omega), if_pos (by omega)]; omega
theorem rdH_b {l : List Int} : ∀ i : Nat, i ≤ 17 → 0 ≤ rdH l i ∧ rdH l i < 16 ^ (i - i / 3)
  | 0, _ => by simp [rdH]
  | i + 1, h => by
    have ih := rdH_b (l := l) i (by omega)
    unfold rdH
    by_cases c : i % 3 = 2
    · rw [if_pos c]
      have e : i + 1 - (i + 1) / 3 = i - i / 3 := by omega
      rw [e]; exact ih
    · rw [if_neg c]
      have e : i + 1 - (i + 1) / 3 = (i - i / 3) + 1 := by omega
      have hd := digH_b (c := getI l (i : Int))
      rw [e, Int.pow_succ]
      have h0 := ih.1
      have h1 := ih.2
      generalize (16 : Int) ^ (i - i / 3) = p at *
      generalize rdH l i = v at *
      constructor <;> omega
theorem read_loopM {l : List Int} (hl : l.length = 17) (hb : ∀ x ∈ l, 0 ≤ x ∧ x < 256) :
    loopM (fun s : Int × Int => match s with | (v3, v4) => palingref01_Read_L1 (bstr l) v3 v4) (0, 0) = some (rdH l 17) := by
  have hp : ∀ i : Nat, i ≤ 17 → rdH l i < 281474976710656 := fun i hi => by
    have h := (rdH_b (l := l) i hi).2
    have : ∀ j : Fin 18, (16 : Int) ^ (j.val - j.val / 3) ≤ 281474976710656 := by decide
    have h2 := this ⟨i, by omega⟩
    simp only at h2
    omega
  exact loopM_trace (f := fun s : Int × Int => match s with | (v3, v4) => palingref01_Read_L1 (bstr l) v3 v4) (r := rdH l 17) (fun i => (rdH l i, (i : Int))) 17 (by decide) (fun i hi => by
    have il : inL l (i : Int) := ⟨by omega, by omega⟩
    have hby : byteAt (bstr l) (i : Int) = getI l (i : Int) := byteAt_bstr hb il
    have hx := hb _ (getI_mem il)
    have hv0 := (rdH_b (l := l) i (by omega)).1
    have hv1 := hp i (by omega)
    have hsz : decide (0 ≤ (i : Int) ∧ (i : Int) < ((bstr l).size : Int)) = true := by rw [bstr_size]; exact decide_eq_true ⟨by omega, by omega⟩
    have hstep : rdH l (i + 1) = if i % 3 = 2 then rdH l i else rdH l i * 16 + digH (getI l (i : Int)) := rfl
    have hmod : ((Int.tmod (i : Int) 3) != 2) = !decide (i % 3 = 2) := by
      rw [Int.tmod_eq_emod_of_nonneg (by omega)]
      by_cases c : i % 3 = 2
      · have : (i : Int) % 3 = 2 := by omega
        simp [c, this]
      · have : ¬ (i : Int) % 3 = 2 := by omega
        simp [c, this]
    have hwi : wr_i64 ((i : Int) + 1) = ((i + 1 : Nat) : Int) := wr64 (by omega) (by omega)
    show palingref01_Read_L1 (bstr l) (rdH l i) (i : Int) = _
    generalize getI l (i : Int) = c at *
    have hJ : palingref01_Read_J2 (bstr l) (rdH l i) (i : Int) = some (if 48 ≤ c ∧ c ≤ 57 then c - 48 else 0) := by
      unfold palingref01_Read_J2
      rw [if_pos hsz, hby]
      by_cases d1 : 48 ≤ c
      · by_cases d2 : c ≤ 57
        · rw [if_pos (decide_eq_true d1), if_pos (decide_eq_true d2), if_pos ⟨d1, d2⟩, wr64u (n := c) (by omega) (by omega), wr64u (by omega) (by omega)]
        · rw [if_pos (decide_eq_true d1), if_neg (by simpa using d2), if_neg (fun h => d2 h.2)]
      · rw [if_neg (by simpa using d1), if_neg (fun h => d1 h.1)]
    unfold palingref01_Read_L1
    rw [if_pos (by simp; omega), hJ, Option.bind_some]
    dsimp only
    rw [if_pos hsz, hby, hmod, hwi, hstep]
    have hw16 : wr_u64 (rdH l i * 16) = rdH l i * 16 := wr64u (by omega) (by omega)
    generalize hv : rdH l i = v at *
    by_cases cm : i % 3 = 2
    · rw [if_pos cm]
      by_cases d1 : 97 ≤ c
      · by_cases d2 : c ≤ 102
        · simp [cm, d1, d2]
        · simp [cm, d1, d2]
      · simp [cm, d1]
    · rw [if_neg cm]
      by_cases d1 : 97 ≤ c
      · by_cases d2 : c ≤ 102
        · have e1 : wr_u64 c = c := wr64u (by omega) (by omega)
          have e2 : wr_u64 (c - 87) = c - 87 := wr64u (by omega) (by omega)
          have e3 : wr_u64 (v * 16 + (c - 87)) = v * 16 + (c - 87) := wr64u (by omega) (by omega)
          have e4 : digH c = c - 87 := by unfold digH; rw [if_neg (by omega), if_pos ⟨d1, d2⟩]
          simp [cm, d1, d2, e1, e2, e3, e4, hw16]
        · have e4 : digH c = 0 := by unfold digH; rw [if_neg (by omega), if_neg (fun h => d2 h.2)]
          have e5 : ¬ (48 ≤ c ∧ c ≤ 57) := by omega
          have e3 : wr_u64 (v * 16 + 0) = v * 16 + 0 := wr64u (by omega) (by omega)
          simp [cm, d1, d2, e4, e5, hw16] at e3 ⊢
          try exact e3
          try omega
      · by_cases d3 : 48 ≤ c ∧ c ≤ 57
        · have e4 : digH c = c - 48 := by unfold digH; rw [if_pos d3]
          have e3 : wr_u64 (v * 16 + (c - 48)) = v * 16 + (c - 48) := wr64u (by omega) (by omega)
          simp [cm, d1, d3, e3, e4, hw16]
        · have e4 : digH c = 0 := by unfold digH; rw [if_neg d3, if_neg (fun h => d1 h.1)]
          have e3 : wr_u64 (v * 16 + 0) = v * 16 + 0 := wr64u (by omega) (by omega)
          rw [if_neg d3]
          simp [cm, d1, e4, hw16] at e3 ⊢
          try exact e3) (by
    show palingref01_Read_L1 (bstr l) _ 17 = _
    unfold palingref01_Read_L1
    rw [if_neg (by decide)])
theorem macL_len {m : Int} : (macL m).length = 17 := by simp [macL, pc2]
theorem macL_b {m : Int} : ∀ x ∈ macL m, 0 ≤ x ∧ x < 256 := by
  have hb : ∀ k : Int, 0 ≤ k % 256 ∧ k % 256 < 256 := fun k => ⟨Int.emod_nonneg _ (by decide), Int.emod_lt_of_pos _ (by decide)⟩
  have hp : ∀ k : Int, (0 ≤ hexC (k % 256 / 16) ∧ hexC (k % 256 / 16) < 256) ∧ (0 ≤ hexC (k % 256 % 16) ∧ hexC (k % 256 % 16) < 256) := fun k => ⟨hexC_b (by have := hb k; omega) (by have := hb k; omega), hexC_b (by omega) (by omega)⟩
  intro x hx
  simp only [macL, pc2, List.mem_append, List.mem_cons, List.not_mem_nil, or_false] at hx
  rcases hx with (((((h | h) | (h | (h | h))) | (h | (h | h))) | (h | (h | h))) | (h | (h | h))) | (h | (h | h)) <;> (subst h; first | exact (hp _).1 | exact (hp _).2 | decide)
theorem macL_rd {m : Int} (h0 : 0 ≤ m) : rdH (macL m) 17 = m % 281474976710656 := by
  have hb : ∀ k : Int, 0 ≤ k % 256 ∧ k % 256 < 256 := fun k => ⟨Int.emod_nonneg _ (by decide), Int.emod_lt_of_pos _ (by decide)⟩
  have d1 : ∀ k : Int, digH (hexC (k % 256 / 16)) = k % 256 / 16 := fun k => digH_hex (by have := hb k; omega) (by have := hb k; omega)
  have d2 : ∀ k : Int, digH (hexC (k % 256 % 16)) = k % 256 % 16 := fun k => digH_hex (by omega) (by omega)
  have hm : macL m = [hexC (m / 1099511627776 % 256 / 16), hexC (m / 1099511627776 % 256 % 16), 58, hexC (m / 4294967296 % 256 / 16), hexC (m / 4294967296 % 256 % 16), 58, hexC (m / 16777216 % 256 / 16), hexC (m / 16777216 % 256 % 16), 58, hexC (m / 65536 % 256 / 16), hexC (m / 65536 % 256 % 16), 58, hexC (m / 256 % 256 / 16), hexC (m / 256 % 256 % 16), 58, hexC (m % 256 / 16), hexC (m % 256 % 16)] := rfl
  rw [hm]
  simp only [rdH, getI, Int.toNat_natCast, List.getElem?_cons_zero, List.getElem?_cons_succ, Option.getD_some, d1, d2]
  simp
  omega
theorem byL_mod {m : Int} (h0 : 0 ≤ m) : macL (m % 281474976710656) = macL m := by
  have e0 : m % 281474976710656 / 1099511627776 % 256 = m / 1099511627776 % 256 := by omega
  have e1 : m % 281474976710656 / 4294967296 % 256 = m / 4294967296 % 256 := by omega
  have e2 : m % 281474976710656 / 16777216 % 256 = m / 16777216 % 256 := by omega
  have e3 : m % 281474976710656 / 65536 % 256 = m / 65536 % 256 := by omega
  have e4 : m % 281474976710656 / 256 % 256 = m / 256 % 256 := by omega
  have e5 : m % 281474976710656 % 256 = m % 256 := by omega
  unfold macL
  rw [e0, e1, e2, e3, e4, e5]
theorem mac_Read_spec {m : Int} (h0 : 0 ≤ m) : palingref01_Read (bstr (macL m)) = some (m % 281474976710656, true) := by
  unfold palingref01_Read
  rw [if_neg (by rw [bstr_size, macL_len]; decide), read_loopM macL_len macL_b, macL_rd h0, Option.bind_some]
  dsimp only
  rw [mac_Text_spec (by omega) (by omega), byL_mod h0, Option.bind_some, if_neg (by simp [seqB_dec])]
end Go.Eng
