/- Chapter 01: an address's text is read again. -/
import Derived.Test.YtcclngfmkodgjaaGreatEngT2
import Derived.Test.YtcclngfmkodgjaaGreatEngGL7a
set_option linter.unusedVariables false
set_option linter.unusedSectionVars false
set_option linter.unusedSimpArgs false
namespace Go.Eng
open Go Classical
def hexC (d : Int) : Int := if d < 10 then 48 + d else 87 + d
abbrev hexD : ByteArray := ⟨#[48, 49, 50, 51, 52, 53, 54, 55, 56, 57, 97, 98, 99, 100, 101, 102]⟩
theorem hex_ex (k : Nat) (hk : k < 16) : ByteArray.extract hexD k (k + 1) = bstr [hexC (k : Int)] := by
  have h : ∀ j : Fin 16, (ByteArray.extract hexD j.val (j.val + 1)).toList = (bstr [hexC (j.val : Int)]).toList := by decide +kernel
  have := h ⟨k, hk⟩
  simp only at this
  have e := seqB_dec (x := ByteArray.extract hexD k (k + 1)) (y := bstr [hexC (k : Int)])
  have t : seqB (ByteArray.extract hexD k (k + 1)) (bstr [hexC (k : Int)]) = true := by unfold seqB; rw [this]; simp
  rw [e] at t
  exact of_decide_eq_true t
def byL (m : Int) : List Int := [m / 1099511627776 % 256, m / 4294967296 % 256, m / 16777216 % 256, m / 65536 % 256, m / 256 % 256, m % 256]
def pc2 (x : Int) : List Int := [hexC (x / 16), hexC (x % 16)]
def macL (m : Int) : List Int := pc2 (m / 1099511627776 % 256) ++ ([58] ++ pc2 (m / 4294967296 % 256)) ++ ([58] ++ pc2 (m / 16777216 % 256)) ++ ([58] ++ pc2 (m / 65536 % 256)) ++ ([58] ++ pc2 (m / 256 % 256)) ++ ([58] ++ pc2 (m % 256))
theorem text_step {l L : List Int} {j : Nat} {x : Int} (hj : (j : Int) < 6) (hin : inL l (j : Int)) (hg : getI l (j : Int) = x) (x0 : 0 ≤ x) (x1 : x < 256) (hL : L.length ≤ 100) :
    palingref01_Text_L1 l (bstr L) (j : Int) = some (.inl (bstr (L ++ ((if 0 < j then [58] else []) ++ pc2 x)), ((j + 1 : Nat) : Int))) := by
  have hmax : IntKind.i64.max = 9223372036854775807 := by decide
  have hsd : ∀ (a b : List Int), a.length ≤ 1000 → b.length ≤ 1000 → sadok (bstr a) (bstr b) = true := fun a b h1 h2 => by
    unfold sadok; rw [hmax, bstr_size, bstr_size]; simp; omega
  have e1 : Int.tdiv x 16 = x / 16 := Int.tdiv_eq_ediv_of_nonneg x0
  have e2 : Int.tmod x 16 = x % 16 := Int.tmod_eq_emod_of_nonneg x0
  have w1 : wr_u8 (x / 16) = x / 16 := wr8 (by omega) (by omega)
  have w2 : wr_u8 (x / 16 + 1) = x / 16 + 1 := wr8 (by omega) (by omega)
  have w3 : wr_u8 (x % 16 + 1) = x % 16 + 1 := wr8 (by omega) (by omega)
  have h16 : hexD.size = 16 := rfl
  have x1' : ByteArray.extract hexD (x / 16).toNat (x / 16 + 1).toNat = bstr [hexC (x / 16)] := by
    have := hex_ex (x / 16).toNat (by omega)
    rw [show (x / 16 + 1).toNat = (x / 16).toNat + 1 from by omega, this, show (((x / 16).toNat : Nat) : Int) = x / 16 from by omega]
  have x2' : ByteArray.extract hexD (x % 16).toNat (x % 16 + 1).toNat = bstr [hexC (x % 16)] := by
    have := hex_ex (x % 16).toNat (by omega)
    rw [show (x % 16 + 1).toNat = (x % 16).toNat + 1 from by omega, this, show (((x % 16).toNat : Nat) : Int) = x % 16 from by omega]
  have h58 : (⟨#[58]⟩ : ByteArray) = bstr [58] := rfl
  have hJ : palingref01_Text_J2 l (bstr L) (j : Int) = some (bstr (L ++ (if 0 < j then [58] else []))) := by
    unfold palingref01_Text_J2
    by_cases c : 0 < j
    · rw [if_pos (by simpa using c), h58, if_pos (hsd _ _ (by omega) (by simp)), bstr_app, if_pos c]
    · rw [if_neg (by simpa using c), if_neg c, List.append_nil]
  generalize hP : L ++ (if 0 < j then [58] else []) = P at *
  have hPl : P.length ≤ 101 := by rw [← hP]; simp; split <;> simp <;> omega
  have s1 : slok hexD.size (x / 16) (x / 16 + 1) = true := by rw [slok_dec, h16]; exact decide_eq_true ⟨by omega, by omega, by omega⟩
  have s2 : slok hexD.size (x % 16) (x % 16 + 1) = true := by rw [slok_dec, h16]; exact decide_eq_true ⟨by omega, by omega, by omega⟩
  unfold palingref01_Text_L1
  rw [if_pos (by simpa using hj), hJ, Option.bind_some]
  simp only [linT1 hin, getI_get? hin, hg, Option.bind_some, if_true, e1, e2, w1, w2, w3]
  rw [if_pos s1, x1', if_pos (hsd _ _ (by omega) (by simp)), if_pos s2, bstr_app, x2', if_pos (hsd _ _ (by simp; omega) (by simp)), bstr_app, wr64 (by omega) (by omega)]
  rw [← List.append_assoc, hP]
  simp [pc2]
theorem mac_Text_spec {m : Int} (h1 : 0 ≤ m) (h2 : m < 18446744073709551616) : palingref01_Text m = some (bstr (macL m)) := by
  unfold palingref01_Text
  rw [r01Bytes_spec h1 h2, Option.bind_some]
  dsimp only
  have hb : ∀ k : Int, 0 ≤ k % 256 ∧ k % 256 < 256 := fun k => ⟨Int.emod_nonneg _ (by decide), Int.emod_lt_of_pos _ (by decide)⟩
  have e := loopM_trace (f := fun s : ByteArray × Int => match s with | (v5, v6) => palingref01_Text_L1 (byL m) v5 v6) (r := bstr (macL m)) (fun i => match i with
    | 0 => (bstr [], 0)
    | 1 => (bstr ([] ++ ([] ++ pc2 (m / 1099511627776 % 256))), 1)
    | 2 => (bstr (([] ++ ([] ++ pc2 (m / 1099511627776 % 256))) ++ ([58] ++ pc2 (m / 4294967296 % 256))), 2)
    | 3 => (bstr ((([] ++ ([] ++ pc2 (m / 1099511627776 % 256))) ++ ([58] ++ pc2 (m / 4294967296 % 256))) ++ ([58] ++ pc2 (m / 16777216 % 256))), 3)
    | 4 => (bstr (((([] ++ ([] ++ pc2 (m / 1099511627776 % 256))) ++ ([58] ++ pc2 (m / 4294967296 % 256))) ++ ([58] ++ pc2 (m / 16777216 % 256))) ++ ([58] ++ pc2 (m / 65536 % 256))), 4)
    | 5 => (bstr ((((([] ++ ([] ++ pc2 (m / 1099511627776 % 256))) ++ ([58] ++ pc2 (m / 4294967296 % 256))) ++ ([58] ++ pc2 (m / 16777216 % 256))) ++ ([58] ++ pc2 (m / 65536 % 256))) ++ ([58] ++ pc2 (m / 256 % 256))), 5)
    | _ => (bstr ((((([] ++ ([] ++ pc2 (m / 1099511627776 % 256))) ++ ([58] ++ pc2 (m / 4294967296 % 256))) ++ ([58] ++ pc2 (m / 16777216 % 256))) ++ ([58] ++ pc2 (m / 65536 % 256))) ++ ([58] ++ pc2 (m / 256 % 256)) ++ ([58] ++ pc2 (m % 256))), 6)) 6 (by decide) (fun i hi => by
      match i, hi with
      | 0, _ => exact text_step (l := byL m) (j := 0) (by decide) ⟨by decide, by simp [byL]⟩ rfl (hb _).1 (hb _).2 (by simp)
      | 1, _ => exact text_step (l := byL m) (j := 1) (by decide) ⟨by decide, by simp [byL]⟩ rfl (hb _).1 (hb _).2 (by simp [pc2])
      | 2, _ => exact text_step (l := byL m) (j := 2) (by decide) ⟨by decide, by simp [byL]⟩ rfl (hb _).1 (hb _).2 (by simp [pc2])
      | 3, _ => exact text_step (l := byL m) (j := 3) (by decide) ⟨by decide, by simp [byL]⟩ rfl (hb _).1 (hb _).2 (by simp [pc2])
      | 4, _ => exact text_step (l := byL m) (j := 4) (by decide) ⟨by decide, by simp [byL]⟩ rfl (hb _).1 (hb _).2 (by simp [pc2])
      | 5, _ => exact text_step (l := byL m) (j := 5) (by decide) ⟨by decide, by simp [byL]⟩ rfl (hb _).1 (hb _).2 (by simp [pc2])) (by
      show palingref01_Text_L1 (byL m) _ 6 = _
      unfold palingref01_Text_L1
      rw [if_neg (by decide)]
      rfl)
  have e' : loopM (fun s : ByteArray × Int => match s with | (v5, v6) => palingref01_Text_L1 [m / 1099511627776 % 256, m / 4294967296 % 256, m / 16777216 % 256, m / 65536 % 256, m / 256 % 256, m % 256] v5 v6) ((⟨#[]⟩ : ByteArray), 0) = some (bstr (macL m)) := e
  rw [e']; rfl
end Go.Eng
