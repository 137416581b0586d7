/- Chapter 26 (tables): what the program learns. -/
import Derived.Test.YtngflgclljfmjaaGreatEngS2
import Derived.Test.YtngflgclljfmjaaGreatEngGP1
import Derived.Test.YtngflgclljfmjaaGreatEngPR
set_option linter.unusedVariables false
set_option linter.unusedSectionVars false
set_option linter.unusedSimpArgs false
namespace Go.Eng
open Go Classical
attribute [local congr] ite_cg
section
variable {t : List Api_Entry}
theorem Clone_Entry_spec {l : List Api_Entry} (h : Few l) : slices_Clone_Entry l = some l := if_pos (roomyN h)
theorem Delete_spec {k : Int} (hk : inL t k) (hf : t.length ≤ 1000000) : slices_Delete_Entry_own t k (k + 1) = some (.inr ()) := by
  have h0 := hk.1; have h1 := hk.2
  have e1 : List.take (Int.toNat ((List.length t) : Int)) t = t := by rw [Int.toNat_natCast]; exact List.take_length
  unfold slices_Delete_Entry_own
  rw [e1, if_pos (show slok3 t.length k (k + 1) (t.length : Int) = true from decide_eq_true ⟨by omega, by omega, by omega, by omega⟩), if_neg (by simp; omega),
    if_pos (by rw [slok_dec]; exact decide_eq_true ⟨by omega, by omega, by omega⟩), if_pos (by rw [slok_dec]; exact decide_eq_true ⟨by omega, by omega, by omega⟩),
    if_pos (show ptok _ _ _ = true from decide_eq_true ⟨by omega, by simp; omega⟩), if_pos (show slokp _ _ _ = true from decide_eq_true ⟨by simp; omega, by omega, by simp; omega, by simp; omega⟩)]
theorem del_app {l : List Api_Entry} {k : Nat} {x : Api_Entry} (hk : k < l.length) (d : Api_Entry) :
    List.take (k + (l.length - (k + 1))) (List.take (k + (l.length - (k + 1))) (List.take k l ++ (List.drop (k + 1) l ++ List.drop (k + (l.length - (k + 1))) l)) ++ (List.replicate (l.length - (k + (l.length - (k + 1)))) d ++ List.drop l.length (List.take k l ++ (List.drop (k + 1) l ++ List.drop (k + (l.length - (k + 1))) l)))) ++
      ([x] ++ List.drop (k + (l.length - (k + 1)) + 1) (List.take (k + (l.length - (k + 1))) (List.take k l ++ (List.drop (k + 1) l ++ List.drop (k + (l.length - (k + 1))) l)) ++ (List.replicate (l.length - (k + (l.length - (k + 1)))) d ++ List.drop l.length (List.take k l ++ (List.drop (k + 1) l ++ List.drop (k + (l.length - (k + 1))) l))))) = l.eraseIdx k ++ [x] := by
  have e : k + (l.length - (k + 1)) = l.length - 1 := by omega
  rw [e]
  have hB : (List.take k l ++ List.drop (k + 1) l).length = l.length - 1 := by simp; omega
  have h1 : List.take k l ++ (List.drop (k + 1) l ++ List.drop (l.length - 1) l) = (List.take k l ++ List.drop (k + 1) l) ++ List.drop (l.length - 1) l := (List.append_assoc _ _ _).symm
  rw [h1]
  generalize hBB : List.take k l ++ List.drop (k + 1) l = B at *
  have h2 : List.take (l.length - 1) (B ++ List.drop (l.length - 1) l) = B := List.take_left' hB
  have h3 : List.drop l.length (B ++ List.drop (l.length - 1) l) = [] := List.drop_eq_nil_of_le (by simp; omega)
  rw [h2, h3, List.append_nil]
  have h4 : l.length - (l.length - 1) = 1 := by omega
  rw [h4]
  have h5 : List.take (l.length - 1) (B ++ List.replicate 1 d) = B := List.take_left' hB
  have h6 : List.drop (l.length - 1 + 1) (B ++ List.replicate 1 d) = [] := List.drop_eq_nil_of_le (by simp; omega)
  rw [h5, h6, List.append_nil, ← hBB, List.eraseIdx_eq_take_drop_succ]
theorem learnL_len (hf : t.length ≤ 1000000) {m w now : Int} : (learnL t m w now).length ≤ t.length + 1 := by
  unfold learnL
  split
  · split
    · simp
    · split
      · have := List.length_eraseIdx_le t (oldN t t.length).toNat
        simp; omega
      · simp
  · omega
theorem table_Learn_spec (hto : okL Api_Entry.Ok t) (hlen : t.length ≤ 1000000) {m w now : Int} (h1 : 0 ≤ m) (h2 : m < 18446744073709551616) : table_Learn t m w now = some (learnL t m w now, (learnL t m w now).length) := by
  have hf : Few t := hlen
  unfold table_Learn learnL
  rw [Clone_Entry_spec hf, Option.bind_some]
  dsimp only
  rw [table_Right_spec hto, Option.bind_some]
  by_cases hT : TabP t
  case neg => rw [if_pos (by simpa using hT), if_neg (fun h => hT h.1)]
  rw [if_neg (by simpa using hT), station_spec h1 h2, Option.bind_some]
  by_cases hS : StaP m
  case neg => rw [if_pos (by simpa using hS), if_neg (fun h => hS h.2.1)]
  rw [if_neg (by simpa using hS), timely_spec, Option.bind_some]
  by_cases hN : TimP now
  case neg => rw [if_pos (by simpa using hN), if_neg (fun h => hN h.2.2)]
  have h8 := hT.1
  rw [if_neg (by simpa using hN), if_pos (show TabP t ∧ StaP m ∧ TimP now from ⟨hT, hS, hN⟩), index_spec hf, Option.bind_some]
  by_cases c : 0 ≤ tabI t m
  · have hin : inL t (tabI t m) := fstI_inL.1 c
    have his : (getI t (tabI t m)).mac = m := fstI_is (l := t) (P := fun e => e.mac = m) c
    have l1 : lin t (tabI t m) = true := by rw [lin_dec]; exact decide_eq_true hin
    have hin2 : inL (t.set (tabI t m).toNat ⟨(getI t (tabI t m)).mac, w, (getI t (tabI t m)).seen⟩) (tabI t m) := inL_setI.2 hin
    rw [if_pos (decide_eq_true c), if_pos c, if_pos l1, getI_get? hin, Option.bind_some, if_pos (by rw [lin_dec]; exact decide_eq_true hin2), getI_get? hin2, Option.bind_some, getI_setI hin hin, if_pos rfl]
    simp [his]
  · rw [if_neg (by simpa using c), if_neg c]
    by_cases c8 : t.length = 8
    · have ho := oldN_inL (t := t) (k := t.length) (Nat.le_refl _) (by omega)
      have o1 := ho.1; have o2 := ho.2
      have hw := wr64 (n := oldN t t.length + 1) (by omega) (by omega)
      have e1 : List.take (Int.toNat ((List.length t) : Int)) t = t := by rw [Int.toNat_natCast]; exact List.take_length
      rw [if_pos (by simp [c8]), if_pos c8, oldest_spec hlen (by omega), Option.bind_some, hw, Delete_spec ho hlen, Option.bind_some]
      generalize hk : oldN t t.length = kk at *
      obtain ⟨k, rfl⟩ : ∃ k : Nat, kk = (k : Int) := ⟨kk.toNat, by omega⟩
      have e2 : Int.toNat ((k : Int) + 1) = k + 1 := by omega
      have hkl : k < t.length := by omega
      dsimp only
      simp only [e2, Int.toNat_natCast, List.take_length, Nat.sub_zero, List.length_drop, List.length_singleton]
      have hd := del_app (l := t) (k := k) (x := ⟨m, w, now⟩) hkl ⟨0, 0, 0⟩
      have hlen2 : (t.eraseIdx k ++ [(⟨m, w, now⟩ : Api_Entry)]).length = t.length := by
        rw [List.length_append, List.length_eraseIdx_of_lt hkl, List.length_singleton]; omega
      rw [hd, hlen2, if_pos (show ptwok _ _ _ = true from decide_eq_true ⟨by simp; omega, by simp; omega⟩)]
    · have c9 : ¬ ((t.length : Int) == 8) = true := by simp; omega
      rw [if_neg c9, if_neg c8, if_pos (roomy_few (by simp; omega))]
end
end Go.Eng
