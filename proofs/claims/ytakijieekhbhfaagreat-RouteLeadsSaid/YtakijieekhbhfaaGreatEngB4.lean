/- VXLAN: heads, ports, what is wrapped, what is unwrapped. -/
import Derived.Test.YtakijieekhbhfaaGreatEngB3
set_option linter.unusedVariables false
set_option linter.unusedSectionVars false
set_option linter.unusedSimpArgs false
namespace Go.Eng
open Go Classical
attribute [local congr] ite_cg
theorem bytes_ok {b : List Int} (hb : okL (okI .u8) b) : BytesP b := fun x hx => by
  have := hb.2 x hx
  have h0 : 0 ≤ x := this.1
  have h1 : x ≤ 255 := this.2
  exact ⟨h0, by omega⟩
theorem seqB_self {x : ByteArray} : seqB x x = true := by simp [seqB]
theorem map_bytes : ∀ {l m : List Int}, BytesP l → BytesP m → (l.map fun n => UInt8.ofNat n.toNat) = (m.map fun n => UInt8.ofNat n.toNat) → l = m
  | [], [], _, _, _ => rfl
  | [], y :: m, _, _, h => by simp at h
  | x :: l, [], _, _, h => by simp at h
  | x :: l, y :: m, hl, hm, h => by
    simp only [List.map_cons, List.cons.injEq] at h
    have h1 := hl x (by simp)
    have h2 := hm y (by simp)
    have e := congrArg UInt8.toNat h.1
    simp only [UInt8.toNat_ofNat'] at e
    have : x = y := by omega
    rw [this, map_bytes (fun z hz => hl z (by simp [hz])) (fun z hz => hm z (by simp [hz])) h.2]
theorem bstr_inj {l m : List Int} (hl : BytesP l) (hm : BytesP m) : bstr l = bstr m ↔ l = m := by
  refine ⟨fun h => ?_, fun h => by rw [h]⟩
  unfold bstr at h
  injection h with h
  exact map_bytes hl hm (by simpa using h)
/-- A head: the rest, the VNI; what is wrong. -/
noncomputable def vniN (b : List Int) : Int := (getI b 4 * 256 + getI b 5) * 256 + getI b 6
noncomputable def takV (b : List Int) : List Int × Int × Int :=
  if (b.length : Int) < 8 then ([], 0, 10)
  else if getI b 0 ≠ 8 ∨ getI b 1 ≠ 0 ∨ getI b 2 ≠ 0 ∨ getI b 3 ≠ 0 ∨ getI b 7 ≠ 0 ∨ vniN b = 0 then ([], 0, 11)
  else (b.drop 8, vniN b, 0)
theorem or3 {a b c : Int} (a0 : 0 ≤ a) (a1 : a < 256) (b0 : 0 ≤ b) (b1 : b < 256) (c0 : 0 ≤ c) (c1 : c < 256) :
    bits_or .i64 (bits_or .i64 (wr_i64 ((wr_i64 a) * 2 ^ 16)) (wr_i64 ((wr_i64 b) * 2 ^ 8))) (wr_i64 c) = (a * 256 + b) * 256 + c := by
  have e1 : bits_or .i64 (wr_i64 ((wr_i64 a) * 2 ^ 16)) (wr_i64 ((wr_i64 b) * 2 ^ 8)) = (a * 256 + b) * 256 := by
    rw [wr64 (n := a) (by omega) (by omega), wr64 (n := b) (by omega) (by omega), wr64 (by omega) (by omega), wr64 (by omega) (by omega)]
    have h1 : Int.toNat (a * 2 ^ 16) = 2 ^ 16 * a.toNat := by omega
    have h2 : Int.toNat (b * 2 ^ 8) = b.toNat * 256 := by omega
    unfold bits_or
    rw [ofInt_nat _ _ (by omega), ofInt_nat _ _ (by omega), BitVec.toNat_or, BitVec.toNat_ofNat, BitVec.toNat_ofNat]
    simp only [IntKind.bits]
    rw [Nat.mod_eq_of_lt (by omega), Nat.mod_eq_of_lt (by omega), h1, h2, ← Nat.two_pow_add_eq_or_of_lt (by omega)]
    have hw := wr64 (n := ((2 ^ 16 * a.toNat + b.toNat * 256 : Nat) : Int)) (by omega) (by omega)
    unfold wr_i64 at hw
    first | (rw [hw]; omega) | omega
  rw [e1, wr64 (n := c) (by omega) (by omega)]
  exact or_i64_b (by omega) (by omega) c0 c1
theorem take8 {b : List Int} (h : 8 ≤ b.length) : b.take 8 = [getI b 0, getI b 1, getI b 2, getI b 3, getI b 4, getI b 5, getI b 6, getI b 7] := by
  match b, h with
  | x0 :: x1 :: x2 :: x3 :: x4 :: x5 :: x6 :: x7 :: r, _ => rfl
theorem vxlan_Vni_spec {b : List Int} (hB : BytesP b) (hb : b.length ≤ 1000000) : vxlan_Vni b = some (takV b) := by
  unfold vxlan_Vni takV
  by_cases c1 : (b.length : Int) < 8
  · rw [if_pos (decide_eq_true c1), if_pos c1]
  rw [if_neg (by simpa using c1), if_neg c1]
  have nn : ∀ o : Int, 0 ≤ o → o < 8 → nth b o = some (getI b o) := fun o h0 h1 => nth_getI ⟨by omega, by omega⟩
  have bb : ∀ o : Int, 0 ≤ o → o < 8 → 0 ≤ getI b o ∧ getI b o < 256 := fun o h0 h1 => hB _ (getI_mem ⟨by omega, by omega⟩)
  have b4 := bb 4 (by omega) (by omega)
  have b5 := bb 5 (by omega) (by omega)
  have b6 := bb 6 (by omega) (by omega)
  rw [nn 4 (by omega) (by omega), Option.bind_some, nn 5 (by omega) (by omega), Option.bind_some, nn 6 (by omega) (by omega), Option.bind_some, or3 b4.1 b4.2 b5.1 b5.2 b6.1 b6.2, vxlan_Head_spec, show (getI b 4 * 256 + getI b 5) * 256 + getI b 6 = vniN b from rfl]
  have hv : 0 ≤ vniN b ∧ vniN b ≤ 16777215 := by unfold vniN; omega
  by_cases cv : vniN b = 0
  · have : putV (vniN b) = ([], 17) := by unfold putV; rw [if_pos (.inl (by omega))]
    rw [this]
    simp [cv]
  have hpv : putV (vniN b) = (headB (vniN b), 0) := by unfold putV; rw [if_neg (by omega)]
  have hsl : slok b.length 0 8 = true := by rw [slok_dec]; exact decide_eq_true (by omega)
  have hsl2 : slok b.length 8 (b.length : Int) = true := by rw [slok_dec]; exact decide_eq_true (by omega)
  have e8 : List.drop (Int.toNat 0) (List.take (Int.toNat 8) b) = b.take 8 := by simp
  have ed : List.drop (Int.toNat 8) (List.take (Int.toNat ((List.length b) : Int)) b) = b.drop 8 := by simp
  have hhb : BytesP (headB (vniN b)) := fun x hx => by
    simp only [headB, List.mem_cons, List.not_mem_nil, or_false] at hx
    rcases hx with rfl | rfl | rfl | rfl | rfl | rfl | rfl | rfl <;> omega
  have hq : seqB (bstr (headB (vniN b))) (bstr (b.take 8)) = decide (¬ (getI b 0 ≠ 8 ∨ getI b 1 ≠ 0 ∨ getI b 2 ≠ 0 ∨ getI b 3 ≠ 0 ∨ getI b 7 ≠ 0 ∨ vniN b = 0)) := by
    rw [seqB_dec]
    refine decide_eq_decide.2 ?_
    rw [bstr_inj hhb (fun x hx => hB x (List.mem_of_mem_take hx)), take8 (by omega)]
    have v1 : vniN b / 65536 % 256 = getI b 4 := by unfold vniN; omega
    have v2 : vniN b / 256 % 256 = getI b 5 := by unfold vniN; omega
    have v3 : vniN b % 256 = getI b 6 := by unfold vniN; omega
    simp only [headB, v1, v2, v3, List.cons.injEq, and_true, true_and]
    constructor
    · rintro ⟨h0, h1, h2, h3, h7⟩ h; omega
    · intro h
      refine ⟨?_, ?_, ?_, ?_, ?_⟩ <;> apply Classical.byContradiction <;> intro hc <;> apply h <;> omega
  rw [hpv]
  simp only [Option.bind_some]
  rw [if_neg (by simp), if_pos hsl, e8, ed, hq]
  by_cases c : getI b 0 ≠ 8 ∨ getI b 1 ≠ 0 ∨ getI b 2 ≠ 0 ∨ getI b 3 ≠ 0 ∨ getI b 7 ≠ 0 ∨ vniN b = 0
  · rw [if_pos (by rw [decide_eq_false (not_not.2 c)]; rfl), if_pos c]
  · rw [if_neg (by rw [decide_eq_true c]; simp), if_neg c, if_pos hsl2, if_pos (roomy_few (by simp; omega))]
theorem rVni_spec {b : List Int} (hB : BytesP b) (hb : b.length ≤ 1000000) : palingref09_Vni b = some (takV b) := by
  unfold palingref09_Vni takV
  by_cases c1 : (b.length : Int) < 8
  · rw [if_pos (decide_eq_true c1), if_pos c1]
  rw [if_neg (by simpa using c1), if_neg c1]
  have nn : ∀ o : Int, 0 ≤ o → o < 8 → nth b o = some (getI b o) := fun o h0 h1 => nth_getI ⟨by omega, by omega⟩
  have bb : ∀ o : Int, 0 ≤ o → o < 8 → 0 ≤ getI b o ∧ getI b o < 256 := fun o h0 h1 => hB _ (getI_mem ⟨by omega, by omega⟩)
  have b4 := bb 4 (by omega) (by omega)
  have b5 := bb 5 (by omega) (by omega)
  have b6 := bb 6 (by omega) (by omega)
  have hw : wr_i64 ((wr_i64 ((wr_i64 ((wr_i64 (getI b 4)) * 65536)) + (wr_i64 ((wr_i64 (getI b 5)) * 256)))) + (wr_i64 (getI b 6))) = vniN b := by
    rw [wr64 (n := getI b 4) (by omega) (by omega), wr64 (n := getI b 5) (by omega) (by omega), wr64 (n := getI b 6) (by omega) (by omega), wr64 (n := getI b 4 * 65536) (by omega) (by omega), wr64 (n := getI b 5 * 256) (by omega) (by omega), wr64 (n := getI b 4 * 65536 + getI b 5 * 256) (by omega) (by omega), wr64 (by omega) (by omega)]
    unfold vniN; omega
  have hsl2 : slok b.length 8 (b.length : Int) = true := by rw [slok_dec]; exact decide_eq_true (by omega)
  have ed : List.drop (Int.toNat 8) (List.take (Int.toNat ((List.length b) : Int)) b) = b.drop 8 := by simp
  rw [nn 4 (by omega) (by omega), Option.bind_some, nn 5 (by omega) (by omega), Option.bind_some, nn 6 (by omega) (by omega), Option.bind_some, hw, nn 0 (by omega) (by omega), nn 1 (by omega) (by omega), nn 2 (by omega) (by omega), nn 3 (by omega) (by omega), nn 7 (by omega) (by omega)]
  simp only [Option.bind_some, ed]
  rw [if_pos hsl2, if_pos (roomy_few (show (b.drop 8).length ≤ _ from by simp; omega))]
  generalize getI b 0 = x0
  generalize getI b 1 = x1
  generalize getI b 2 = x2
  generalize getI b 3 = x3
  generalize getI b 7 = x7
  generalize vniN b = v
  by_cases d0 : x0 = 8
  case neg => simp [d0]
  by_cases d1 : x1 = 0
  case neg => simp [d1]
  by_cases d2 : x2 = 0
  case neg => simp [d2]
  by_cases d3 : x3 = 0
  case neg => simp [d3]
  by_cases d7 : x7 = 0
  case neg => simp [d7]
  by_cases dv : v = 0
  · simp [dv]
  · simp [d0, d1, d2, d3, d7, dv]
theorem takV_bytes {b : List Int} (hB : BytesP b) : BytesP (takV b).1 := by
  unfold takV
  repeat' split
  all_goals first
    | (intro x h; cases h; done)
    | exact fun x hx => hB x (List.mem_of_mem_drop hx)
theorem takV_len {b : List Int} : (takV b).1.length ≤ b.length := by
  unfold takV
  repeat' split
  all_goals simp
theorem works09 : palinglaw09_works = some true := by kernel_rfl
theorem vxlanHeads (v : Int) (b : List Int) (_ : okI .i64 v) (hb : okL (okI .u8) b) : palinglaw09_VxlanHeads v b = some true := by
  unfold palinglaw09_VxlanHeads
  rw [works09]
  by_cases c : (b.length : Int) > 4000
  · rw [if_pos (decide_eq_true c)]; rfl
  rw [if_neg (by simpa using c), vxlan_Head_spec, rHead_spec, vxlan_Vni_spec (bytes_ok hb) (by omega), rVni_spec (bytes_ok hb) (by omega)]
  simp [seqB_self]
end Go.Eng
