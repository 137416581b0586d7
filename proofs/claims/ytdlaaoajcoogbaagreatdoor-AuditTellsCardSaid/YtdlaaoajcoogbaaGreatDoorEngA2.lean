/- Chapter 47 (audit): how notes are written, on both sides: AuditTells. -/
import Derived.Test.YtdlaaoajcoogbaaGreatDoorEngA1
set_option linter.unusedVariables false
set_option linter.unusedSectionVars false
set_option linter.unusedSimpArgs false
namespace Go.Eng
open Go Classical
attribute [local congr] ite_cg
def I64 (v : Int) : Prop := -9223372036854775808 ≤ v ∧ v < 9223372036854775808
theorem i64b {v : Int} (h : okI .i64 v) : I64 v := by
  have h1 := h.1
  have h2 := h.2
  have e1 : IntKind.i64.min = -9223372036854775808 := by decide
  have e2 : IntKind.i64.max = 9223372036854775807 := by decide
  unfold I64; omega
structure NoteR (x : Audit_Note) : Prop where
  row : I64 x.row
  a : I64 x.a
  b : I64 x.b
section
variable {n : Api_Net}
section
variable (hs : SmN n) (hg : BndN n 200 100) (hr : RightP n) (ho : n.Ok)
include hs hg hr ho
theorem notes_r : ∀ x ∈ allN n, NoteR x := by
  obtain ⟨f1, f2, f3, f4, f5, f6, f7, f8⟩ := hr.few
  obtain ⟨o1, o2, o3, o4, o5, o6, o7, o8, _⟩ := ho
  have sm : ∀ {i : Nat}, i < 1000 → I64 (i : Int) := fun h => by unfold I64; omega
  intro x hx
  unfold allN at hx
  simp only [List.mem_append, mem_cat] at hx
  rcases hx with ((((((((⟨i, hi, hx⟩ | ⟨i, hi, hx⟩) | ⟨i, hi, hx⟩) | ⟨i, hi, hx⟩) | ⟨i, hi, hx⟩) | ⟨i, hi, hx⟩) | ⟨i, hi, hx⟩) | ⟨i, hi, hx⟩) | ⟨i, hi, hx⟩)
  · have il : inL n.links (i : Int) := ⟨by omega, by omega⟩
    have hL := hr.links _ il
    unfold shG at hx
    split at hx
    · rw [List.mem_singleton] at hx; subst hx
      exact ⟨i64b (o3.2 _ (getI_mem il)).1, sm (by omega), i64b (o2.2 _ (getI_mem hL.1)).2.2.1⟩
    · cases hx
  · have il : inL n.ports (i : Int) := ⟨by omega, by omega⟩
    unfold loG at hx
    split at hx
    · cases hx
    · rename_i hlk
      have hk : inL n.links (getI n.ports (i : Int)).link := by
        rcases port_link hr il with h | h
        · omega
        · exact h
      obtain ⟨j, hj, hx⟩ := mem_cat.1 hx
      have ij : inL (vlansP (getI n.ports (i : Int))) (j : Int) := ⟨by omega, by omega⟩
      have hv : I64 (getI (vlansP (getI n.ports (i : Int))) (j : Int)) := by
        have hm := getI_mem ij
        have hp := o2.2 _ (getI_mem il)
        unfold vlansP at hm ⊢
        split at hm
        · rename_i h0
          simp only [h0, if_true]
          exact i64b (hp.2.2.2.2.2.2.1.2 _ hm)
        · rename_i h0
          simp only [h0, if_false]
          rcases List.mem_cons.1 hm with h | h
          · rw [h]; exact i64b hp.2.2.1
          · exact i64b (hp.2.2.2.2.2.2.1.2 _ h)
      unfold lopV at hx
      split at hx
      · cases hx
      · rw [List.mem_singleton] at hx; subst hx
        exact ⟨i64b (o3.2 _ (getI_mem hk)).1, sm (by omega), hv⟩
  · have il : inL n.domains (i : Int) := ⟨by omega, by omega⟩
    unfold lnG at hx
    split at hx
    · rw [List.mem_singleton] at hx; subst hx
      exact ⟨i64b (o4.2 _ (getI_mem il)).2.2.2.2.1, sm (by omega), i64b (o4.2 _ (getI_mem il)).2.2.1⟩
    · cases hx
  · have il : inL n.domains (i : Int) := ⟨by omega, by omega⟩
    unfold siG at hx
    split at hx
    · rw [List.mem_singleton] at hx; subst hx
      exact ⟨by unfold I64; simp, sm (by omega), i64b (o4.2 _ (getI_mem il)).2.1⟩
    · cases hx
  · have il : inL n.vrfs (i : Int) := ⟨by omega, by omega⟩
    unfold unG at hx
    split at hx
    · cases hx
    · rw [List.mem_singleton] at hx; subst hx
      exact ⟨i64b (o7.2 _ (getI_mem il)).1, sm (by omega), i64b (o7.2 _ (getI_mem il)).2.1⟩
  · have il : inL n.statics (i : Int) := ⟨by omega, by omega⟩
    unfold piG at hx
    split at hx
    · rw [List.mem_singleton] at hx; subst hx
      exact ⟨i64b (o5.2 _ (getI_mem il)).1, sm (by omega), i64b (o5.2 _ (getI_mem il)).2.2.1⟩
    · cases hx
  · have il : inL n.devices (i : Int) := ⟨by omega, by omega⟩
    unfold baG at hx
    split at hx
    · rw [List.mem_singleton] at hx; subst hx
      exact ⟨i64b (o1.2 _ (getI_mem il)).1, sm (by omega), by unfold I64; simp⟩
    · cases hx
  · have il : inL n.irbs (i : Int) := ⟨by omega, by omega⟩
    obtain ⟨j, hj, hx⟩ := mem_cat.1 (show x ∈ cat (leV n (i : Int)) n.irbs.length from hx)
    unfold leV at hx
    split at hx
    · rw [List.mem_singleton] at hx; subst hx
      exact ⟨i64b (o8.2 _ (getI_mem il)).1, sm (by omega), sm (by omega)⟩
    · cases hx
  · have il : inL n.ports (i : Int) := ⟨by omega, by omega⟩
    have ht := port_tags hr il
    have hvl := vlansP_len (p := getI n.ports (i : Int))
    unfold trG at hx
    split at hx
    · rw [List.mem_singleton] at hx; subst hx
      exact ⟨i64b (o2.2 _ (getI_mem il)).1, sm (by omega), sm (by omega)⟩
    · cases hx
end
/-! ### Texts -/
structure NmOk (n : Api_Net) : Prop where
  dev : ∀ x ∈ n.devices, x.name.size ≤ 300
  port : ∀ x ∈ n.ports, x.name.size ≤ 300
theorem sadA {a b : ByteArray} (h : a.size + b.size ≤ 1000000) : sadok a b = true := by
  unfold sadok
  have : IntKind.i64.max = 9223372036854775807 := by decide
  rw [this]
  exact decide_eq_true (by omega)
noncomputable def portT (n : Api_Net) (p : Int) : ByteArray := if RightP n ∧ inL n.ports p then ((getI n.devices (getI n.ports p).dev).name ++ (⟨#[46]⟩ : ByteArray)) ++ (getI n.ports p).name else ⟨#[]⟩
theorem s46 : (⟨#[46]⟩ : ByteArray).size = 1 := rfl
theorem explain_Port_spec (hs : SmN n) (hb : NmOk n) {p : Int} : explain_Port n p = some (portT n p) := by
  unfold explain_Port portT
  by_cases c0 : p < 0
  · rw [if_pos (decide_eq_true c0), if_neg (fun h => by have := h.2.1; omega)]
  by_cases c1 : p ≥ (n.ports.length : Int)
  · rw [if_neg (by simpa using c0), if_pos (decide_eq_true c1), if_neg (fun h => by have := h.2.2; omega)]
  rw [if_neg (by simpa using c0), if_neg (by simpa using c1), names_Right_spec hs, Option.bind_some]
  by_cases hr : RightP n
  case neg => rw [if_pos (by simpa using hr), if_neg (fun h => hr h.1)]
  have ip : inL n.ports p := ⟨by omega, by omega⟩
  have hd := (hr.ports _ ip).1
  have n1 := hb.port _ (getI_mem ip)
  have n2 := hb.dev _ (getI_mem hd)
  rw [if_neg (by simpa using hr), nth_getI ip, Option.bind_some, nth_getI hd, Option.bind_some, if_pos (sadA (by rw [s46]; omega)), if_pos (sadA (by rw [ByteArray.size_append, s46]; omega)), if_pos ⟨hr, ip⟩]
theorem rPort44_spec (hs : SmN n) (hb : NmOk n) (hr : RightP n) {p : Int} : palingref44_Port n p = some (portT n p) := by
  unfold palingref44_Port portT
  rw [rPlace_spec, Option.bind_some]
  by_cases ip : inL n.ports p
  case neg => rw [if_pos (by simpa using ip), if_neg (fun h => ip h.2)]
  have hd := (hr.ports _ ip).1
  have n1 := hb.port _ (getI_mem ip)
  have n2 := hb.dev _ (getI_mem hd)
  rw [if_neg (by simpa using ip), nth_getI ip, Option.bind_some, nth_getI hd, Option.bind_some, if_pos (sadA (by rw [s46]; omega)), Option.bind_some, if_pos (sadA (by rw [ByteArray.size_append, s46]; omega)), if_pos ⟨hr, ip⟩]
noncomputable def orNum (s : ByteArray) (a : Int) : ByteArray := if s = ⟨#[]⟩ then textI a else s
noncomputable def placeT (n : Api_Net) (k a : Int) : ByteArray :=
  if k = 2 ∨ k = 9 then orNum (portT n a) a else if k = 3 ∨ k = 4 then orNum (textD n a) a else if k = 7 ∧ RightP n ∧ inL n.devices a then (getI n.devices a).name else textI a
theorem portT_len (hb : NmOk n) {p : Int} : (portT n p).size ≤ 700 := by
  unfold portT
  split
  · rename_i h
    have hd := (h.1.ports _ h.2).1
    have n1 := hb.port _ (getI_mem h.2)
    have n2 := hb.dev _ (getI_mem hd)
    rw [ByteArray.size_append, ByteArray.size_append, s46]; omega
  · have : (⟨#[]⟩ : ByteArray).size = 0 := rfl
    omega
theorem textD_len (hb : NmOk n) {d : Int} : (textD n d).size ≤ 700 := by
  unfold textD
  split
  · rename_i h
    obtain ⟨p1, p2, p3⟩ := dom_pre h.1 h.2
    have n2 := hb.dev _ (getI_mem p1)
    have htl := textI_len p2 p3
    have h47 : (⟨#[47]⟩ : ByteArray).size = 1 := rfl
    rw [ByteArray.size_append, ByteArray.size_append, h47]; omega
  · have : (⟨#[]⟩ : ByteArray).size = 0 := rfl
    omega
theorem placeT_len (hb : NmOk n) {k a : Int} (ha : I64 a) : (placeT n k a).size ≤ 700 := by
  have h1 := portT_len hb (p := a)
  have h2 := textD_len hb (d := a)
  have h3 := textI_len ha.1 ha.2
  unfold placeT orNum
  split
  · split <;> omega
  · split
    · split <;> omega
    · split
      · rename_i h
        have := hb.dev _ (getI_mem h.2.2); omega
      · omega
theorem aplace_spec (hs : SmN n) (hb : NmOk n) {x : Audit_Note} (ha : I64 x.a) : audit_place n x = some (placeT n x.kind x.a) := by
  have hT : num_Text x.a = some (textI x.a) := num_Text_spec ha.1 ha.2
  have hD : domains_Text n x.a = some (textD n x.a) := domains_Text_spec hs (fun y hy => by have := hb.dev y hy; omega)
  have j1 : audit_place_J1 n x = some (decide (x.kind = 2 ∨ x.kind = 9)) := by
    unfold audit_place_J1
    by_cases c : x.kind = 2
    · rw [if_pos (by simpa using c)]; simp [c]
    · rw [if_neg (by simpa using c)]; simp [c]; rfl
  have j2 : audit_place_J2 n x = some (decide (x.kind = 3 ∨ x.kind = 4)) := by
    unfold audit_place_J2
    by_cases c : x.kind = 3
    · rw [if_pos (by simpa using c)]; simp [c]
    · rw [if_neg (by simpa using c)]; simp [c]; rfl
  have e0 : seqB (⟨#[]⟩ : ByteArray) (⟨#[]⟩ : ByteArray) = true := by rw [seqB_dec]; simp
  have num : (if seqB (⟨#[]⟩ : ByteArray) (⟨#[]⟩ : ByteArray) = true then (num_Text x.a).bind fun r => some r else some (⟨#[]⟩ : ByteArray)) = some (textI x.a) := by rw [if_pos e0, hT]; rfl
  unfold audit_place placeT orNum
  rw [j1, Option.bind_some]
  simp only
  by_cases c1 : x.kind = 2 ∨ x.kind = 9
  · rw [if_pos (decide_eq_true c1), if_pos c1, explain_Port_spec hs hb, Option.bind_some, seqB_dec]
    by_cases d : portT n x.a = ⟨#[]⟩
    · rw [if_pos (decide_eq_true d), if_pos d, hT]; rfl
    · rw [if_neg (by simpa using d), if_neg d]
  rw [if_neg (by rw [decide_eq_true_eq]; exact c1), if_neg c1, j2, Option.bind_some]
  try simp only
  by_cases c2 : x.kind = 3 ∨ x.kind = 4
  · rw [if_pos (decide_eq_true c2), if_pos c2, hD, Option.bind_some, seqB_dec]
    by_cases d : textD n x.a = ⟨#[]⟩
    · rw [if_pos (decide_eq_true d), if_pos d, hT]; rfl
    · rw [if_neg (by simpa using d), if_neg d]
  rw [if_neg (by rw [decide_eq_true_eq]; exact c2), if_neg c2]
  by_cases c3 : x.kind = 7
  case neg => rw [if_neg (by simpa using c3), num, if_neg (fun h => c3 h.1)]
  rw [if_pos (by simpa using c3)]
  by_cases c4 : x.a ≥ 0
  case neg => rw [if_neg (by simpa using c4), num, if_neg (fun h => c4 h.2.2.1)]
  rw [if_pos (decide_eq_true c4)]
  by_cases c5 : x.a < (n.devices.length : Int)
  case neg => rw [if_neg (by simpa using c5), num, if_neg (fun h => c5 h.2.2.2)]
  have ia : inL n.devices x.a := ⟨c4, c5⟩
  rw [if_pos (decide_eq_true c5), names_Right_spec hs, Option.bind_some]
  by_cases hr : RightP n
  · rw [if_pos (decide_eq_true hr), nth_getI ia, Option.bind_some, if_pos ⟨c3, hr, ia⟩]
  · rw [if_neg (by simpa using hr), num, if_neg (fun h => hr h.2.1)]
theorem rplace_spec (hs : SmN n) (hb : NmOk n) {x : Palingref47_Note} (ha : I64 x.a) {β : Type} (K : ByteArray → Option β) :
    ((palingref47_Text_J1 n x).bind fun v15 => (palingref47_Text_J2 n x v15).bind fun v28 => (palingref47_Text_J3 n x v28).bind fun v35 => (palingref47_Text_J4 n x v35).bind K) = K (placeT n x.kind x.a) := by
  have hT : palingref03_Text x.a = some (textI x.a) := rText_spec ha.1 ha.2
  have hnR : ¬ RightP n → portT n x.a = ⟨#[]⟩ ∧ textD n x.a = ⟨#[]⟩ := fun h => ⟨by unfold portT; rw [if_neg (fun q => h q.1)], by unfold textD; rw [if_neg (fun q => h q.1)]⟩
  have j1 : palingref47_Text_J1 n x = some (if x.kind = 2 ∨ x.kind = 9 then portT n x.a else ⟨#[]⟩) := by
    unfold palingref47_Text_J1
    rw [rRight_spec hs, Option.bind_some]
    by_cases hr : RightP n
    · rw [if_pos (decide_eq_true hr), rPort44_spec hs hb hr]
      by_cases c : x.kind = 2
      · rw [if_pos (by simpa using c), if_pos (.inl c)]; rfl
      · by_cases c9 : x.kind = 9
        · rw [if_neg (by simpa using c), if_pos (by simpa using c9), if_pos (.inr c9)]; rfl
        · rw [if_neg (by simpa using c), if_neg (by simpa using c9), if_neg (by rintro (h | h); exact c h; exact c9 h)]
    · rw [if_neg (by simpa using hr), (hnR hr).1]; simp
  have j2 : ∀ v, palingref47_Text_J2 n x v = some (if x.kind = 3 ∨ x.kind = 4 then (if RightP n then textD n x.a else v) else v) := fun v => by
    unfold palingref47_Text_J2
    rw [rRight_spec hs, Option.bind_some]
    by_cases hr : RightP n
    · rw [if_pos (decide_eq_true hr), rText18_spec hs hr (fun y hy => by have := hb.dev y hy; omega), if_pos hr]
      by_cases c : x.kind = 3
      · rw [if_pos (by simpa using c), if_pos (.inl c)]; rfl
      · by_cases c9 : x.kind = 4
        · rw [if_neg (by simpa using c), if_pos (by simpa using c9), if_pos (.inr c9)]; rfl
        · rw [if_neg (by simpa using c), if_neg (by simpa using c9), if_neg (by rintro (h | h); exact c h; exact c9 h)]
    · rw [if_neg (by simpa using hr), if_neg hr]; simp
  have j3 : ∀ v, palingref47_Text_J3 n x v = some (orNum v x.a) := fun v => by
    unfold palingref47_Text_J3 orNum
    rw [seqB_dec, hT]
    by_cases d : v = ⟨#[]⟩
    · rw [if_pos (decide_eq_true d), if_pos d]; rfl
    · rw [if_neg (by simpa using d), if_neg d]
  have j4 : ∀ v, palingref47_Text_J4 n x v = some (if x.kind = 7 ∧ RightP n ∧ inL n.devices x.a then (getI n.devices x.a).name else v) := fun v => by
    unfold palingref47_Text_J4
    rw [rRight_spec hs, Option.bind_some]
    by_cases hr : RightP n
    case neg => rw [if_neg (by simpa using hr), if_neg (fun h => hr h.2.1)]
    rw [if_pos (decide_eq_true hr)]
    by_cases c : x.kind = 7
    case neg => rw [if_neg (by simpa using c), if_neg (fun h => c h.1)]
    rw [if_pos (by simpa using c), rPlace_spec, Option.bind_some]
    by_cases ia : inL n.devices x.a
    · rw [if_pos (decide_eq_true ia), nth_getI ia, Option.bind_some, if_pos ⟨c, hr, ia⟩]
    · rw [if_neg (by simpa using ia), if_neg (fun h => ia h.2.2)]
  rw [j1, Option.bind_some, j2, Option.bind_some, j3, Option.bind_some, j4, Option.bind_some]
  congr 1
  have en : orNum ⟨#[]⟩ x.a = textI x.a := by unfold orNum; rw [if_pos rfl]
  unfold placeT
  by_cases c1 : x.kind = 2 ∨ x.kind = 9
  · have h3 : ¬ (x.kind = 3 ∨ x.kind = 4) := by omega
    have h7 : ¬ (x.kind = 7 ∧ RightP n ∧ inL n.devices x.a) := fun h => by omega
    rw [if_neg h7, if_neg h3, if_pos c1, if_pos c1]
  rw [if_neg c1, if_neg c1]
  by_cases c2 : x.kind = 3 ∨ x.kind = 4
  · have h7 : ¬ (x.kind = 7 ∧ RightP n ∧ inL n.devices x.a) := fun h => by omega
    rw [if_neg h7, if_pos c2, if_pos c2]
    by_cases hr : RightP n
    · rw [if_pos hr]
    · rw [if_neg hr, (hnR hr).2]
  rw [if_neg c2, if_neg c2, en]
theorem s32 : (⟨#[32]⟩ : ByteArray).size = 1 := rfl
theorem fullS {r W p b : ByteArray} (h1 : r.size ≤ 1000) (h2 : W.size ≤ 1000) (h3 : p.size ≤ 1000) (h4 : b.size ≤ 1000) :
    sadok r (⟨#[32]⟩ : ByteArray) = true ∧ sadok (r ++ (⟨#[32]⟩ : ByteArray)) W = true ∧ sadok ((r ++ (⟨#[32]⟩ : ByteArray)) ++ W) (⟨#[32]⟩ : ByteArray) = true ∧ sadok (((r ++ (⟨#[32]⟩ : ByteArray)) ++ W) ++ (⟨#[32]⟩ : ByteArray)) p = true ∧
    sadok ((((r ++ (⟨#[32]⟩ : ByteArray)) ++ W) ++ (⟨#[32]⟩ : ByteArray)) ++ p) (⟨#[32]⟩ : ByteArray) = true ∧ sadok (((((r ++ (⟨#[32]⟩ : ByteArray)) ++ W) ++ (⟨#[32]⟩ : ByteArray)) ++ p) ++ (⟨#[32]⟩ : ByteArray)) b = true := by
  refine ⟨sadA ?_, sadA ?_, sadA ?_, sadA ?_, sadA ?_, sadA ?_⟩ <;> simp only [ByteArray.size_append, s32] <;> omega
noncomputable def fullT (n : Api_Net) (W : ByteArray) (x : Audit_Note) : ByteArray := (((((textI x.row) ++ (⟨#[32]⟩ : ByteArray)) ++ W) ++ (⟨#[32]⟩ : ByteArray)) ++ placeT n x.kind x.a) ++ (⟨#[32]⟩ : ByteArray) ++ textI x.b
theorem tailP (hs : SmN n) (hb : NmOk n) {x : Audit_Note} (hx : NoteR x) {W : ByteArray} (hW : W.size ≤ 1000) :
    (if sadok (textI x.row ++ (⟨#[32]⟩ : ByteArray)) W = true then
      if sadok ((textI x.row ++ (⟨#[32]⟩ : ByteArray)) ++ W) (⟨#[32]⟩ : ByteArray) = true then
        (audit_place n x).bind fun r11 =>
        if sadok (((textI x.row ++ (⟨#[32]⟩ : ByteArray)) ++ W) ++ (⟨#[32]⟩ : ByteArray)) r11 = true then
          if sadok ((((textI x.row ++ (⟨#[32]⟩ : ByteArray)) ++ W) ++ (⟨#[32]⟩ : ByteArray)) ++ r11) (⟨#[32]⟩ : ByteArray) = true then
            (num_Text x.b).bind fun r15 =>
            if sadok (((((textI x.row ++ (⟨#[32]⟩ : ByteArray)) ++ W) ++ (⟨#[32]⟩ : ByteArray)) ++ r11) ++ (⟨#[32]⟩ : ByteArray)) r15 = true then
              some ((((((textI x.row ++ (⟨#[32]⟩ : ByteArray)) ++ W) ++ (⟨#[32]⟩ : ByteArray)) ++ r11) ++ (⟨#[32]⟩ : ByteArray)) ++ r15)
            else none
          else none
        else none
      else none
    else none) = some (fullT n W x) := by
  have h1 := textI_len hx.row.1 hx.row.2
  have h2 := textI_len hx.b.1 hx.b.2
  have h3 := placeT_len hb (k := x.kind) hx.a
  obtain ⟨s1, s2, s3, s4, s5, s6⟩ := fullS (r := textI x.row) (W := W) (p := placeT n x.kind x.a) (b := textI x.b) (by omega) hW (by omega) (by omega)
  rw [if_pos s2, if_pos s3, aplace_spec hs hb hx.a, Option.bind_some, if_pos s4, if_pos s5, num_Text_spec hx.b.1 hx.b.2, Option.bind_some, if_pos s6]
  rfl
abbrev wordsT : List ByteArray := [(⟨#[115, 104, 105, 102, 116, 101, 100]⟩ : ByteArray), (⟨#[108, 111, 112, 115, 105, 100, 101, 100]⟩ : ByteArray), (⟨#[108, 111, 110, 101, 108, 121]⟩ : ByteArray), (⟨#[115, 105, 108, 101, 110, 116]⟩ : ByteArray), (⟨#[117, 110, 117, 115, 101, 100]⟩ : ByteArray), (⟨#[112, 105, 110, 110, 101, 100]⟩ : ByteArray), (⟨#[98, 97, 114, 101]⟩ : ByteArray), (⟨#[108, 101, 97, 100, 105, 110, 103]⟩ : ByteArray), (⟨#[116, 114, 117, 110, 107]⟩ : ByteArray)]
theorem text_out {x : Audit_Note} (h : x.kind < 1 ∨ x.kind > 9) : audit_Text n x = some ⟨#[]⟩ ∧ palingref47_Text n (convN x) = some ⟨#[]⟩ := by
  unfold audit_Text palingref47_Text convN
  rcases h with h | h
  · rw [if_pos (decide_eq_true h), if_pos (decide_eq_true h)]; exact ⟨rfl, rfl⟩
  · by_cases c : x.kind < 1
    · omega
    · rw [if_neg (by simpa using c), if_pos (decide_eq_true h), if_neg (by simpa using c), if_pos (decide_eq_true h)]; exact ⟨rfl, rfl⟩
theorem rtext_in (hs : SmN n) (hb : NmOk n) {x : Audit_Note} (hx : NoteR x) {j : Nat} (hj : j < 9) (hk : x.kind = (j : Int) + 1) {W : ByteArray} (hw : wordsT[j]? = some W) (hW : W.size ≤ 1000) : palingref47_Text n (convN x) = some (fullT n W x) := by
  have h1 := textI_len hx.row.1 hx.row.2
  have h2 := textI_len hx.b.1 hx.b.2
  have h3 := placeT_len hb (k := x.kind) hx.a
  obtain ⟨s1, s2, s3, s4, s5, s6⟩ := fullS (r := textI x.row) (W := W) (p := placeT n x.kind x.a) (b := textI x.b) (by omega) hW (by omega) (by omega)
  have hl : lin wordsT (wr_i64 (x.kind - 1)) = true := by
    rw [hk, wr64 (by omega) (by omega), lin_dec]; exact decide_eq_true ⟨by omega, by show _ < ((9 : Nat) : Int); omega⟩
  have hg : wordsT[(Int.toNat (wr_i64 (x.kind - 1)))]? = some W := by
    rw [hk, wr64 (by omega) (by omega), show ((j : Int) + 1 - 1).toNat = j by omega]; exact hw
  unfold palingref47_Text
  have e := rplace_spec hs hb (x := convN x) hx.a (β := ByteArray) (K := fun v48 => (palingref03_Text (convN x).row).bind fun r51 =>
              if (sadok r51 (⟨#[32]⟩ : ByteArray)) = true then
                if (lin wordsT (wr_i64 ((convN x).kind - 1))) = true then
                  (wordsT[(Int.toNat (wr_i64 ((convN x).kind - 1)))]?).bind fun x55 =>
                  if (sadok (r51 ++ (⟨#[32]⟩ : ByteArray)) x55) = true then
                    if (sadok ((r51 ++ (⟨#[32]⟩ : ByteArray)) ++ x55) (⟨#[32]⟩ : ByteArray)) = true then
                      if (sadok (((r51 ++ (⟨#[32]⟩ : ByteArray)) ++ x55) ++ (⟨#[32]⟩ : ByteArray)) v48) = true then
                        if (sadok ((((r51 ++ (⟨#[32]⟩ : ByteArray)) ++ x55) ++ (⟨#[32]⟩ : ByteArray)) ++ v48) (⟨#[32]⟩ : ByteArray)) = true then
                          (palingref03_Text (convN x).b).bind fun r61 =>
                          if (sadok (((((r51 ++ (⟨#[32]⟩ : ByteArray)) ++ x55) ++ (⟨#[32]⟩ : ByteArray)) ++ v48) ++ (⟨#[32]⟩ : ByteArray)) r61) = true then
                            some ((((((r51 ++ (⟨#[32]⟩ : ByteArray)) ++ x55) ++ (⟨#[32]⟩ : ByteArray)) ++ v48) ++ (⟨#[32]⟩ : ByteArray)) ++ r61)
                          else
                            none
                        else
                          none
                      else
                        none
                    else
                      none
                  else
                    none
                else
                  none
              else
                none)
  have k1 : ¬ decide ((convN x).kind < 1) = true := by show ¬ decide (x.kind < 1) = true; simp; omega
  have k2 : ¬ decide ((convN x).kind > 9) = true := by show ¬ decide (x.kind > 9) = true; simp; omega
  rw [if_neg k1, if_neg k2]
  refine Eq.trans e ?_
  have c1 : (convN x).row = x.row := rfl
  have c2 : (convN x).b = x.b := rfl
  have c3 : (convN x).kind = x.kind := rfl
  have c4 : (convN x).a = x.a := rfl
  rw [c1, c2, c3, c4, rText_spec hx.row.1 hx.row.2, Option.bind_some, if_pos s1, if_pos hl, hg, Option.bind_some, if_pos s2, if_pos s3, if_pos s4, if_pos s5, rText_spec hx.b.1 hx.b.2, Option.bind_some, if_pos s6]
  rfl
theorem text_same (hs : SmN n) (hb : NmOk n) {x : Audit_Note} (hx : NoteR x) : ∃ t, audit_Text n x = some t ∧ palingref47_Text n (convN x) = some t := by
  by_cases ho : x.kind < 1 ∨ x.kind > 9
  · exact ⟨_, text_out ho⟩
  have h1 := textI_len hx.row.1 hx.row.2
  have s1 : sadok (textI x.row) (⟨#[32]⟩ : ByteArray) = true := sadA (by rw [s32]; omega)
  have hT := num_Text_spec hx.row.1 hx.row.2
  have step : ∀ (j : Nat) (W : ByteArray), j < 9 → x.kind = (j : Int) + 1 → wordsT[j]? = some W → W.size ≤ 1000 → audit_Text n x = some (fullT n W x) → ∃ t, audit_Text n x = some t ∧ palingref47_Text n (convN x) = some t := fun j W hj hk hw hW e => ⟨_, e, rtext_in hs hb hx hj hk hw hW⟩
  have ne : ∀ {c : Int}, x.kind ≠ c → ¬ (x.kind == c) = true := fun h => by simpa using h
  have b1 : ¬ decide (x.kind < 1) = true := by simp; omega
  have b2 : ¬ decide (x.kind > 9) = true := by simp; omega
  rcases (by omega : x.kind = 1 ∨ x.kind = 2 ∨ x.kind = 3 ∨ x.kind = 4 ∨ x.kind = 5 ∨ x.kind = 6 ∨ x.kind = 7 ∨ x.kind = 8 ∨ x.kind = 9) with h | h | h | h | h | h | h | h | h
  · refine step 0 _ (by decide) (by omega) rfl (by decide) ?_
    unfold audit_Text
    rw [if_neg b1, if_neg b2, hT, Option.bind_some, if_pos s1, if_neg (ne (by omega)), if_pos (by simpa using h)]
    exact tailP hs hb hx (by decide)
  · refine step 1 _ (by decide) (by omega) rfl (by decide) ?_
    unfold audit_Text
    rw [if_neg b1, if_neg b2, hT, Option.bind_some, if_pos s1, if_neg (ne (by omega)), if_neg (ne (by omega)), if_pos (by simpa using h)]
    exact tailP hs hb hx (by decide)
  · refine step 2 _ (by decide) (by omega) rfl (by decide) ?_
    unfold audit_Text
    rw [if_neg b1, if_neg b2, hT, Option.bind_some, if_pos s1, if_neg (ne (by omega)), if_neg (ne (by omega)), if_neg (ne (by omega)), if_pos (by simpa using h)]
    exact tailP hs hb hx (by decide)
  · refine step 3 _ (by decide) (by omega) rfl (by decide) ?_
    unfold audit_Text
    rw [if_neg b1, if_neg b2, hT, Option.bind_some, if_pos s1, if_neg (ne (by omega)), if_neg (ne (by omega)), if_neg (ne (by omega)), if_neg (ne (by omega)), if_pos (by simpa using h)]
    exact tailP hs hb hx (by decide)
  · refine step 4 _ (by decide) (by omega) rfl (by decide) ?_
    unfold audit_Text
    rw [if_neg b1, if_neg b2, hT, Option.bind_some, if_pos s1, if_neg (ne (by omega)), if_neg (ne (by omega)), if_neg (ne (by omega)), if_neg (ne (by omega)), if_neg (ne (by omega)), if_pos (by simpa using h)]
    exact tailP hs hb hx (by decide)
  · refine step 5 _ (by decide) (by omega) rfl (by decide) ?_
    unfold audit_Text
    rw [if_neg b1, if_neg b2, hT, Option.bind_some, if_pos s1, if_neg (ne (by omega)), if_neg (ne (by omega)), if_neg (ne (by omega)), if_neg (ne (by omega)), if_neg (ne (by omega)), if_neg (ne (by omega)), if_pos (by simpa using h)]
    exact tailP hs hb hx (by decide)
  · refine step 6 _ (by decide) (by omega) rfl (by decide) ?_
    unfold audit_Text
    rw [if_neg b1, if_neg b2, hT, Option.bind_some, if_pos s1, if_neg (ne (by omega)), if_neg (ne (by omega)), if_neg (ne (by omega)), if_neg (ne (by omega)), if_neg (ne (by omega)), if_neg (ne (by omega)), if_neg (ne (by omega)), if_pos (by simpa using h)]
    exact tailP hs hb hx (by decide)
  · refine step 7 _ (by decide) (by omega) rfl (by decide) ?_
    unfold audit_Text
    rw [if_neg b1, if_neg b2, hT, Option.bind_some, if_pos s1, if_neg (ne (by omega)), if_neg (ne (by omega)), if_neg (ne (by omega)), if_neg (ne (by omega)), if_neg (ne (by omega)), if_neg (ne (by omega)), if_neg (ne (by omega)), if_neg (ne (by omega)), if_pos (by simpa using h)]
    exact tailP hs hb hx (by decide)
  · refine step 8 _ (by decide) (by omega) rfl (by decide) ?_
    unfold audit_Text
    rw [if_neg b1, if_neg b2, hT, Option.bind_some, if_pos s1, if_neg (ne (by omega)), if_neg (ne (by omega)), if_neg (ne (by omega)), if_neg (ne (by omega)), if_neg (ne (by omega)), if_neg (ne (by omega)), if_neg (ne (by omega)), if_neg (ne (by omega)), if_neg (ne (by omega)), if_pos (by simpa using h)]
    exact tailP hs hb hx (by decide)
theorem great44_spec : ∃ b, palinglaw44_Great n [] = some b ∧ (b = false → BndN n 200 100 ∧ NmOk n) := by
  unfold palinglaw44_Great
  rw [Great_spec, Option.bind_some]
  by_cases hg : BndN n 200 100
  case neg => exact ⟨true, by rw [if_pos (by simpa using hg)], fun h => by cases h⟩
  have hs := hg.sm
  rw [if_neg (by simpa using hg), if_neg (by simp)]
  rw [loop_each (f := palinglaw44_Great_L1 n []) n.devices (fun _ d => d.name.size ≤ 300) (.inl () : Unit ⊕ Unit) (.inr ()) hs.devices (fun j h0 h1 h2 => by
    have hf := hs.devices
    unfold palinglaw44_Great_L1
    rw [if_pos (decide_eq_true h1), nth_getI h2, Option.bind_some, wr64 (by omega) (by unfold Few at hf; omega)]
    by_cases c : (getI n.devices j).name.size ≤ 300
    · rw [if_neg (by simp; omega), if_pos c]
    · rw [if_pos (by simp; omega), if_neg c]) (by unfold palinglaw44_Great_L1; rw [if_neg (by simp)])]
  by_cases c1 : EachP n.devices fun _ d => d.name.size ≤ 300
  case neg => exact ⟨true, by rw [if_neg c1]; rfl, fun h => by cases h⟩
  rw [if_pos c1, Option.bind_some]
  try simp only
  rw [loop_each (f := palinglaw44_Great_L2 n []) n.ports (fun _ d => d.name.size ≤ 300) (.inl () : Unit ⊕ Unit) (.inr ()) hs.ports (fun j h0 h1 h2 => by
    have hf := hs.ports
    unfold palinglaw44_Great_L2
    rw [if_pos (decide_eq_true h1), nth_getI h2, Option.bind_some, wr64 (by omega) (by unfold Few at hf; omega)]
    by_cases c : (getI n.ports j).name.size ≤ 300
    · rw [if_neg (by simp; omega), if_pos c]
    · rw [if_pos (by simp; omega), if_neg c]) (by unfold palinglaw44_Great_L2; rw [if_neg (by simp)])]
  by_cases c2 : EachP n.ports fun _ d => d.name.size ≤ 300
  case neg => exact ⟨true, by rw [if_neg c2]; rfl, fun h => by cases h⟩
  have e3 : loopM (palinglaw44_Great_L3 []) 0 = some (.inr ()) := loopM_trace (f := palinglaw44_Great_L3 []) (fun _ => 0) 0 (by omega) (fun j hj => by omega) (by unfold palinglaw44_Great_L3; rw [if_neg (by simp)])
  rw [if_pos c2, Option.bind_some]
  try simp only
  rw [e3]
  exact ⟨false, rfl, fun _ => ⟨hg, fun x hx => by obtain ⟨j, hj, rfl⟩ := mem_getI hx; exact c1 j hj, fun x hx => by obtain ⟨j, hj, rfl⟩ := mem_getI hx; exact c2 j hj⟩⟩
theorem works47 : palinglaw47_works = some true := by kernel_rfl
theorem eqN {x : Palingref47_Note} : eq_Palingref47_Note x x = true := by simp [eq_Palingref47_Note]
end
theorem auditTells (n : Api_Net) (x : Audit_Note) (ho : n.Ok) (hx : x.Ok) : palinglaw47_AuditTells n x = some true := by
  obtain ⟨b, eb, hb⟩ := great44_spec (n := n)
  unfold palinglaw47_AuditTells
  rw [eb, Option.bind_some]
  cases b with
  | true => rw [if_pos rfl, works47]; rfl
  | false =>
    obtain ⟨hg, hn⟩ := hb rfl
    have hs := hg.sm
    have hxr : NoteR x := ⟨i64b hx.2.1, i64b hx.2.2.1, i64b hx.2.2.2.1⟩
    obtain ⟨t, e1, e2⟩ := text_same hs hn hxr
    have e2' : palingref47_Text n (⟨x.kind, x.row, x.a, x.b⟩ : Palingref47_Note) = some t := e2
    have fin : ∀ (l : List Audit_Note), l.length ≤ 100000 → (∀ y ∈ l, NoteR y) → loopM (palinglaw47_AuditTells_L1 n x l (l.map convN)) 0 = some (.inr ()) := fun l hl hall => by
      rw [loop_pass (f := palinglaw47_AuditTells_L1 n x l (l.map convN)) l (Sum.inr () : Unit ⊕ Unit) (by unfold Few; omega) (fun j h0 h1 hj => by
        have hj' : inL (l.map convN) j := ⟨hj.1, by rw [List.length_map]; exact hj.2⟩
        have hg2 : (l.map convN)[(Int.toNat j)]? = some (convN (getI l j)) := by rw [List.getElem?_map, getI_get? hj]; rfl
        obtain ⟨t2, q1, q2⟩ := text_same hs hn (hall _ (getI_mem hj))
        unfold palinglaw47_AuditTells_L1
        rw [if_pos (decide_eq_true h1), if_pos (by rw [lin_dec]; exact decide_eq_true hj), getI_get? hj, Option.bind_some, if_pos (by rw [lin_dec]; exact decide_eq_true hj'), hg2, Option.bind_some]
        have he : eq_Palingref47_Note (⟨(getI l j).kind, (getI l j).row, (getI l j).a, (getI l j).b⟩ : Palingref47_Note) (convN (getI l j)) = true := eqN
        rw [he, if_neg (by simp), Option.bind_some, q1, Option.bind_some, Option.bind_some, q2, Option.bind_some, seqB_dec, if_neg (by simp), wr64 (by omega) (by omega)]) (by
        unfold palinglaw47_AuditTells_L1
        rw [if_neg (by simp)])]
    rw [if_neg (by simp)]
    by_cases hr : RightP n
    · obtain ⟨b1, b2, b3, b4, b5, b6, b7, b8, b9⟩ := allN_lens hr
      have hlen : (allN n).length ≤ 100000 := by unfold allN; simp only [List.length_append]; omega
      rw [audit_All_right hs hg hr ho, Option.bind_some]
      simp only
      rw [rAll_right hs hg hr ho, Option.bind_some]
      simp only
      rw [if_neg (by simp), if_neg (by simp), fin _ hlen (notes_r hs hg hr ho), Option.bind_some]
      try simp only
      rw [e1, Option.bind_some, e2', Option.bind_some, seqB_dec, if_pos (by simp), works47]; rfl
    · rw [audit_All_wrong hs hr, Option.bind_some]
      simp only
      rw [rAll_wrong hs hr, Option.bind_some]
      simp only
      rw [if_neg (by simp), if_neg (by simp), show loopM (palinglaw47_AuditTells_L1 n x [] []) 0 = some (.inr ()) from fin [] (by simp) (fun y hy => by cases hy), Option.bind_some]
      try simp only
      rw [e1, Option.bind_some, e2', Option.bind_some, seqB_dec, if_pos (by simp), works47]; rfl
end Go.Eng
