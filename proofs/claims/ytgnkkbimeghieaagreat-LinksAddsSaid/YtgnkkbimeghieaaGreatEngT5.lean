/- Plain laws of chapter 17: LinksAdds. -/
import Derived.Test.YtgnkkbimeghieaaGreatEngT4
import Derived.Test.YtgnkkbimeghieaaGreatEngGR15
import Derived.Test.YtgnkkbimeghieaaGreatEngGL2
set_option linter.unusedVariables false
set_option linter.unusedSectionVars false
set_option linter.unusedSimpArgs false
namespace Go.Eng
open Go Classical
attribute [local congr] ite_cg
section
variable {n : Api_Net} {l : Api_Line}
abbrev AddT : Type := (List Api_Device) × (List Api_Port) × (List Api_Link) × (List Api_Domain) × (List Api_Static) × (List Api_Flood) × (List Api_Vrf) × (List Api_Irb) × Nat × Nat × Nat × Nat × Int
def badA (e : Int) : AddT := ([], [], [], [], [], [], [], [], 0, 0, 0, 0, e)
noncomputable def endA (n : Api_Net) (l : Api_Line) : Int := endI n l.dev l.port
noncomputable def endB (n : Api_Net) (l : Api_Line) : Int := endI n l.peer l.far
noncomputable def addR (n : Api_Net) (l : Api_Line) : AddT :=
  if ¬ (l.kind = 3 ∧ LineP l ∧ RightP n) then badA 2
  else if ¬ (0 ≤ endA n l ∧ 0 ≤ endB n l) then badA 31
  else if (getI n.ports (endA n l)).dev = (getI n.ports (endB n l)).dev ∨ (getI n.ports (endA n l)).link ≥ 0 ∨ (getI n.ports (endB n l)).link ≥ 0 then badA 33
  else if (n.links.length : Int) = 20 then badA 3
  else (n.devices, (putL n l (endA n l) (endB n l)).ports, (putL n l (endA n l) (endB n l)).links, n.domains, n.statics, n.floods, n.vrfs, n.irbs, n.ports.length, n.domains.length, n.floods.length, n.vrfs.length, 0)
theorem linksAdd_is (hs : SmN n) (hd : l.dev.size ≤ 1000000) (hp : l.port.size ≤ 1000000) (hq : l.peer.size ≤ 1000000) (hf : l.far.size ≤ 1000000) : links_Add n l = some (addR n l) := by
  unfold links_Add addR
  by_cases hk : l.kind = 3
  case neg => rw [if_pos (by simpa using hk), if_pos (fun h => hk h.1)]; rfl
  rw [if_neg (by simpa using hk), sRight3 hk hd hp hq hf, Option.bind_some]
  by_cases hL : LineP l
  case neg => rw [if_pos (by simpa using hL), if_pos (fun h => hL h.2.1)]; rfl
  rw [if_neg (by simpa using hL), names_Right_spec hs, Option.bind_some]
  by_cases hr : RightP n
  case neg => rw [if_pos (by simpa using hr), if_pos (fun h => hr h.2.2)]; rfl
  rw [if_neg (by simpa using hr), if_neg (fun h => h ⟨hk, hL, hr⟩), links_end_spec hs hr, links_end_spec hs hr]
  simp only [Option.bind_some]
  have e1 : ∀ r s : Int, loopM (links_Add_L1 n l r s) 0 = if 0 ≤ r ∧ 0 ≤ s then some (.inr ()) else some (.inl ()) := by
    intro r s
    rw [loop_upto (f := links_Add_L1 n l r s) 2 (fun i => if i = 0 then 0 ≤ r else 0 ≤ s) (.inl () : Unit ⊕ Unit) (.inr ()) (by decide) (fun i h0 h1 => by
      have h1 : i < 2 := h1
      have hw := wr64 (n := i + 1) (by omega) (by omega)
      by_cases c : i = 0
      · subst c
        by_cases c2 : r < 0
        · have : ¬ 0 ≤ r := by omega
          simp [links_Add_L1, c2, this]
        · have : 0 ≤ r := by omega
          simp [links_Add_L1, c2, this, wr64]
      · have c1 : i = 1 := by omega
        subst c1
        by_cases c2 : s < 0
        · have : ¬ 0 ≤ s := by omega
          simp [links_Add_L1, c2, this]
        · have : 0 ≤ s := by omega
          simp [links_Add_L1, c2, this, wr64]) (by simp [links_Add_L1])]
    by_cases c : 0 ≤ r ∧ 0 ≤ s
    · rw [if_pos c, if_pos (fun i h0 h1 => by split; exact c.1; exact c.2)]
    · rw [if_neg c, if_neg (fun h => c ⟨by simpa using h 0 (by decide) (by decide), by simpa using h 1 (by decide) (by decide)⟩)]
  rw [e1]
  have hA : endA n l = endI n l.dev l.port := rfl
  have hB : endB n l = endI n l.peer l.far := rfl
  by_cases c : 0 ≤ endI n l.dev l.port ∧ 0 ≤ endI n l.peer l.far
  case neg => rw [if_neg c, if_pos (show ¬ (0 ≤ endA n l ∧ 0 ≤ endB n l) from c)]; rfl
  rw [if_pos c, if_neg (show ¬ ¬ (0 ≤ endA n l ∧ 0 ≤ endB n l) from fun h => h c)]
  have ha := endI_in c.1
  have hbn := endI_in c.2
  simp only [Option.bind_some, nth_getI ha, nth_getI hbn]
  have hJ : links_Add_J2 n l (endI n l.dev l.port) (endI n l.peer l.far) (getI n.ports (endI n l.dev l.port)) (getI n.ports (endI n l.peer l.far)) = some (decide ((getI n.ports (endI n l.dev l.port)).dev = (getI n.ports (endI n l.peer l.far)).dev ∨ (getI n.ports (endI n l.dev l.port)).link ≥ 0 ∨ (getI n.ports (endI n l.peer l.far)).link ≥ 0)) := by
    unfold links_Add_J2
    by_cases g1 : (getI n.ports (endI n l.dev l.port)).dev = (getI n.ports (endI n l.peer l.far)).dev
    · rw [if_pos (by simpa using g1)]; simp [g1]
    rw [if_neg (by simpa using g1)]
    by_cases g2 : (getI n.ports (endI n l.dev l.port)).link ≥ 0
    · rw [if_pos (by simpa using g2)]; simp [g2]
    · rw [if_neg (by simpa using g2)]; simp [g1, g2]
  rw [hJ]
  simp only [Option.bind_some, hA, hB]
  by_cases c2 : (getI n.ports (endI n l.dev l.port)).dev = (getI n.ports (endI n l.peer l.far)).dev ∨ (getI n.ports (endI n l.dev l.port)).link ≥ 0 ∨ (getI n.ports (endI n l.peer l.far)).link ≥ 0
  · rw [if_pos (decide_eq_true c2), if_pos c2]; rfl
  rw [if_neg (by rw [decide_eq_true_eq]; exact c2), if_neg c2]
  by_cases c3 : (n.links.length : Int) = 20
  · rw [if_pos (by simpa using c3), if_pos c3]; rfl
  have hfew := hr.few.2.2.1
  rw [if_neg (by simpa using c3), if_neg c3, names_Copy_spec hs]
  generalize endI n l.dev l.port = a at *
  generalize endI n l.peer l.far = b at *
  simp only [Option.bind_some]
  have e3 : loopM (fun s : (List Api_Port) × Int => match s with | (l48, v49) => links_Add_L3 l a b n.devices n.links n.domains n.statics n.floods n.vrfs n.irbs n.ports.length n.domains.length n.floods.length n.vrfs.length l48 v49) (n.ports, 0) = some (setLk (setLk n.ports a n.links.length) b n.links.length) :=
    loopM_trace (f := fun s : (List Api_Port) × Int => match s with | (l48, v49) => links_Add_L3 l a b n.devices n.links n.domains n.statics n.floods n.vrfs n.irbs n.ports.length n.domains.length n.floods.length n.vrfs.length l48 v49) (r := setLk (setLk n.ports a n.links.length) b n.links.length) (fun i => match i with
      | 0 => (n.ports, 0)
      | 1 => (setLk n.ports a n.links.length, 1)
      | _ => (setLk (setLk n.ports a n.links.length) b n.links.length, 2)) 2 (by decide) (fun i hi => by
      match i, hi with
      | 0, _ =>
        have l1 : lin n.ports a = true := by rw [lin_dec]; exact decide_eq_true ha
        simp only [links_Add_L3, l1, getI_get? ha, Option.bind_some]
        simp [wr64, setLk]
      | 1, _ =>
        have hb2 : inL (setLk n.ports a n.links.length) b := inL_setI.2 hbn
        have l1 : lin (setLk n.ports a n.links.length) b = true := by rw [lin_dec]; exact decide_eq_true hb2
        simp only [links_Add_L3, l1, getI_get? hb2, Option.bind_some]
        simp [wr64, setLk]) (by simp [links_Add_L3])
  rw [e3]
  simp only [Option.bind_some]
  rw [if_pos (roomy_few (by simp only [List.length_append, List.length_singleton]; omega))]
  rfl
theorem rend_spec (hs : SmN n) {d p : ByteArray} : palingref17_end n d p = some (endI n d p) := by
  unfold palingref17_end endI
  rw [rDevice_spec hs, Option.bind_some]
  by_cases c : devI n d < 0
  · rw [if_pos (decide_eq_true c), if_pos c]
  · rw [if_neg (by simpa using c), if_neg c, rPort_spec hs, Option.bind_some]
theorem rAdd_is (hs : SmN n) (hR : palingref11_Right l = some (decide (LineP l)) ∨ l.kind ≠ 3) : palingref17_Add n l = some (addR n l) := by
  unfold palingref17_Add addR palingref16_Fits
  by_cases hk : l.kind = 3
  case neg => rw [if_neg (by simpa using hk), Option.bind_some, if_pos (by rfl), if_pos (fun h => hk h.1)]; rfl
  have hR := hR.resolve_right (fun h => h hk)
  rw [if_pos (by simpa using hk), hR, Option.bind_some]
  by_cases hL : LineP l
  case neg => rw [if_neg (by simpa using hL), Option.bind_some, if_pos (by rfl), if_pos (fun h => hL h.2.1)]; rfl
  rw [if_pos (decide_eq_true hL), rRight_spec hs, Option.bind_some, Option.bind_some]
  by_cases hr : RightP n
  case neg => rw [if_pos (by simpa using hr), if_pos (fun h => hr h.2.2)]; rfl
  rw [if_neg (by simpa using hr), if_neg (fun h => h ⟨hk, hL, hr⟩), rend_spec hs, Option.bind_some, rend_spec hs, Option.bind_some]
  have hA : endA n l = endI n l.dev l.port := rfl
  have hB : endB n l = endI n l.peer l.far := rfl
  rw [hA, hB]
  by_cases c : 0 ≤ endI n l.dev l.port ∧ 0 ≤ endI n l.peer l.far
  case neg =>
    rw [if_pos (show ¬ (0 ≤ endI n l.dev l.port ∧ 0 ≤ endI n l.peer l.far) from c)]
    by_cases c1 : endI n l.dev l.port < 0
    · rw [if_pos (by simpa using c1)]; rfl
    · rw [if_neg (by simpa using c1), if_pos (by simp; omega)]; rfl
  have ha := endI_in c.1
  have hbn := endI_in c.2
  have l1 : (getI n.ports (endI n l.dev l.port)).link ≥ 0 ↔ (getI n.ports (endI n l.dev l.port)).link ≠ -1 := ⟨fun h => by omega, fun h => by
    apply Classical.byContradiction; intro h2; exact h (link_free hr ha (by omega))⟩
  have l2 : (getI n.ports (endI n l.peer l.far)).link ≥ 0 ↔ (getI n.ports (endI n l.peer l.far)).link ≠ -1 := ⟨fun h => by omega, fun h => by
    apply Classical.byContradiction; intro h2; exact h (link_free hr hbn (by omega))⟩
  rw [if_neg (show ¬ ¬ (0 ≤ endI n l.dev l.port ∧ 0 ≤ endI n l.peer l.far) from fun h => h c), if_neg (by simp; omega), if_neg (by simp; omega), nth_getI ha, nth_getI hbn]
  simp only [Option.bind_some]
  by_cases d1 : (getI n.ports (endI n l.dev l.port)).dev = (getI n.ports (endI n l.peer l.far)).dev
  · rw [if_pos (by simpa using d1), if_pos (.inl d1)]; rfl
  rw [if_neg (by simpa using d1)]
  by_cases d2 : (getI n.ports (endI n l.dev l.port)).link ≥ 0
  · rw [if_pos (by simpa using l1.1 d2), if_pos (.inr (.inl d2))]; rfl
  have d2' : (getI n.ports (endI n l.dev l.port)).link = -1 := Classical.byContradiction fun h => d2 (l1.2 h)
  rw [if_neg (by simpa using d2')]
  by_cases d3 : (getI n.ports (endI n l.peer l.far)).link ≥ 0
  · rw [if_pos (by simpa using l2.1 d3), if_pos (.inr (.inr d3))]; rfl
  have d3' : (getI n.ports (endI n l.peer l.far)).link = -1 := Classical.byContradiction fun h => d3 (l2.2 h)
  rw [if_neg (by simpa using d3'), if_neg (show ¬ ((getI n.ports (endI n l.dev l.port)).dev = (getI n.ports (endI n l.peer l.far)).dev ∨ (getI n.ports (endI n l.dev l.port)).link ≥ 0 ∨ (getI n.ports (endI n l.peer l.far)).link ≥ 0) by rintro (h | h | h) <;> contradiction)]
  have hfew := hr.few.2.2.1
  by_cases c3 : (n.links.length : Int) = 20
  · rw [if_pos (by simp; omega), if_pos c3]; rfl
  rw [if_neg (by simp; omega), if_neg c3, rCopy_spec hs, Option.bind_some]
  have hb2 : inL (setLk n.ports (endI n l.dev l.port) n.links.length) (endI n l.peer l.far) := inL_setI.2 hbn
  simp only
  rw [if_pos (by rw [lin_dec]; exact decide_eq_true ha), getI_get? ha, Option.bind_some]
  show (if lin (setLk n.ports (endI n l.dev l.port) n.links.length) (endI n l.peer l.far) = true then _ else _) = _
  rw [if_pos (by rw [lin_dec]; exact decide_eq_true hb2)]
  show Option.bind ((setLk n.ports (endI n l.dev l.port) n.links.length)[(endI n l.peer l.far).toNat]?) _ = _
  rw [getI_get? hb2, Option.bind_some, if_pos (roomy_few (by simp only [List.length_append, List.length_singleton]; omega))]
  rfl
end
end Go.Eng
