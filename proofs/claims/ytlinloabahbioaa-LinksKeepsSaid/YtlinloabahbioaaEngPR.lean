/- Plain laws of nets that may be when something is put into them. -/
import Derived.Test.YtlinloabahbioaaEngP15
set_option linter.unusedVariables false
set_option linter.unusedSectionVars false
set_option linter.unusedSimpArgs false
namespace Go.Eng
open Go Classical

section
variable {α : Type} [Inhabited α] {l r : List α} {x : α} {i k : Int}
theorem inL_app (h : inL l i) : inL (l ++ r) i := ⟨h.1, by have := h.2; simp; omega⟩
theorem getI_app (h : inL l i) : getI (l ++ r) i = getI l i := by
  have h0 := h.1; have h1 := h.2
  unfold getI
  rw [List.getElem?_append_left (by omega)]
theorem inL_app1 : inL (l ++ [x]) i ↔ inL l i ∨ i = l.length := by
  unfold inL
  simp
  omega
theorem getI_last : getI (l ++ [x]) (l.length : Int) = x := by
  unfold getI
  simp
theorem eachP_app1 {P : Int → α → Prop} : EachP (l ++ [x]) P ↔ EachP l P ∧ P l.length x := by
  constructor
  · intro h
    refine ⟨fun i hi => ?_, ?_⟩
    · have := h i (inL_app hi); rwa [getI_app hi] at this
    · have := h l.length (inL_app1.2 (.inr rfl)); rwa [getI_last] at this
  · rintro ⟨h1, h2⟩ i hi
    rcases inL_app1.1 hi with h | rfl
    · rw [getI_app h]; exact h1 i h
    · rw [getI_last]; exact h2
theorem eachP_mono {P Q : Int → α → Prop} (h : EachP l P) (hpq : ∀ i, inL l i → P i (getI l i) → Q i (getI l i)) : EachP l Q := fun i hi => hpq i hi (h i hi)
theorem inL_setI : inL (l.set k.toNat x) i ↔ inL l i := by simp [inL]
theorem getI_setI (hk : inL l k) (hi : inL l i) : getI (l.set k.toNat x) i = if i = k then x else getI l i := by
  have h1 := hk.1; have h2 := hi.1; have h3 := hk.2; have h4 := hi.2
  unfold getI
  by_cases h : i = k
  · subst h
    rw [List.getElem?_set_self (by omega)]; simp
  · rw [List.getElem?_set_ne (by omega)]; simp [h]
theorem eachP_set {P : Int → α → Prop} (hk : inL l k) (h : ∀ i, inL l i → i ≠ k → P i (getI l i)) (hx : P k x) : EachP (l.set k.toNat x) P := fun i hi => by
  rw [inL_setI] at hi
  rw [getI_setI hk hi]
  split
  · rename_i e; rw [e]; exact hx
  · rename_i e; exact h i hi e
end
/-- The first place of a list that goes on. -/
theorem fstI_app {α : Type} [Inhabited α] {l : List α} {x : α} {P : α → Prop} : fstI (l ++ [x]) P = if 0 ≤ fstI l P then fstI l P else if P x then (l.length : Int) else -1 := by
  by_cases h : 0 ≤ fstI l P
  · rw [if_pos h]
    have hi := fstI_inL.1 h
    refine (fstI_eq (inL_app hi)).2 ⟨by rw [getI_app hi]; exact fstI_is h, fun j hj hlt => ?_⟩
    have hjl : inL l j := ⟨hj.1, by have := hi.2; omega⟩
    rw [getI_app hjl]
    intro hp
    have := fstI_first hjl hp; omega
  · rw [if_neg h]
    have hn := fstI_none.1 (by omega : fstI l P < 0)
    by_cases hx : P x
    · rw [if_pos hx]
      refine (fstI_eq (inL_app1.2 (.inr rfl))).2 ⟨by rw [getI_last]; exact hx, fun j hj hlt => ?_⟩
      have hjl : inL l j := ⟨hj.1, by omega⟩
      rw [getI_app hjl]; exact hn j hjl
    · rw [if_neg hx]
      have : fstI (l ++ [x]) P < 0 := fstI_none.2 fun j hj => by
        rcases inL_app1.1 hj with g | rfl
        · rw [getI_app g]; exact hn j g
        · rw [getI_last]; exact hx
      have := fstI_ge (l := l ++ [x]) (P := P)
      omega
theorem fstI_congr {α : Type} [Inhabited α] {l r : List α} {P Q : α → Prop} (hl : l.length = r.length) (h : ∀ i, inL l i → (P (getI l i) ↔ Q (getI r i))) : fstI l P = fstI r Q := by
  by_cases h1 : 0 ≤ fstI l P
  · have hi := fstI_inL.1 h1
    have hr : inL r (fstI l P) := ⟨hi.1, by have := hi.2; omega⟩
    symm
    refine (fstI_eq hr).2 ⟨(h _ hi).1 (fstI_is h1), fun j hj hlt hq => ?_⟩
    have hj' : inL l j := ⟨hj.1, by have := hj.2; omega⟩
    have := fstI_first hj' ((h j hj').2 hq); omega
  · have hn := fstI_none.1 (by omega : fstI l P < 0)
    have : fstI r Q < 0 := fstI_none.2 fun j hj => by
      have hj' : inL l j := ⟨hj.1, by have := hj.2; omega⟩
      exact fun hq => hn j hj' ((h j hj').2 hq)
    have g1 := fstI_ge (l := l) (P := P)
    have g2 := fstI_ge (l := r) (P := Q)
    omega

section
variable {n : Api_Net}
/-- With a static entry. -/
theorem right_static (hr : RightP n) {s : Api_Static} (hs : StaticP n s) (hc : n.statics.length < 64) : RightP { n with statics := n.statics ++ [s] } := by
  obtain ⟨a, b, c, d, e, f, g, h⟩ := hr.few
  exact ⟨⟨a, b, c, d, by simp; omega, f, g, h⟩, hr.bare, hr.peers, hr.ports, hr.links, eachP_app1.2 ⟨hr.statics, hs⟩, hr.floods, hr.vrfs, hr.irbs⟩
/-- With a flood list. -/
theorem right_flood (hr : RightP n) {s : Api_Flood} (hs : FloodP n s) (hc : n.floods.length < 48) : RightP { n with floods := n.floods ++ [s] } := by
  obtain ⟨a, b, c, d, e, f, g, h⟩ := hr.few
  exact ⟨⟨a, b, c, d, e, by simp; omega, g, h⟩, hr.bare, hr.peers, hr.ports, hr.links, hr.statics, eachP_app1.2 ⟨hr.floods, hs⟩, hr.vrfs, hr.irbs⟩
/-- With a VRF. -/
theorem right_vrf (hr : RightP n) {v : Api_Vrf} (hs : VrfP n v) (hc : n.vrfs.length < 16) : RightP { n with vrfs := n.vrfs ++ [v] } := by
  obtain ⟨a, b, c, d, e, f, g, h⟩ := hr.few
  refine ⟨⟨a, b, c, d, e, f, by simp; omega, h⟩, hr.bare, hr.peers, hr.ports, hr.links, hr.statics, hr.floods, eachP_app1.2 ⟨hr.vrfs, hs⟩, eachP_mono hr.irbs fun i hi q => ?_⟩
  obtain ⟨q1, q2, q3, q4, q5⟩ := q
  exact ⟨q1, inL_app q2, by simp only; rw [getI_app q2]; exact q3, q4, q5⟩
/-- With a device. -/
theorem right_device (hr : RightP n) {v : Api_Device} (hc : n.devices.length < 8) : RightP { n with devices := n.devices ++ [v] } := by
  obtain ⟨a, b, c, d, e, f, g, h⟩ := hr.few
  have hv : ∀ {k}, inL n.devices k → (vtepP { n with devices := n.devices ++ [v] } k ↔ vtepP n k) := fun hk => by
    unfold vtepP
    simp only
    rw [getI_app hk]
  refine ⟨⟨by simp; omega, b, c, d, e, f, g, h⟩, eachP_mono hr.bare fun i hi q => ⟨inL_app q.1, q.2⟩, eachP_mono hr.peers fun i hi q j hj => ?_, eachP_mono hr.ports fun i hi q => ⟨inL_app q.1, q.2⟩, hr.links, hr.statics,
    eachP_mono hr.floods fun i hi q => ⟨inL_app q.1, q.2⟩, eachP_mono hr.vrfs fun i hi q => ⟨inL_app q.1, q.2⟩, hr.irbs⟩
  obtain ⟨⟨q1, q2, q3, q4, q5, q6, q7, q8, q9⟩, q10⟩ := q j hj
  exact ⟨⟨q1, q2, inL_app q3, q4, q5, q6, (hv q3).2 q7, (hv (hr.bare i hi).1).2 q8, q9⟩, q10⟩
/-- With a VTEP. -/
theorem right_vtep (hr : RightP n) {k : Int} (hk : inL n.devices k) {a : Int} (ha : a ≠ 0) : RightP { n with devices := n.devices.set k.toNat { getI n.devices k with vtep := a } } := by
  obtain ⟨a1, b, c, d, e, f, g, h⟩ := hr.few
  have hv : ∀ {j}, inL n.devices j → vtepP n j → vtepP { n with devices := n.devices.set k.toNat { getI n.devices k with vtep := a } } j := fun hj q => by
    unfold vtepP at q ⊢
    simp only
    rw [getI_setI hk hj]
    split
    · exact ha
    · exact q
  refine ⟨⟨by simp; omega, b, c, d, e, f, g, h⟩, eachP_mono hr.bare fun i hi q => ⟨inL_setI.2 q.1, q.2⟩, eachP_mono hr.peers fun i hi q j hj => ?_, eachP_mono hr.ports fun i hi q => ⟨inL_setI.2 q.1, q.2⟩, hr.links, hr.statics,
    eachP_mono hr.floods fun i hi q => ⟨inL_setI.2 q.1, q.2⟩, eachP_mono hr.vrfs fun i hi q => ⟨inL_setI.2 q.1, q.2⟩, hr.irbs⟩
  obtain ⟨⟨q1, q2, q3, q4, q5, q6, q7, q8, q9⟩, q10⟩ := q j hj
  exact ⟨⟨q1, q2, inL_setI.2 q3, q4, q5, q6, hv q3 q7, hv (hr.bare i hi).1 q8, q9⟩, q10⟩
end
end Go.Eng
