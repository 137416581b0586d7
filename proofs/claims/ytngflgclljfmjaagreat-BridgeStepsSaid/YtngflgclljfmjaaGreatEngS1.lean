/- Chapter 31 (bridge): things that go out, alike on both sides: BridgeSames. -/
import Derived.Test.YtngflgclljfmjaaGreatEngGP1
import Derived.Test.YtngflgclljfmjaaGreatMAM
set_option linter.unusedVariables false
set_option linter.unusedSectionVars false
set_option linter.unusedSimpArgs false
namespace Go.Eng
open Go Classical
attribute [local congr] ite_cg
theorem gather_map {α β : Type} [Inhabited α] {l : List α} {g : α → β} : gatherI l (fun _ _ => True) (fun _ x => g x) = l.map g := by
  unfold gatherI
  have key : ∀ (l : List α) (k : Nat), (l.zipIdx k).filterMap (fun q => some (g q.1)) = l.map g := by
    intro l
    induction l with
    | nil => intro k; rfl
    | cons x l ih =>
      intro k
      rw [List.zipIdx_cons, List.filterMap_cons, ih]
      rfl
  simp only [if_true]
  exact key l 0
def outP (x y : Bridge_Out) : Prop := x.kind = y.kind ∧ x.port = y.port ∧ x.domain = y.domain ∧ x.error = y.error ∧ bstr x.bytes = bstr y.bytes ∧ x.frame.dst = y.frame.dst ∧ x.frame.src = y.frame.src ∧ x.frame.type_ = y.frame.type_ ∧ bstr x.frame.body = bstr y.frame.body
theorem outP_self {x : Bridge_Out} : outP x x := ⟨rfl, rfl, rfl, rfl, rfl, rfl, rfl, rfl, rfl⟩
def SamesP (a b : List Bridge_Out) : Prop := a.length = b.length ∧ EachP a (fun i x => outP x (getI b i))
def toldO (x : Bridge_Out) : Palingref31_Out := ⟨x.kind, x.port, x.domain, x.bytes, x.frame, x.error⟩
theorem told_spec {a : List Bridge_Out} (ha : Few a) : palinglaw31_told a = some (a.map toldO) := by
  have hf : a.length ≤ 1000000 := ha
  unfold palinglaw31_told
  rw [loop_gather a (fun _ _ => True) (fun _ x => toldO x) (f := fun s : (List Palingref31_Out) × Int => match s with | (l2, v3) => palinglaw31_told_L1 a l2 v3) (out := id) ha (fun i s h0 h1 h2 hs => by
    have hr : roomy 104 (s ++ [toldO (getI a i)]) = true := roomy_few (by simp; omega)
    show palinglaw31_told_L1 a s i = _
    unfold palinglaw31_told_L1
    rw [if_pos (decide_eq_true h1), nth_getI h2, Option.bind_some, wr64 (by omega) (by omega)]
    unfold toldO at hr
    rw [if_pos hr, if_pos trivial]
    rfl) (fun s => by
    show palinglaw31_told_L1 a s a.length = _
    unfold palinglaw31_told_L1
    rw [if_neg (by simp)]; rfl), gather_map]
  rfl
theorem getI_map {α β : Type} [Inhabited α] [Inhabited β] {l : List α} {g : α → β} {i : Int} (h : inL l i) : getI (l.map g) i = g (getI l i) := by
  have := getI_get? h
  unfold getI at *
  rw [List.getElem?_map, this]
  rfl
theorem inL_map {α β : Type} {l : List α} {g : α → β} {i : Int} : inL (l.map g) i ↔ inL l i := by simp [inL]
theorem r31Same_spec {a b : List Bridge_Out} (ha : Few a) : palingref31_Same (a.map toldO) (b.map toldO) = some (decide (SamesP a b)) := by
  have hf : a.length ≤ 1000000 := ha
  unfold palingref31_Same SamesP
  by_cases hl : (a.length : Int) = b.length
  case neg =>
    have : ¬ a.length = b.length := by omega
    simp [hl, this]
  have hl' : a.length = b.length := by omega
  have hfm : Few (a.map toldO) := by unfold Few; simpa using hf
  rw [if_neg (by simpa using hl), loop_each (a.map toldO) (fun i x => outP (getI a i) (getI b i)) (.inl ()) (.inr ()) hfm (fun i h0 h1 h2 => by
    have h2' : inL a i := inL_map.1 h2
    have h3 : inL (b.map toldO) i := inL_map.2 ⟨h0, by have := h2'.2; omega⟩
    have h3' : inL b i := inL_map.1 h3
    have h4 := h2'.2
    have hw := wr64 (n := i + 1) (by omega) (by omega)
    have g1 := getI_map (g := toldO) h2'
    have g2 := getI_map (g := toldO) h3'
    unfold palingref31_Same_L1 palingref04_Same
    rw [if_pos (decide_eq_true h1), nth_getI h2, Option.bind_some, nth_getI h3, Option.bind_some, g1, g2, hw]
    simp only [toldO]
    by_cases c1 : (getI a i).kind = (getI b i).kind
    case neg => simp [outP, c1]
    by_cases c2 : (getI a i).port = (getI b i).port
    case neg => simp [outP, c1, c2]
    by_cases c3 : (getI a i).domain = (getI b i).domain
    case neg => simp [outP, c1, c2, c3]
    by_cases c4 : (getI a i).error = (getI b i).error
    case neg => simp [outP, c1, c2, c3, c4]
    by_cases c5 : bstr (getI a i).bytes = bstr (getI b i).bytes
    case neg => simp [outP, c1, c2, c3, c4, c5, seqB_dec]
    by_cases c6 : (getI a i).frame.dst = (getI b i).frame.dst
    case neg => simp [outP, c1, c2, c3, c4, c5, c6, seqB_dec]
    by_cases c7 : (getI a i).frame.src = (getI b i).frame.src
    case neg => simp [outP, c1, c2, c3, c4, c5, c6, c7, seqB_dec]
    by_cases c8 : (getI a i).frame.type_ = (getI b i).frame.type_
    case neg => simp [outP, c1, c2, c3, c4, c5, c6, c7, c8, seqB_dec]
    by_cases c9 : bstr (getI a i).frame.body = bstr (getI b i).frame.body
    case neg => simp [outP, c1, c2, c3, c4, c5, c6, c7, c8, c9, seqB_dec]
    simp [outP, c1, c2, c3, c4, c5, c6, c7, c8, c9, seqB_dec]) (by simp [palingref31_Same_L1])]
  have he : EachP (a.map toldO) (fun i x => outP (getI a i) (getI b i)) ↔ EachP a (fun i x => outP x (getI b i)) := by
    constructor
    · intro h i hi; exact h i (inL_map.2 hi)
    · intro h i hi; exact h i (inL_map.1 hi)
  by_cases c : EachP a (fun i x => outP x (getI b i))
  · rw [if_pos (he.2 c)]; simp [c, hl']
  · rw [if_neg (fun h => c (he.1 h))]; simp [c]
theorem works31 : palinglaw31_works = some true := by kernel_rfl
end Go.Eng
