/- Plain laws of chapter 17: LinksAdds. -/
import Derived.Test.YtgnkkbimeghieaaGreatEngT5
import Derived.Test.YtgnkkbimeghieaaGreatEngP16g
set_option linter.unusedVariables false
set_option linter.unusedSectionVars false
set_option linter.unusedSimpArgs false
namespace Go.Eng
open Go Classical
attribute [local congr] ite_cg
theorem works17c : palinglaw17_works = some true := by kernel_rfl
theorem putL_sm {n : Api_Net} {l : Api_Line} {a b : Int} (hs : SmN n) (h : AddOk n l a b) : SmN (putL n l a b) := by
  have hl := hs.links
  have hff := h.few
  refine ⟨hs.devices, ?_, ?_, hs.domains, hs.statics, hs.floods, hs.vrfs, hs.irbs, fun p hp => ?_, hs.peers, hs.addrs, hs.imports, hs.exports⟩
  · have := hs.ports; unfold Few at *; simp [putL, setLk_len]; omega
  · unfold Few; simp [putL]; omega
  · obtain ⟨i, hi, rfl⟩ := mem_getI hp
    have hi' := putL_in.1 hi
    rw [(putL_same h hi').2.2.2]
    exact hs.tagged _ (getI_mem hi')
theorem rsame_none : palingref15_Same ⟨[], [], [], [], [], [], [], []⟩ ⟨[], [], [], [], [], [], [], []⟩ = some true := by kernel_rfl
theorem linksAdds (n : Api_Net) (l : Api_Line) (_ : n.Ok) (hl : l.Ok) : palinglaw17_LinksAdds n l = some true := by
  obtain ⟨b, eb, hb⟩ := great12_spec (l := l)
  simp only [palinglaw17_LinksAdds, palinglaw16_Great, Great_spec, Option.bind_some, works17c]
  by_cases hg : BndN n 200 100
  case neg => simp [hg]
  have hs := hg.sm
  simp only [hg, not_true_eq_false, decide_false, Bool.false_eq_true, if_false, eb, Option.bind_some]
  cases b with
  | true => rfl
  | false =>
    have hz := hb rfl
    have z1 : (l.dev.size : Int) ≤ 300 := hz _ (by simp [sizesL])
    have z2 : (l.port.size : Int) ≤ 300 := hz _ (by simp [sizesL])
    have z3 : (l.peer.size : Int) ≤ 300 := hz _ (by simp [sizesL])
    have z4 : (l.far.size : Int) ≤ 300 := hz _ (by simp [sizesL])
    have hl2 := hl
    obtain ⟨o1, o2, o3, o4, o5, o6, o7, o8, o9, o10, o11, o12, _⟩ := hl2
    have hR : palingref11_Right l = some (decide (LineP l)) ∨ l.kind ≠ 3 := by
      by_cases hk : l.kind = 3
      · exact .inl (rRight3 hl hk (by omega) (by omega) (by omega) (by omega) o11 o12 o8)
      · exact .inr hk
    have e1 := linksAdd_is hs (l := l) (by omega) (by omega) (by omega) (by omega)
    have e2 := rAdd_is hs hR
    rw [← e1] at e2
    rw [e2]
    rcases links_Add_spec hs (l := l) (by omega) (by omega) (by omega) (by omega) with ⟨e, _, h⟩ | ⟨a, b, h, h2⟩
    · rw [h]
      simp only [Option.bind_some, rsame_none]
      simp
    · rw [h2]
      simp only [Option.bind_some]
      have := rSame_spec (putL_sm hs h) (b := putL n l a b)
      rw [show (⟨n.devices, (putL n l a b).ports, (putL n l a b).links, n.domains, n.statics, n.floods, n.vrfs, n.irbs⟩ : Api_Net) = putL n l a b from rfl, this]
      simp
end Go.Eng
