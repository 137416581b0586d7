/- Plain laws of chapter 15: a copy, by the document. -/
import Derived.Test.YtlinloabahbioaaEngP15s
set_option linter.unusedVariables false
set_option linter.unusedSectionVars false
set_option linter.unusedSimpArgs false
namespace Go.Eng
open Go Classical
attribute [local congr] ite_cg
theorem rCopy_spec {a : Api_Net} (hs : SmN a) : palingref15_Copy a = some (a.ports, a.domains, a.floods, a.vrfs) := by
  unfold palingref15_Copy
  rw [if_pos (roomyN hs.devices), if_pos (roomyN hs.ports), if_pos (roomyN hs.links), if_pos (roomyN hs.domains), if_pos (roomyN hs.statics), if_pos (roomyN hs.floods), if_pos (roomyN hs.vrfs), if_pos (roomyN hs.irbs)]
  rw [loop_setsame a.ports id hs.ports (fun i h0 h1 h2 => by
    have := hs.ports
    have hw := wr64 (n := i + 1) (by omega) (by omega)
    simp only [palingref15_Copy_L1, h1, lin_dec, h2, getI_get? h2, roomyN (b := 8) (hs.tagged _ (getI_mem h2)), decide_true, if_true, Option.bind_some, hw]
    rw [set_getI h2]) (by simp [palingref15_Copy_L1])]
  simp only [id, Option.bind_some]
  rw [loop_setsame a.domains id hs.domains (fun i h0 h1 h2 => by
    have := hs.domains
    have hw := wr64 (n := i + 1) (by omega) (by omega)
    simp only [palingref15_Copy_L2, h1, lin_dec, h2, getI_get? h2, roomyN (b := 8) (hs.peers _ (getI_mem h2)), decide_true, if_true, Option.bind_some, hw]
    rw [set_getI h2]) (by simp [palingref15_Copy_L2])]
  simp only [id, Option.bind_some]
  rw [loop_setsame a.floods id hs.floods (fun i h0 h1 h2 => by
    have := hs.floods
    have hw := wr64 (n := i + 1) (by omega) (by omega)
    simp only [palingref15_Copy_L3, h1, lin_dec, h2, getI_get? h2, roomyN (b := 4) (hs.addrs _ (getI_mem h2)), decide_true, if_true, Option.bind_some, hw]
    rw [set_getI h2]) (by simp [palingref15_Copy_L3])]
  simp only [id, Option.bind_some]
  rw [loop_setsame a.vrfs id hs.vrfs (fun i h0 h1 h2 => by
    have := hs.vrfs
    have hw := wr64 (n := i + 1) (by omega) (by omega)
    simp only [palingref15_Copy_L4, h1, lin_dec, h2, getI_get? h2, roomyN (b := 8) (hs.imports _ (getI_mem h2)), roomyN (b := 8) (hs.exports _ (getI_mem h2)), decide_true, if_true, Option.bind_some, hw]
    rw [set_getI h2]
    simp only [h2, getI_get? h2, roomyN (b := 8) (hs.exports _ (getI_mem h2)), decide_true, if_true, Option.bind_some]
    rw [set_getI h2]) (by simp [palingref15_Copy_L4])]
  rfl
/-- The first items of a list that is longer by one. -/
theorem take_app1 {α : Type} {l : List α} {x : α} : List.drop (Int.toNat 0) (List.take (Int.toNat (l.length : Int)) (l ++ [x])) = l := by simp
theorem set_set_back {α : Type} [Inhabited α] {l : List α} {k : Int} (hk : inL l k) (x : α) : (l.set k.toNat x).set k.toNat (getI l k) = l := by
  rw [List.set_set]; exact set_getI hk
end Go.Eng
