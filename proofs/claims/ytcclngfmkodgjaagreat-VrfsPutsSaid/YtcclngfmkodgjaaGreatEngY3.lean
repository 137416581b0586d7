/- Chapter 11: which lines of devices, ports, VTEPs, VNIs and flood lists may be, on both sides. -/
import Derived.Test.YtcclngfmkodgjaaGreatEngY2
set_option linter.unusedVariables false
set_option linter.unusedSectionVars false
set_option linter.unusedSimpArgs false
namespace Go.Eng
open Go Classical
attribute [local congr] ite_cg
section
variable {a b c d e f : ByteArray}
end
theorem stepN {ws : List ByteArray} {row kd : Int} {fm : ByteArray} {g g1 : Gs} {nm nm1 c : Int} {i : Nat} {x : ByteArray} {C : Prop} (hi : i < fm.size) (hf : fm.size ≤ 100) (hx : nth ws ((i : Int) + 1) = some x) (hc : byteAt fm (i : Int) = c) (hw : WG c x nm row kd g g1 C) (hn : 0 ≤ nm ∧ nm ≤ 100) (hn1 : (if c = 78 then nm + 1 else nm) = nm1) :
    (C → fS ws row fm kd (tupG g nm (i : Int)) = some (.inl (tupG g1 nm1 ((i + 1 : Nat) : Int)))) ∧ (¬ C → ∃ e : Int, e ≠ 0 ∧ fS ws row fm kd (tupG g nm (i : Int)) = some (.inr (.inl e))) := by
  have := stepG (row := row) hi hf hx hc hw hn
  rwa [hn1] at this
def g0 : Gs := ⟨⟨nilS, nilS, nilS, nilS, nilS, 0, 0, 0, 0, 0, 0⟩, [], [], [], []⟩
section
variable {l : Api_Line}
structure LnOk (l : Api_Line) : Prop where
  dev : l.dev.size ≤ 1000000
  port : l.port.size ≤ 1000000
  vlan : -9223372036854775808 ≤ l.vlan ∧ l.vlan < 9223372036854775808
  num : -9223372036854775808 ≤ l.num ∧ l.num < 9223372036854775808
  cost : -9223372036854775808 ≤ l.cost ∧ l.cost < 9223372036854775808
  mac : 0 ≤ l.mac ∧ l.mac < 18446744073709551616
  addr : 0 ≤ l.addr ∧ l.addr < 4294967296
  tagged : ∀ x ∈ l.tagged, -9223372036854775808 ≤ x ∧ x < 9223372036854775808
  addrs : ∀ x ∈ l.addrs, 0 ≤ x ∧ x < 4294967296
  few1 : Few l.tagged
  few4 : Few l.addrs
/-! #### Devices -/
/-! #### VTEPs -/
/-! #### VNIs -/
/-! #### Flood lists -/
/-! #### Ports -/
theorem rise_len {t : List Int} {b : Int} (h : RiseP t b) : t.length ≤ 16 := by
  rcases h with rfl | h
  · simp
  · exact h.2.2
end
end Go.Eng
