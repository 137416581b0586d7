/- Plain laws of chapter 20 (vrfs): VRFs and interfaces put into a net. -/
import Derived.Test.YtgemllooojijnaaGreatEngPS
import Derived.Test.YtgemllooojijnaaGreatEngPR3
import Derived.Test.YtgemllooojijnaaGreatEngPC
set_option linter.unusedVariables false
set_option linter.unusedSectionVars false
set_option linter.unusedSimpArgs false
namespace Go.Eng
open Go Classical
attribute [local congr] ite_cg
section
variable {n : Api_Net} {l : Api_Line}
theorem host_or {a : Int} (h0 : 0 ≤ a) (h1 : a < 4294967296) : bits_or .u64 2199023255552 (wr_u64 a) = 2199023255552 + a := by
  rw [wr64u h0 (by omega)]
  unfold bits_or
  rw [ofInt_nat _ _ (by omega), ofInt_nat _ _ h0, BitVec.toNat_or, BitVec.toNat_ofNat, BitVec.toNat_ofNat]
  simp only [IntKind.bits]
  rw [Nat.mod_eq_of_lt (by decide), Nat.mod_eq_of_lt (by omega)]
  have := Nat.two_pow_add_eq_or_of_lt (i := 41) (b := a.toNat) (by omega) 1
  rw [Nat.mul_one] at this
  rw [show (2199023255552 : Int).toNat = 2 ^ 41 from rfl, ← this]
  have hw := wr64u (n := ((2 ^ 41 + a.toNat : Nat) : Int)) (by omega) (by omega)
  unfold wr_u64 at hw
  first | (rw [hw]; omega) | omega
theorem mac_Host_spec {a : Int} (h0 : 0 ≤ a) (h1 : a < 4294967296) : mac_Host a = some (2199023255552 + a) := by
  unfold mac_Host; rw [host_or h0 h1]
noncomputable def vrfI (n : Api_Net) (d : Int) (s : ByteArray) : Int := fstI n.vrfs fun v => v.dev = d ∧ v.name = s
theorem names_Vrf_spec (hs : SmN n) {d : Int} {s : ByteArray} : names_Vrf n d s = some (if RightP n then vrfI n d s else -1) := by
  simp only [names_Vrf, names_find_Vrf_Vrf_1, names_Right_spec hs, slices_IndexFunc_Vrf_Vrf_1]
  rw [loop_first n.vrfs (fun p => p.dev = d ∧ p.name = s) hs.vrfs (fun i h0 h1 h2 => by
    have := hs.vrfs
    simp (disch := omega) only [slices_IndexFunc_Vrf_Vrf_1_L1, names_Vrf_1, seqB_dec, h1, nth_getI h2, wr64, bind_ite, Option.bind_some, dif1, dif2, dif3, dif4, dif5, dif6, dif7, dnot, ibeq, ibne, decide_eq_true_eq, if_not2, ge_iff_le, gt_iff_lt, fst_ret, Bool.false_eq_true, decide_false, mrg1, mrg2, mrg3, mrg4, mrg5, mrg6, mrg7, decide_true, if_true]; first | exact fpos Iff.rfl | (split <;> rfl)) (by simp [slices_IndexFunc_Vrf_Vrf_1_L1])]
  simp only [bind_ite, Option.bind_some, dif1, dif2, dif3, dif4, dif5, dif6, dif7, dnot, ibeq, ibne, decide_eq_true_eq, if_not2, ge_iff_le, gt_iff_lt, fst_ret, Bool.false_eq_true, decide_false]
  split <;> rfl
theorem eq0' {e : Int} (h : e ≠ 0) : (e != 0) = true := by simpa using h
/-- How a line's device is told. -/
theorem vbegin_spec (hs : SmN n) {k : Int} {Q : Prop} (hb : l.kind = k → ∃ b, stmt_Right l = some b ∧ (b = true → Q ∧ NameP l.dev)) :
    (∃ e : Int, e ≠ 0 ∧ vrfs_begin n l k = some (0, e)) ∨ (l.kind = k ∧ Q ∧ RightP n ∧ inL n.devices (devI n l.dev) ∧ vrfs_begin n l k = some (devI n l.dev, 0)) := by
  unfold vrfs_begin
  by_cases hk : l.kind = k
  case neg => exact .inl ⟨2, by decide, by rw [if_pos (by simpa using hk)]⟩
  rw [if_neg (by simpa using hk)]
  obtain ⟨b, h1, h2⟩ := hb hk
  rw [h1]
  simp only [Option.bind_some]
  cases b with
  | false => exact .inl ⟨2, by decide, rfl⟩
  | true =>
    simp only [Bool.not_true, Bool.false_eq_true, if_false, names_Right_spec hs, names_Device_spec hs, Option.bind_some]
    by_cases hr : RightP n
    case neg => exact .inl ⟨2, by decide, by simp [hr]⟩
    simp only [hr, decide_true, Bool.not_true, Bool.false_eq_true, if_false, if_true]
    by_cases hd : devI n l.dev < 0
    · exact .inl ⟨31, by decide, by rw [if_pos (decide_eq_true hd)]⟩
    · exact .inr ⟨hk, (h2 rfl).1, trivial, fstI_inL.1 (by unfold devI at hd; omega), by rw [if_neg (by simpa using hd)]⟩
theorem vrfs_Vrf_spec (hs : SmN n) (hd : l.dev.size ≤ 1000000) (hn : l.name.size ≤ 1000000) (hi : Few l.imports) (he : Few l.exports) :
    (∃ e : Int, e ≠ 0 ∧ vrfs_Vrf n l = some ([], [], [], [], [], [], [], [], 0, 0, 0, e)) ∨
    (l.kind = 8 ∧ RightP n ∧ VrfP n ⟨l.row, devI n l.dev, l.name, l.imports, l.exports⟩ ∧ n.vrfs.length < 16 ∧ vrfs_Vrf n l =
      some (n.devices, n.ports, n.links, n.domains, n.statics, n.floods, n.vrfs ++ [⟨l.row, devI n l.dev, l.name, l.imports, l.exports⟩], n.irbs, n.ports.length, n.domains.length, n.floods.length, 0)) := by
  unfold vrfs_Vrf
  rcases vbegin_spec hs (l := l) (k := 8) (fun hk => stmt_R8 hk hd hn hi he) with ⟨e, he, h⟩ | ⟨hk, hq, hr, hin, h⟩
  · exact .inl ⟨e, he, by rw [h]; simp only [Option.bind_some, eq0' he, if_true]⟩
  rw [h]
  simp only [Option.bind_some, bne_self_eq_false, Bool.false_eq_true, if_false, names_Vrf_spec hs, hr, if_true, names_Copy_spec hs, Clone_int_spec hi, Clone_int_spec he]
  by_cases c1 : vrfI n (devI n l.dev) l.name ≥ 0
  · exact .inl ⟨30, by decide, by rw [if_pos (decide_eq_true c1)]⟩
  rw [if_neg (by simpa using c1)]
  by_cases c2 : (n.vrfs.length : Int) = 16
  · exact .inl ⟨3, by decide, by rw [if_pos (by simpa using c2)]⟩
  rw [if_neg (by simpa using c2)]
  have hf := hr.few.2.2.2.2.2.2.1
  rw [if_pos (roomy_few (by simp; omega))]
  exact .inr ⟨hk, trivial, ⟨hin, hq.1, hq.2⟩, by omega, rfl⟩
theorem addr_Has_tot {p : Api_Prefix} {a : Int} : ∃ b, addr_Has p a = some b := by
  unfold addr_Has
  rw [addr_Right_spec, Option.bind_some]
  by_cases c : 0 ≤ p.bits ∧ p.bits ≤ 32
  · obtain ⟨r, hr⟩ := addr_rest_tot c
    rw [if_pos (decide_eq_true c), hr]
    exact ⟨_, rfl⟩
  · rw [if_neg (by simpa using c)]; exact ⟨_, rfl⟩
theorem clash_tot (hr : RightP n) {x : Api_Irb} {i d : Int} (hx : IrbP n i x) : ∃ b, vrfs_Irb_1 x n d l = some b := by
  unfold vrfs_Irb_1 vrfs_clash
  rw [nth_getI hx.2.1, Option.bind_some]
  obtain ⟨b1, h1⟩ := addr_Has_tot (p := x.net) (a := l.addr)
  obtain ⟨b2, h2⟩ := addr_Has_tot (p := ⟨l.addr, l.bits⟩) (a := x.net.addr)
  simp only [h1, h2, Option.bind_some]
  split
  · exact ⟨_, rfl⟩
  · split
    · split <;> exact ⟨_, rfl⟩
    · exact ⟨_, rfl⟩
theorem clashes_tot (hs : SmN n) (hr : RightP n) {d : Int} : ∃ b, slices_ContainsFunc_Irb_Irb_1 n.irbs n d l = some b := by
  have : ∃ r, slices_IndexFunc_Irb_Irb_1 n.irbs n d l = some r := by
    unfold slices_IndexFunc_Irb_Irb_1
    rw [loop_first n.irbs (fun x => vrfs_Irb_1 x n d l = some true) hs.irbs (fun i h0 h1 h2 => by
      have := hs.irbs
      obtain ⟨b, hb⟩ := clash_tot hr (l := l) (d := d) (hr.irbs i h2)
      have hw := wr64 (n := i + 1) (by omega) (by omega)
      simp only [slices_IndexFunc_Irb_Irb_1_L1, h1, nth_getI h2, hb, hw, decide_true, if_true, Option.bind_some]
      cases b <;> simp) (by simp [slices_IndexFunc_Irb_Irb_1_L1])]
    split <;> exact ⟨_, rfl⟩
  obtain ⟨r, h⟩ := this
  unfold slices_ContainsFunc_Irb_Irb_1
  rw [h]
  exact ⟨_, rfl⟩
theorem vrfs_Irb_spec (hs : SmN n) (hd : l.dev.size ≤ 1000000) (hn : l.name.size ≤ 1000000) :
    (∃ e : Int, e ≠ 0 ∧ vrfs_Irb n l = some ([], [], [], [], [], [], [], [], 0, 0, 0, 0, e)) ∨
    (l.kind = 9 ∧ (1 ≤ l.bits ∧ l.bits ≤ 30) ∧ RightP n ∧ inL n.domains (domIx n.domains (devI n l.dev) l.vlan) ∧ (getI n.domains (domIx n.domains (devI n l.dev) l.vlan)).irb = -1 ∧
      inL n.vrfs (vrfI n (devI n l.dev) l.name) ∧ vrfs_Irb n l =
      some (n.devices, n.ports, n.links, n.domains.set (domIx n.domains (devI n l.dev) l.vlan).toNat { getI n.domains (domIx n.domains (devI n l.dev) l.vlan) with irb := (n.irbs.length : Int) }, n.statics, n.floods, n.vrfs,
        n.irbs ++ [⟨l.row, domIx n.domains (devI n l.dev) l.vlan, vrfI n (devI n l.dev) l.name, ⟨l.addr, l.bits⟩⟩], n.ports.length, n.domains.length, n.floods.length, n.vrfs.length, 0)) := by
  unfold vrfs_Irb
  rcases vbegin_spec hs (l := l) (k := 9) (fun hk => stmt_R9 hk hd hn) with ⟨e, he, h⟩ | ⟨hk, hq, hr, hin, h⟩
  · exact .inl ⟨e, he, by rw [h]; simp only [Option.bind_some, eq0' he, if_true]⟩
  rw [h]
  obtain ⟨b, hb⟩ := clashes_tot hs hr (l := l) (d := devI n l.dev)
  simp only [Option.bind_some, bne_self_eq_false, Bool.false_eq_true, if_false, names_Vrf_spec hs, names_Domain_spec hs, hr, if_true, names_Copy_spec hs, hb]
  generalize hat : domIx n.domains (devI n l.dev) l.vlan = at_
  generalize hvt : vrfI n (devI n l.dev) l.name = vt
  by_cases c1 : vt < 0
  · exact .inl ⟨31, by decide, by rw [if_pos (decide_eq_true c1)]⟩
  rw [if_neg (by simpa using c1)]
  by_cases c2 : at_ < 0
  · exact .inl ⟨32, by decide, by rw [if_pos (decide_eq_true c2)]⟩
  rw [if_neg (by simpa using c2)]
  have hk2 : inL n.domains at_ := by rw [← hat]; exact fstI_inL.1 (by unfold domIx at hat; omega)
  have hv2 : inL n.vrfs vt := by rw [← hvt]; exact fstI_inL.1 (by unfold vrfI at hvt; omega)
  simp only [nth_getI hk2, Option.bind_some, lin_dec, hk2, decide_true, if_true, getI_get? hk2]
  by_cases c3 : (getI n.domains at_).irb ≥ 0
  · exact .inl ⟨37, by decide, by rw [if_pos (decide_eq_true c3)]⟩
  rw [if_neg (by simpa using c3)]
  cases b with
  | true => exact .inl ⟨37, by decide, by rw [if_pos rfl]⟩
  | false =>
    rw [if_neg (by simp)]
    have hz : (getI n.domains at_).irb = -1 := by
      rcases (hr.bare at_ hk2).2.2.2.2.2.1 with e | ⟨e, _⟩
      · exact e
      · have := e.1; omega
    have hf := hr.few.2.2.2.2.2.2.2
    rw [if_pos (roomy_few (by simp; omega))]
    exact .inr ⟨hk, hq, trivial, trivial, hz, hv2, rfl⟩
theorem works20 : palinglaw20_works = some true := by kernel_rfl
/-- By what interface an address is a router's. -/
theorem router_spec (hs : SmN n) (hn : n.Ok) {d m : Int} : vrfs_Router n d m =
    some (if RightP n ∧ inL n.domains d ∧ 0 ≤ (getI n.domains d).irb ∧ 2199023255552 + (getI n.irbs (getI n.domains d).irb).net.addr = m then ((getI n.domains d).irb, true) else (0, false)) := by
  unfold vrfs_Router
  by_cases c1 : d < 0
  · rw [if_pos (decide_eq_true c1), if_neg (fun h => by have := h.2.1.1; omega)]
  rw [if_neg (by simpa using c1)]
  by_cases c2 : d ≥ (n.domains.length : Int)
  · rw [if_pos (decide_eq_true c2), if_neg (fun h => by have := h.2.1.2; omega)]
  rw [if_neg (by simpa using c2)]
  have hd : inL n.domains d := ⟨by omega, by omega⟩
  rw [names_Right_spec hs, Option.bind_some]
  by_cases hr : RightP n
  case neg => rw [if_pos (by simpa using hr), if_neg (fun h => hr h.1)]
  rw [if_neg (by simpa using hr), nth_getI hd, Option.bind_some]
  by_cases c3 : (getI n.domains d).irb < 0
  · rw [if_pos (decide_eq_true c3), if_neg (fun h => by have := h.2.2.1; omega)]
  rw [if_neg (by simpa using c3)]
  have hi : inL n.irbs (getI n.domains d).irb := by
    rcases (hr.bare d hd).2.2.2.2.2.1 with e | ⟨e, _⟩
    · omega
    · exact e
  have ho : okI .u32 (getI n.irbs (getI n.domains d).irb).net.addr := (hn.2.2.2.2.2.2.2.1.2 _ (getI_mem hi)).2.2.2.1.1
  have h0 : (0 : Int) ≤ (getI n.irbs (getI n.domains d).irb).net.addr := ho.1
  have h1 : (getI n.irbs (getI n.domains d).irb).net.addr ≤ 4294967295 := ho.2
  rw [nth_getI hi, Option.bind_some, mac_Host_spec h0 (by omega), Option.bind_some]
  by_cases c4 : 2199023255552 + (getI n.irbs (getI n.domains d).irb).net.addr = m
  · rw [if_neg (by simpa using c4), if_pos ⟨hr, hd, by omega, c4⟩]
  · rw [if_pos (by simpa using c4), if_neg (fun h => c4 h.2.2.2)]
end
end Go.Eng
