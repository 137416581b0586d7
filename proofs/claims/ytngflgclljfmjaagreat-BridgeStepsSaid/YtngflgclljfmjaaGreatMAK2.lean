/- Part of the proof of BridgeSteps: printed mirrors of the functions, or their contracts. No conditions. -/
import Derived.Test.YtngflgclljfmjaaGreatMAK1
set_option linter.unusedVariables false
set_option maxRecDepth 100000
namespace Go.Eng
open Go Go.Proofs
theorem k_lookup_Flood {a1 : Api_Net} {a2 : List Bool} {a3 : Int} {a4 : Int} {r : ((List Int) × (List Int) × Int)} (h : lookup_Flood a1 a2 a3 a4 = some r) :
    CallsOK Tryz.prog UU 106 [.agg (c31 a1), .sl 4 a2, .j a3, .j a4] [] ((fun r => match r with | (r19, r20, r21) => .tup [.sl 3 r19, .sl 3 r20, .j r21]) r) ((fun r => match r with | (r19, r20, r21) => []) r) := by
  unfold lookup_Flood at h
  obtain ⟨r9, h10, h⟩ := bo h
  rcases r9 with _ | ⟨l11, v12⟩
  · injection h with h; subst h; exact runFz_sound mixedOrders Tryz.func106 rfl (ids := []) (fz := [3, 4]) (π := [.callm [] (.tup [.v (.pointer none), .v (.bool false)]) [], .t]) (hrun := by kernel_rfl) (hps := pc (k_lookup_open h10)<|pc ((rfl : (!false) = true))<|pc (rn 0)<|pc (rn 0)<|pn)
  · obtain ⟨h13, h⟩|⟨h13, h⟩ := ite_out h
    · injection h with h; subst h; exact runFz_sound mixedOrders Tryz.func106 rfl (ids := []) (fz := [5, 6]) (π := [.callm [] (.tup [.op 0 1 0 0, .v (.bool v12)]) [.box 219 [.sl 91 a1.devices, .sl 56 a1.ports, .sl 112 a1.links, .sl 93 a1.domains, .sl 97 a1.statics, .sl 100 a1.floods, .sl 103 a1.vrfs, .sl 118 a1.irbs, .sl 4 a2, .j a3, .j a4, .os 1 l11.length] false, .arr 3 l11 l11.length false], .t]) (hrun := by kernel_rfl) (hps := pc (k_lookup_open h10)<|pc h13<|pc (rn 0)<|pc (rn 0)<|pn)
    · obtain ⟨r14, h15, h⟩ := bo h
      obtain ⟨l18, h17, h⟩ := bo h
      injection h with h; subst h; exact runFz_sound mixedOrders Tryz.func106 rfl (ids := []) (fz := [5]) (π := [.callm [] (.tup [.op 0 1 0 0, .v (.bool v12)]) [.box 219 [.sl 91 a1.devices, .sl 56 a1.ports, .sl 112 a1.links, .sl 93 a1.domains, .sl 97 a1.statics, .sl 100 a1.floods, .sl 103 a1.vrfs, .sl 118 a1.irbs, .sl 4 a2, .j a3, .j a4, .os 1 l11.length] false, .arr 3 l11 l11.length false], .f, .callf [3, 4] (.sl 3 r14), .callo (.os 0 l18.length) [.arr 3 l18 l18.length false]]) (hrun := by kernel_rfl) (hps := pc (k_lookup_open h10)<|pc h13<|pc (k_lookup_room_ports h15)<|pc (rn l11.length)<|pc (rn l11.length)<|pc (k_lookup_room_peers h17)<|pc (im3 l18)<|pc (rn l11.length)<|pc (rn l18.length)<|pn)

theorem k_mac_Group {a1 : Int} {r : Bool} (h : mac_Group a1 = some r) :
    CallsOK Tryz.prog UU 40 [.v (.int .u64 a1)] [] (.v (.bool r)) [] := by
  unfold mac_Group at h
  injection h with h; subst h; exact rf Tryz.func40 none [] (pn)

theorem k_table_station {a1 : Int} {r : Bool} (h : table_station a1 = some r) :
    CallsOK Tryz.prog UU 129 [.v (.int .u64 a1)] [] (.v (.bool r)) [] := by
  unfold table_station at h
  obtain ⟨h2, h⟩|⟨h2, h⟩ := ite_out h
  · obtain ⟨r3, h4, h⟩ := bo h
    injection h with h; subst h; exact rf Tryz.func129 none [.t, .b r3] (pc h2<|pc (k_mac_Group h4)<|pn)
  · injection h with h; subst h; exact rf Tryz.func129 none [.f] (pc h2<|pn)

theorem k_table_timely {a1 : Int} {r : Bool} (h : table_timely a1 = some r) :
    CallsOK Tryz.prog UU 130 [.j a1] [] (.v (.bool r)) [] := by
  unfold table_timely at h
  obtain ⟨h2, h⟩|⟨h2, h⟩ := ite_out h
  · injection h with h; subst h; exact rf Tryz.func130 none [.t] (pc h2<|pn)
  · injection h with h; subst h; exact rf Tryz.func130 none [.f] (pc h2<|pn)

theorem k_table_index_1 {a1 : Api_Entry} {a2 : Int} {r : Bool} (h : table_index_1 a1 a2 = some r) :
    CallsOK Tryz.prog UU 206 [.agg (c84 a1), .rp (c32 a2) 0] [] (.v (.bool r)) [] := by
  unfold table_index_1 at h
  injection h with h; subst h; exact rf Tryz.func206 none [] (pn)

theorem k_slices_IndexFunc_Entry_index_1_L1 {a1 : List Api_Entry} {a2 : Int} : LoopOK Tryz.prog UU 0 19 (subC (codeOf Tryz.f205) [1, 0, 1, 0, 0]) (ρ := Int ⊕ Unit) (slices_IndexFunc_Entry_index_1_L1 a1 a2)
    (fun v3 : Int => ([(0, .sl 84 a1), (1, .fn (.func 206) [] [.rp (c32 a2) 0]), (4, .z), (7, .j (a1.length : Int)), (8, .j v3)] : Fr DD)) (fun v3 : Int => ([] : Heap DD)) (fun r => match r with | Sum.inl v11 => .ret | Sum.inr _ => .exit 0) (fun r => match r with | Sum.inl v11 => [(4, .j v11)] | Sum.inr _ => [(4, .z)]) (fun r => match r with | Sum.inl v11 => [] | Sum.inr _ => []) := by
  refine loop_sound3 (fun s q h => ?_) (fun r => ?_)
  · replace h : slices_IndexFunc_Entry_index_1_L1 a1 a2 s = some q := h; revert h; revert s; intro v3 h
    unfold slices_IndexFunc_Entry_index_1_L1 at h
    obtain ⟨h4, h⟩|⟨h4, h⟩ := ite_out h
    · obtain ⟨x5, h6, h⟩ := bo h
      obtain ⟨r7, h8, h⟩ := bo h
      obtain ⟨h9, h⟩|⟨h9, h⟩ := ite_out h
      · injection h with h; subst h; exact rl [4] [] [.t, .row (c84 x5), .b r7, .t] (pc h4<|pc (ob84 h6)<|pc (k_table_index_1 h8)<|pc h9<|pn)
      · injection h with h; subst h; exact rl [0, 1, 4, 7, 8] [] [.t, .row (c84 x5), .b r7, .f] (pc h4<|pc (ob84 h6)<|pc (k_table_index_1 h8)<|pc h9<|pn)
    · injection h with h; subst h; exact rl [4] [] [.f] (pc h4<|pn)
  · rcases r with _ | _ <;> exact Ex.noConfusion

theorem k_slices_IndexFunc_Entry_index_1 {a1 : List Api_Entry} {a2 : Int} {r : Int} (h : slices_IndexFunc_Entry_index_1 a1 a2 = some r) :
    CallsOK Tryz.prog UU 205 [.sl 84 a1, .fn (.func 206) [] [.rp (c32 a2) 0]] [] (.j r) [] := by
  unfold slices_IndexFunc_Entry_index_1 at h
  obtain ⟨r13, h12, h⟩ := bo h
  rcases r13 with v11 | _
  · injection h with h; subst h; exact rf Tryz.func205 none [.sum [0, 1, 4, 7, 8] [] .ret [(4, .j v11)] []] (pc (k_slices_IndexFunc_Entry_index_1_L1 _ _ h12)<|pn)
  · injection h with h; subst h; exact rf Tryz.func205 none [.sum [0, 1, 4, 7, 8] [] (.exit 0) [(4, .z)] []] (pc (k_slices_IndexFunc_Entry_index_1_L1 _ _ h12)<|pn)

theorem k_table_index {a1 : List Api_Entry} {a2 : Int} {r : Int} (h : table_index a1 a2 = some r) :
    CallsOK Tryz.prog UU 131 [.sl 84 a1, .v (.int .u64 a2)] [] (.j r) [] := by
  unfold table_index at h
  obtain ⟨r3, h4, h⟩ := bo h
  injection h with h; subst h; exact rf Tryz.func131 none [.callv (.j r3)] (pc (k_slices_IndexFunc_Entry_index_1 h4)<|pn)

theorem k_table_Right_L1 {a1 : List Api_Entry} : LoopOK Tryz.prog UU 0 34 (subC (codeOf Tryz.f41) [1, 1, 0, 1, 0, 0]) (ρ := Unit ⊕ Unit) (table_Right_L1 a1)
    (fun v3 : Int => ([(0, .sl 84 a1), (2, .v (.bool false)), (8, .sl 84 a1), (9, .j (a1.length : Int)), (10, .j v3)] : Fr DD)) (fun v3 : Int => ([] : Heap DD)) (fun r => match r with | Sum.inl _ => .ret | Sum.inr _ => .exit 0) (fun r => match r with | Sum.inl _ => [(2, .v (.bool false))] | Sum.inr _ => [(2, .v (.bool false))]) (fun r => match r with | Sum.inl _ => [] | Sum.inr _ => []) := by
  refine loop_sound3 (fun s q h => ?_) (fun r => ?_)
  · replace h : table_Right_L1 a1 s = some q := h; revert h; revert s; intro v3 h
    unfold table_Right_L1 at h
    obtain ⟨h4, h⟩|⟨h4, h⟩ := ite_out h
    · obtain ⟨x5, h6, h⟩ := bo h
      obtain ⟨r7, h8, h⟩ := bo h
      obtain ⟨h9, h⟩|⟨h9, h⟩ := ite_out h
      · injection h with h; subst h; exact rl [2] [] [.t, .row (c84 x5), .b r7, .t] (pc h4<|pc (ob84 h6)<|pc (k_table_station h8)<|pc h9<|pn)
      · obtain ⟨r10, h11, h⟩ := bo h
        obtain ⟨h12, h⟩|⟨h12, h⟩ := ite_out h
        · injection h with h; subst h; exact rl [2] [] [.t, .row (c84 x5), .b r7, .f, .b r10, .t] (pc h4<|pc (ob84 h6)<|pc (k_table_station h8)<|pc h9<|pc (k_table_timely h11)<|pc h12<|pn)
        · obtain ⟨r13, h14, h⟩ := bo h
          obtain ⟨h15, h⟩|⟨h15, h⟩ := ite_out h
          · injection h with h; subst h; exact rl [2] [] [.t, .row (c84 x5), .b r7, .f, .b r10, .f, .callv (.j r13), .t] (pc h4<|pc (ob84 h6)<|pc (k_table_station h8)<|pc h9<|pc (k_table_timely h11)<|pc h12<|pc (k_table_index h14)<|pc h15<|pn)
          · injection h with h; subst h; exact rl [0, 2, 8, 9, 10] [] [.t, .row (c84 x5), .b r7, .f, .b r10, .f, .callv (.j r13), .f] (pc h4<|pc (ob84 h6)<|pc (k_table_station h8)<|pc h9<|pc (k_table_timely h11)<|pc h12<|pc (k_table_index h14)<|pc h15<|pn)
    · injection h with h; subst h; exact rl [2] [] [.f] (pc h4<|pn)
  · rcases r with _ | _ <;> exact Ex.noConfusion

theorem k_table_Right {a1 : List Api_Entry} {r : Bool} (h : table_Right a1 = some r) :
    CallsOK Tryz.prog UU 41 [.sl 84 a1] [] (.v (.bool r)) [] := by
  unfold table_Right at h
  obtain ⟨h2, h⟩|⟨h2, h⟩ := ite_out h
  · injection h with h; subst h; exact rf Tryz.func41 none [.t] (pc h2<|pn)
  · obtain ⟨r17, h16, h⟩ := bo h
    rcases r17 with _ | _
    · injection h with h; subst h; exact rf Tryz.func41 none [.f, .sum [0, 2, 8, 9, 10] [] .ret [(2, .v (.bool false))] []] (pc h2<|pc (k_table_Right_L1 _ _ h16)<|pn)
    · injection h with h; subst h; exact rf Tryz.func41 none [.f, .sum [0, 2, 8, 9, 10] [] (.exit 0) [(2, .v (.bool false))] []] (pc h2<|pc (k_table_Right_L1 _ _ h16)<|pn)

theorem k_slices_Clone_Entry {a1 : List Api_Entry} {r : List Api_Entry} (h : slices_Clone_Entry a1 = some r) :
    CallsOK Tryz.prog UU 176 [.sl 84 a1] [] (.os 0 r.length) [.arr 84 r r.length false] := by
  unfold slices_Clone_Entry at h
  obtain ⟨h1, h⟩|⟨h1, h⟩ := ite_out h
  · injection h with h; subst h
    refine sn_split ?_ (fun e => ?_)
    · exact rf Tryz.func176 (some [1]) [.obj [] (.n 84), .obj [] (.arr 84 a1 a1.length false)] (pc (bs_ob 84 [])<|pc (app_ob 84 (n := 0) (l := []) (xs := a1) h1)<|pn)
    · subst e; exact rf Tryz.func176 (some [1]) [] (pn)
  · cases h

theorem k_table_oldest_L1 {a1 : List Api_Entry} : LoopOK Tryz.prog UU 0 24 (subC (codeOf Tryz.f224) [1, 1, 0, 1, 0, 0]) (fun s : Int × Int => match s with | (v2, v3) => table_oldest_L1 a1 v2 v3)
    (fun s : Int × Int => (match s with | (v2, v3) => [(0, .sl 84 a1), (2, .z), (3, .j v3), (6, .sl 84 a1), (7, .j (a1.length : Int)), (8, .j v2)] : Fr DD)) (fun s : Int × Int => (match s with | (v2, v3) => [] : Heap DD)) (fun r => match r with | v11 => .exit 0) (fun r => match r with | v11 => [(2, .z), (3, .j v11)]) (fun r => match r with | v11 => []) := by
  refine loop_sound3 (fun s q h => ?_) (fun r => ?_)
  · obtain ⟨v2, v3⟩ := s; replace h : table_oldest_L1 a1 v2 v3 = some q := h
    unfold table_oldest_L1 at h
    obtain ⟨h4, h⟩|⟨h4, h⟩ := ite_out h
    · obtain ⟨x5, h6, h⟩ := bo h
      obtain ⟨x7, h8, h⟩ := bo h
      obtain ⟨h9, h⟩|⟨h9, h⟩ := ite_out h
      · injection h with h; subst h; exact rl [0, 2, 3, 6, 7, 8] [] [.t, .row (c84 x5), .row (c84 x7), .t] (pc h4<|pc (ob84 h6)<|pc (ob84 h8)<|pc h9<|pn)
      · injection h with h; subst h; exact rl [0, 2, 3, 6, 7, 8] [] [.t, .row (c84 x5), .row (c84 x7), .f] (pc h4<|pc (ob84 h6)<|pc (ob84 h8)<|pc h9<|pn)
    · injection h with h; subst h; exact rl [2, 3] [] [.f] (pc h4<|pn)
  · exact Ex.noConfusion

theorem k_table_oldest {a1 : List Api_Entry} {r : Int} (h : table_oldest a1 = some r) :
    CallsOK Tryz.prog UU 224 [.sl 84 a1] [] (.j r) [] := by
  unfold table_oldest at h
  obtain ⟨v11, h12, h⟩ := bo h
  injection h with h; subst h; exact rf Tryz.func224 none [.sum [0, 2, 3, 6, 7, 8] [] (.exit 0) [(2, .z), (3, .j v11)] []] (pc (k_table_oldest_L1 _ _ h12)<|pn)

theorem k_slices_Delete_Entry_own {a1 : List Api_Entry} {a2 : Int} {a3 : Int} {r : (Unit) ⊕ (Unit)} (h : slices_Delete_Entry_own a1 a2 a3 = some r) :
    CallsOK Tryz.prog UU 225 [.os 0 a1.length, .j a2, .j a3] [.arr 84 a1 a1.length false] ((fun r => match r with | Sum.inl () => .os 0 a1.length | Sum.inr () => .oss 0 a1.length 0 (a2.toNat + (List.length (List.drop a3.toNat (List.take (Int.toNat (a1.length : Int)) a1))))) r) ((fun r => match r with | Sum.inl () => [.arr 84 a1 a1.length false] | Sum.inr () => [.arr 84 (List.take (Int.toNat (((a2.toNat + (List.length (List.drop a3.toNat (List.take (Int.toNat (a1.length : Int)) a1)))) - 0 : Nat) : Int)) (List.take a2.toNat a1 ++ (List.drop a3.toNat (List.take (Int.toNat (a1.length : Int)) a1) ++ List.drop (a2.toNat + (List.length (List.drop a3.toNat (List.take (Int.toNat (a1.length : Int)) a1)))) a1)) ++ (List.replicate ((Int.toNat (a1.length : Int)) - (Int.toNat (((a2.toNat + (List.length (List.drop a3.toNat (List.take (Int.toNat (a1.length : Int)) a1)))) - 0 : Nat) : Int))) (⟨0, 0, 0⟩ : Api_Entry) ++ List.drop (Int.toNat (a1.length : Int)) (List.take a2.toNat a1 ++ (List.drop a3.toNat (List.take (Int.toNat (a1.length : Int)) a1) ++ List.drop (a2.toNat + (List.length (List.drop a3.toNat (List.take (Int.toNat (a1.length : Int)) a1)))) a1)))) a1.length false]) r) := by
  unfold slices_Delete_Entry_own at h
  obtain ⟨h4, h⟩|⟨h4, h⟩ := ite_out h
  · obtain ⟨h5, h⟩|⟨h5, h⟩ := ite_out h
    · injection h with h; subst h; exact rf Tryz.func225 (some [0]) [.frz [], .t] (pc (rn a1.length)<|pc (rn a1.length)<|pc (of_decide_eq_true h4)<|pc h5<|pn)
    · obtain ⟨h6, h⟩|⟨h6, h⟩ := ite_out h
      · obtain ⟨h7, h⟩|⟨h7, h⟩ := ite_out h
        · obtain ⟨h8, h⟩|⟨h8, h⟩ := ite_out h
          · obtain ⟨h9, h⟩|⟨h9, h⟩ := ite_out h
            · injection h with h; subst h; exact rf Tryz.func225 (some [0]) [.frz [], .f, .obj [] (.arr 84 (List.take a2.toNat a1 ++ (List.drop a3.toNat (List.take (Int.toNat (a1.length : Int)) a1) ++ List.drop (a2.toNat + (List.length (List.drop a3.toNat (List.take (Int.toNat (a1.length : Int)) a1)))) a1)) a1.length false), .obj [] (.arr 84 (List.take (Int.toNat (((a2.toNat + (List.length (List.drop a3.toNat (List.take (Int.toNat (a1.length : Int)) a1)))) - 0 : Nat) : Int)) (List.take a2.toNat a1 ++ (List.drop a3.toNat (List.take (Int.toNat (a1.length : Int)) a1) ++ List.drop (a2.toNat + (List.length (List.drop a3.toNat (List.take (Int.toNat (a1.length : Int)) a1)))) a1)) ++ (List.replicate ((Int.toNat (a1.length : Int)) - (Int.toNat (((a2.toNat + (List.length (List.drop a3.toNat (List.take (Int.toNat (a1.length : Int)) a1)))) - 0 : Nat) : Int))) (⟨0, 0, 0⟩ : Api_Entry) ++ List.drop (Int.toNat (a1.length : Int)) (List.take a2.toNat a1 ++ (List.drop a3.toNat (List.take (Int.toNat (a1.length : Int)) a1) ++ List.drop (a2.toNat + (List.length (List.drop a3.toNat (List.take (Int.toNat (a1.length : Int)) a1)))) a1)))) a1.length false)] (pc (rn a1.length)<|pc (rn a1.length)<|pc (of_decide_eq_true h4)<|pc h5<|pc (rn a1.length)<|pc (rn a1.length)<|pc (sl_ob h6)<|pc (rn a1.length)<|pc (sl_ob h7)<|pc (app_pt 84 (n := a1.length) (l := a1) (xs := List.drop a3.toNat (List.take (Int.toNat (a1.length : Int)) a1)) (b := a2.toNat) h8)<|pc (rn a1.length)<|pc (rn a1.length)<|pc (rn a1.length)<|pc (sl_ob3 h9)<|pc (cl_ob (e := 84) (n := a1.length) (l := List.take a2.toNat a1 ++ (List.drop a3.toNat (List.take (Int.toNat (a1.length : Int)) a1) ++ List.drop (a2.toNat + (List.length (List.drop a3.toNat (List.take (Int.toNat (a1.length : Int)) a1)))) a1)) (a := (Int.toNat (((a2.toNat + (List.length (List.drop a3.toNat (List.take (Int.toNat (a1.length : Int)) a1)))) - 0 : Nat) : Int))) (b := (Int.toNat (a1.length : Int))) (⟨0, 0, 0⟩ : Api_Entry))<|pn)
            · cases h
          · cases h
        · cases h
      · cases h
  · cases h

theorem k_table_Learn {a1 : List Api_Entry} {a2 : Int} {a3 : Int} {a4 : Int} {r : ((List Api_Entry) × Nat)} (h : table_Learn a1 a2 a3 a4 = some r) :
    CallsOK Tryz.prog UU 177 [.sl 84 a1, .v (.int .u64 a2), .j a3, .j a4] [] ((fun r => match r with | (l34, n35) => .os 0 n35) r) ((fun r => match r with | (l34, n35) => [.arr 84 l34 n35 false]) r) := by
  unfold table_Learn at h
  obtain ⟨l7, h6, h⟩ := bo h
  obtain ⟨r8, h9, h⟩ := bo h
  obtain ⟨h10, h⟩|⟨h10, h⟩ := ite_out h
  · injection h with h; subst h; exact rf Tryz.func177 (some [1]) [.callo (.os 0 l7.length) [.arr 84 l7 l7.length false], .b r8, .t] (pc (k_slices_Clone_Entry h6)<|pc (im84 l7)<|pc (k_table_Right h9)<|pc h10<|pn)
  · obtain ⟨r11, h12, h⟩ := bo h
    obtain ⟨h13, h⟩|⟨h13, h⟩ := ite_out h
    · injection h with h; subst h; exact rf Tryz.func177 (some [1]) [.callo (.os 0 l7.length) [.arr 84 l7 l7.length false], .b r8, .f, .b r11, .t] (pc (k_slices_Clone_Entry h6)<|pc (im84 l7)<|pc (k_table_Right h9)<|pc h10<|pc (k_table_station h12)<|pc h13<|pn)
    · obtain ⟨r14, h15, h⟩ := bo h
      obtain ⟨h16, h⟩|⟨h16, h⟩ := ite_out h
      · injection h with h; subst h; exact rf Tryz.func177 (some [1]) [.callo (.os 0 l7.length) [.arr 84 l7 l7.length false], .b r8, .f, .b r11, .f, .b r14, .t] (pc (k_slices_Clone_Entry h6)<|pc (im84 l7)<|pc (k_table_Right h9)<|pc h10<|pc (k_table_station h12)<|pc h13<|pc (k_table_timely h15)<|pc h16<|pn)
      · obtain ⟨r17, h18, h⟩ := bo h
        obtain ⟨h19, h⟩|⟨h19, h⟩ := ite_out h
        · obtain ⟨h20, h⟩|⟨h20, h⟩ := ite_out h
          · obtain ⟨x21, h22, h⟩ := bo h
            obtain ⟨h23, h⟩|⟨h23, h⟩ := ite_out h
            · obtain ⟨x24, h25, h⟩ := bo h
              injection h with h; subst h; exact rf Tryz.func177 (some [1]) [.callo (.os 0 l7.length) [.arr 84 l7 l7.length false], .b r8, .f, .b r11, .f, .b r14, .f, .callv (.j r17), .t, .row (c84 x21), .obj [] (.arr 84 (List.set l7 r17.toNat (⟨x21.mac, a3, x21.seen⟩ : Api_Entry)) l7.length false), .row (c84 x24), .obj [] (.arr 84 (List.set (List.set l7 r17.toNat (⟨x21.mac, a3, x21.seen⟩ : Api_Entry)) r17.toNat (⟨x24.mac, x24.where_, a4⟩ : Api_Entry)) l7.length false)] (pc (k_slices_Clone_Entry h6)<|pc (im84 l7)<|pc (k_table_Right h9)<|pc h10<|pc (k_table_station h12)<|pc h13<|pc (k_table_timely h15)<|pc h16<|pc (k_table_index h18)<|pc h19<|pc (an l7.length (lin_ob h20))<|pc (rn l7.length)<|pc (st_ob (e := 84) (n := l7.length) (l := l7) (i := r17.toNat) (⟨x21.mac, a3, x21.seen⟩ : Api_Entry) [.v (.int .u64 x21.mac), .j a3, .v (.int .i64 x21.seen)] (obn84 h22) rfl)<|pc (an l7.length (lin_ob h23))<|pc (rn l7.length)<|pc (st_ob (e := 84) (n := l7.length) (l := List.set l7 r17.toNat (⟨x21.mac, a3, x21.seen⟩ : Api_Entry)) (i := r17.toNat) (⟨x24.mac, x24.where_, a4⟩ : Api_Entry) [.v (.int .u64 x24.mac), .v (.int .i64 x24.where_), .j a4] (obn84 h25) rfl)<|pn)
            · cases h
          · cases h
        · obtain ⟨h26, h⟩|⟨h26, h⟩ := ite_out h
          · obtain ⟨r27, h28, h⟩ := bo h
            obtain ⟨r29, h30, h⟩ := bo h
            rcases r29 with _ | _
            · obtain ⟨h31, h⟩|⟨h31, h⟩ := ite_out h
              · injection h with h; subst h; exact rf Tryz.func177 (some [1]) [.callo (.os 0 l7.length) [.arr 84 l7 l7.length false], .b r8, .f, .b r11, .f, .b r14, .f, .callv (.j r17), .f, .t, .callv (.j r27), .callm [1] (.os 0 l7.length) [.arr 84 l7 l7.length false], .obj [] (.arr 84 [(⟨a2, a3, a4⟩ : Api_Entry)] (List.length [(⟨a2, a3, a4⟩ : Api_Entry)]) false), .obj [] (.arr 84 (l7 ++ [(⟨a2, a3, a4⟩ : Api_Entry)]) (List.length (l7 ++ [(⟨a2, a3, a4⟩ : Api_Entry)])) false)] (pc (k_slices_Clone_Entry h6)<|pc (im84 l7)<|pc (k_table_Right h9)<|pc h10<|pc (k_table_station h12)<|pc h13<|pc (k_table_timely h15)<|pc h16<|pc (k_table_index h18)<|pc h19<|pc (rn l7.length)<|pc h26<|pc (k_table_oldest h28)<|pc (rn l7.length)<|pc (k_slices_Delete_Entry_own h30)<|pc (bs_ob 84 [(⟨a2, a3, a4⟩ : Api_Entry)])<|pc (app_ob 84 (n := l7.length) (l := l7) (xs := [(⟨a2, a3, a4⟩ : Api_Entry)]) h31)<|pc ((rn (List.length [(⟨a2, a3, a4⟩ : Api_Entry)])))<|pn)
              · cases h
            · obtain ⟨h32, h⟩|⟨h32, h⟩ := ite_out h
              · injection h with h; subst h; exact rf Tryz.func177 (some [1]) [.callo (.os 0 l7.length) [.arr 84 l7 l7.length false], .b r8, .f, .b r11, .f, .b r14, .f, .callv (.j r17), .f, .t, .callv (.j r27), .callm [1] (.oss 0 l7.length 0 (r27.toNat + (List.length (List.drop (Int.toNat (wr_i64 (r27 + 1))) (List.take (Int.toNat (l7.length : Int)) l7))))) [.arr 84 (List.take (Int.toNat (((r27.toNat + (List.length (List.drop (Int.toNat (wr_i64 (r27 + 1))) (List.take (Int.toNat (l7.length : Int)) l7)))) - 0 : Nat) : Int)) (List.take r27.toNat l7 ++ (List.drop (Int.toNat (wr_i64 (r27 + 1))) (List.take (Int.toNat (l7.length : Int)) l7) ++ List.drop (r27.toNat + (List.length (List.drop (Int.toNat (wr_i64 (r27 + 1))) (List.take (Int.toNat (l7.length : Int)) l7)))) l7)) ++ (List.replicate ((Int.toNat (l7.length : Int)) - (Int.toNat (((r27.toNat + (List.length (List.drop (Int.toNat (wr_i64 (r27 + 1))) (List.take (Int.toNat (l7.length : Int)) l7)))) - 0 : Nat) : Int))) (⟨0, 0, 0⟩ : Api_Entry) ++ List.drop (Int.toNat (l7.length : Int)) (List.take r27.toNat l7 ++ (List.drop (Int.toNat (wr_i64 (r27 + 1))) (List.take (Int.toNat (l7.length : Int)) l7) ++ List.drop (r27.toNat + (List.length (List.drop (Int.toNat (wr_i64 (r27 + 1))) (List.take (Int.toNat (l7.length : Int)) l7)))) l7)))) l7.length false], .obj [] (.arr 84 [(⟨a2, a3, a4⟩ : Api_Entry)] (List.length [(⟨a2, a3, a4⟩ : Api_Entry)]) false), .obj [0] (.arr 84 (List.take (r27.toNat + (List.length (List.drop (Int.toNat (wr_i64 (r27 + 1))) (List.take (Int.toNat (l7.length : Int)) l7)))) (List.take (Int.toNat (((r27.toNat + (List.length (List.drop (Int.toNat (wr_i64 (r27 + 1))) (List.take (Int.toNat (l7.length : Int)) l7)))) - 0 : Nat) : Int)) (List.take r27.toNat l7 ++ (List.drop (Int.toNat (wr_i64 (r27 + 1))) (List.take (Int.toNat (l7.length : Int)) l7) ++ List.drop (r27.toNat + (List.length (List.drop (Int.toNat (wr_i64 (r27 + 1))) (List.take (Int.toNat (l7.length : Int)) l7)))) l7)) ++ (List.replicate ((Int.toNat (l7.length : Int)) - (Int.toNat (((r27.toNat + (List.length (List.drop (Int.toNat (wr_i64 (r27 + 1))) (List.take (Int.toNat (l7.length : Int)) l7)))) - 0 : Nat) : Int))) (⟨0, 0, 0⟩ : Api_Entry) ++ List.drop (Int.toNat (l7.length : Int)) (List.take r27.toNat l7 ++ (List.drop (Int.toNat (wr_i64 (r27 + 1))) (List.take (Int.toNat (l7.length : Int)) l7) ++ List.drop (r27.toNat + (List.length (List.drop (Int.toNat (wr_i64 (r27 + 1))) (List.take (Int.toNat (l7.length : Int)) l7)))) l7)))) ++ ([(⟨a2, a3, a4⟩ : Api_Entry)] ++ List.drop ((r27.toNat + (List.length (List.drop (Int.toNat (wr_i64 (r27 + 1))) (List.take (Int.toNat (l7.length : Int)) l7)))) + (List.length [(⟨a2, a3, a4⟩ : Api_Entry)])) (List.take (Int.toNat (((r27.toNat + (List.length (List.drop (Int.toNat (wr_i64 (r27 + 1))) (List.take (Int.toNat (l7.length : Int)) l7)))) - 0 : Nat) : Int)) (List.take r27.toNat l7 ++ (List.drop (Int.toNat (wr_i64 (r27 + 1))) (List.take (Int.toNat (l7.length : Int)) l7) ++ List.drop (r27.toNat + (List.length (List.drop (Int.toNat (wr_i64 (r27 + 1))) (List.take (Int.toNat (l7.length : Int)) l7)))) l7)) ++ (List.replicate ((Int.toNat (l7.length : Int)) - (Int.toNat (((r27.toNat + (List.length (List.drop (Int.toNat (wr_i64 (r27 + 1))) (List.take (Int.toNat (l7.length : Int)) l7)))) - 0 : Nat) : Int))) (⟨0, 0, 0⟩ : Api_Entry) ++ List.drop (Int.toNat (l7.length : Int)) (List.take r27.toNat l7 ++ (List.drop (Int.toNat (wr_i64 (r27 + 1))) (List.take (Int.toNat (l7.length : Int)) l7) ++ List.drop (r27.toNat + (List.length (List.drop (Int.toNat (wr_i64 (r27 + 1))) (List.take (Int.toNat (l7.length : Int)) l7)))) l7)))))) l7.length false)] (pc (k_slices_Clone_Entry h6)<|pc (im84 l7)<|pc (k_table_Right h9)<|pc h10<|pc (k_table_station h12)<|pc h13<|pc (k_table_timely h15)<|pc h16<|pc (k_table_index h18)<|pc h19<|pc (rn l7.length)<|pc h26<|pc (k_table_oldest h28)<|pc (rn l7.length)<|pc (k_slices_Delete_Entry_own h30)<|pc (bs_ob 84 [(⟨a2, a3, a4⟩ : Api_Entry)])<|pc (apw_ob 84 (n := l7.length) (l := List.take (Int.toNat (((r27.toNat + (List.length (List.drop (Int.toNat (wr_i64 (r27 + 1))) (List.take (Int.toNat (l7.length : Int)) l7)))) - 0 : Nat) : Int)) (List.take r27.toNat l7 ++ (List.drop (Int.toNat (wr_i64 (r27 + 1))) (List.take (Int.toNat (l7.length : Int)) l7) ++ List.drop (r27.toNat + (List.length (List.drop (Int.toNat (wr_i64 (r27 + 1))) (List.take (Int.toNat (l7.length : Int)) l7)))) l7)) ++ (List.replicate ((Int.toNat (l7.length : Int)) - (Int.toNat (((r27.toNat + (List.length (List.drop (Int.toNat (wr_i64 (r27 + 1))) (List.take (Int.toNat (l7.length : Int)) l7)))) - 0 : Nat) : Int))) (⟨0, 0, 0⟩ : Api_Entry) ++ List.drop (Int.toNat (l7.length : Int)) (List.take r27.toNat l7 ++ (List.drop (Int.toNat (wr_i64 (r27 + 1))) (List.take (Int.toNat (l7.length : Int)) l7) ++ List.drop (r27.toNat + (List.length (List.drop (Int.toNat (wr_i64 (r27 + 1))) (List.take (Int.toNat (l7.length : Int)) l7)))) l7)))) (xs := [(⟨a2, a3, a4⟩ : Api_Entry)]) (b := (r27.toNat + (List.length (List.drop (Int.toNat (wr_i64 (r27 + 1))) (List.take (Int.toNat (l7.length : Int)) l7))))) h32)<|pc ((rn (List.length [(⟨a2, a3, a4⟩ : Api_Entry)])))<|pn)
              · cases h
          · obtain ⟨h33, h⟩|⟨h33, h⟩ := ite_out h
            · injection h with h; subst h; exact rf Tryz.func177 (some [1]) [.callo (.os 0 l7.length) [.arr 84 l7 l7.length false], .b r8, .f, .b r11, .f, .b r14, .f, .callv (.j r17), .f, .f, .obj [] (.arr 84 [(⟨a2, a3, a4⟩ : Api_Entry)] (List.length [(⟨a2, a3, a4⟩ : Api_Entry)]) false), .obj [] (.arr 84 (l7 ++ [(⟨a2, a3, a4⟩ : Api_Entry)]) (List.length (l7 ++ [(⟨a2, a3, a4⟩ : Api_Entry)])) false)] (pc (k_slices_Clone_Entry h6)<|pc (im84 l7)<|pc (k_table_Right h9)<|pc h10<|pc (k_table_station h12)<|pc h13<|pc (k_table_timely h15)<|pc h16<|pc (k_table_index h18)<|pc h19<|pc (rn l7.length)<|pc h26<|pc (bs_ob 84 [(⟨a2, a3, a4⟩ : Api_Entry)])<|pc (app_ob 84 (n := l7.length) (l := l7) (xs := [(⟨a2, a3, a4⟩ : Api_Entry)]) h33)<|pc ((rn (List.length [(⟨a2, a3, a4⟩ : Api_Entry)])))<|pn)
            · cases h

theorem k_bridge_learn {a1 : List Api_Entry} {a2 : Api_Queued} {a3 : Int} {r : ((List Api_Entry) × Nat)} (h : bridge_learn a1 a2 a3 = some r) :
    CallsOK Tryz.prog UU 107 [.sl 84 a1, .agg (c64 a2), .j a3] [] ((fun r => match r with | (l17, n18) => .os 0 n18) r) ((fun r => match r with | (l17, n18) => [.arr 84 l17 n18 false]) r) := by
  unfold bridge_learn at h
  obtain ⟨h4, h⟩|⟨h4, h⟩ := ite_out h
  · obtain ⟨l7, h6, h⟩ := bo h
    injection h with h; subst h; exact rf Tryz.func107 (some [2]) [.t, .callo (.os 0 l7.length) [.arr 84 l7 l7.length false]] (pc h4<|pc (k_slices_Clone_Entry h6)<|pc (im84 l7)<|pn)
  · obtain ⟨h8, h⟩|⟨h8, h⟩ := ite_out h
    · obtain ⟨r9, h10, h⟩ := bo h
      obtain ⟨l11, n12⟩ := r9
      injection h with h; subst h; exact rf Tryz.func107 (some [2]) [.f, .t, .callo (.os 0 n12) [.arr 84 l11 n12 false]] (pc h4<|pc h8<|pc (k_table_Learn h10)<|pc (im84 l11)<|pn)
    · obtain ⟨r13, h14, h⟩ := bo h
      obtain ⟨l15, n16⟩ := r13
      injection h with h; subst h; exact rf Tryz.func107 (some [2]) [.f, .f, .callo (.os 0 n16) [.arr 84 l15 n16 false]] (pc h4<|pc h8<|pc (k_table_Learn h14)<|pc (im84 l15)<|pn)

theorem k_mac_Host {a1 : Int} {r : Int} (h : mac_Host a1 = some r) :
    CallsOK Tryz.prog UU 178 [.v (.int .u32 a1)] [] (.v (.int .u64 r)) [] := by
  unfold mac_Host at h
  injection h with h; subst h; exact rf Tryz.func178 none [] (pn)

theorem k_vrfs_Router {a1 : Api_Net} {a2 : Int} {a3 : Int} {r : Int × Bool} (h : vrfs_Router a1 a2 a3 = some r) :
    CallsOK Tryz.prog UU 108 [.agg (c31 a1), .j a2, .v (.int .u64 a3)] [] (.tup [.v (.int .i64 r.1), .v (.bool r.2)]) [] := by
  unfold vrfs_Router at h
  obtain ⟨h4, h⟩|⟨h4, h⟩ := ite_out h
  · injection h with h; subst h; exact rf Tryz.func108 none [.t] (pc h4<|pn)
  · obtain ⟨h5, h⟩|⟨h5, h⟩ := ite_out h
    · injection h with h; subst h; exact rf Tryz.func108 none [.f, .t] (pc h4<|pc h5<|pn)
    · obtain ⟨r6, h7, h⟩ := bo h
      obtain ⟨h8, h⟩|⟨h8, h⟩ := ite_out h
      · injection h with h; subst h; exact rf Tryz.func108 none [.f, .f, .b r6, .t] (pc h4<|pc h5<|pc (k_names_Right h7)<|pc h8<|pn)
      · obtain ⟨x9, h10, h⟩ := bo h
        obtain ⟨h11, h⟩|⟨h11, h⟩ := ite_out h
        · injection h with h; subst h; exact rf Tryz.func108 none [.f, .f, .b r6, .f, .row (c93 x9), .t] (pc h4<|pc h5<|pc (k_names_Right h7)<|pc h8<|pc (ob93 h10)<|pc h11<|pn)
        · obtain ⟨x12, h13, h⟩ := bo h
          obtain ⟨r14, h15, h⟩ := bo h
          obtain ⟨h16, h⟩|⟨h16, h⟩ := ite_out h
          · injection h with h; subst h; exact rf Tryz.func108 none [.f, .f, .b r6, .f, .row (c93 x9), .f, .row (c118 x12), .callv (.v (.int .u64 r14)), .t] (pc h4<|pc h5<|pc (k_names_Right h7)<|pc h8<|pc (ob93 h10)<|pc h11<|pc (ob118 h13)<|pc (k_mac_Host h15)<|pc h16<|pn)
          · injection h with h; subst h; exact rf Tryz.func108 none [.f, .f, .b r6, .f, .row (c93 x9), .f, .row (c118 x12), .callv (.v (.int .u64 r14)), .f] (pc h4<|pc h5<|pc (k_names_Right h7)<|pc h8<|pc (ob93 h10)<|pc h11<|pc (ob118 h13)<|pc (k_mac_Host h15)<|pc h16<|pn)

theorem k_ipv4_pair {a1 : List Int} {a2 : Int} {r : Int} (h : ipv4_pair a1 a2 = some r) :
    CallsOK Tryz.prog UU 226 [.sl 5 a1, .j a2] [] (.j r) [] := by
  unfold ipv4_pair at h
  obtain ⟨x3, h4, h⟩ := bo h
  obtain ⟨x5, h6, h⟩ := bo h
  injection h with h; subst h; exact rf Tryz.func226 none [.row (c5 x3), .row (c5 x5)] (pc (ob5 h4)<|pc ((show (0 : Int) ≤ 8 from by decide))<|pc (ob5 h6)<|pn)

theorem k_sum_down_1_own {a1 : Int} {r : (Unit)} (h : sum_down_1_own a1 = some r) :
    CallsOK Tryz.prog UU 298 [.op 0 1 0 0] [.box 3 [.j a1] false] ((fun r => match r with | _ => .tup []) r) ((fun r => match r with | _ => [.box 3 [.j (wr_i64 ((Int.fdiv a1 (2 ^ 16)) + (bits_and .i64 a1 65535)))] false]) r) := by
  unfold sum_down_1_own at h
  injection h with h; subst h; exact rf Tryz.func298 (some [0]) [] (pc ((show (0 : Int) ≤ 16 from by decide))<|pn)

theorem k_sum_down_L1 : LoopOK Tryz.prog UU 0 10 (subC (codeOf Tryz.f290) [1, 1, 0, 0, 0]) (ρ := Int) (sum_down_L1)
    (fun v2 : Int => ([(1, .op 0 1 0 0), (2, .z), (3, .fn (.func 298) [] [.op 0 1 0 0])] : Fr DD)) (fun v2 : Int => ([.box 3 [.j v2] false] : Heap DD)) (fun r => match r with | v8 => .exit 0) (fun r => match r with | v8 => [(1, .op 0 1 0 0), (2, .z)]) (fun r => match r with | v8 => [.box 3 [.j v8] false]) := by
  refine loop_sound3 (fun s q h => ?_) (fun r => ?_)
  · replace h : sum_down_L1 s = some q := h; revert h; revert s; intro v2 h
    unfold sum_down_L1 at h
    obtain ⟨h3, h⟩|⟨h3, h⟩ := ite_out h
    · obtain ⟨r4, h5, h⟩ := bo h
      injection h with h; subst h; exact rl [1, 2, 3] [0] [.t, .callm [0] (.tup []) [.box 3 [.j (wr_i64 ((Int.fdiv v2 (2 ^ 16)) + (bits_and .i64 v2 65535)))] false]] (pc h3<|pc (k_sum_down_1_own h5)<|pn)
    · injection h with h; subst h; exact rl [1, 2] [0] [.f] (pc h3<|pn)
  · exact Ex.noConfusion

theorem k_sum_down {a1 : Int} {r : Int} (h : sum_down a1 = some r) :
    CallsOK Tryz.prog UU 290 [.j a1] [] (.j r) [] := by
  unfold sum_down at h
  obtain ⟨v8, h9, h⟩ := bo h
  injection h with h; subst h; exact rf Tryz.func290 none [.sum [1, 2, 3] [0] (.exit 0) [(1, .op 0 1 0 0), (2, .z)] [.box 3 [.j v8] false]] (pc (k_sum_down_L1 _ _ h9)<|pn)

theorem k_sum_add_L1 {a1 : List Int} : LoopOK Tryz.prog UU 0 43 (subC (codeOf Tryz.f267) [1, 1, 0, 1, 0, 0]) (fun s : Int × Int => match s with | (v2, v3) => sum_add_L1 a1 v2 v3)
    (fun s : Int × Int => (match s with | (v2, v3) => [(0, .sl 5 a1), (2, .z), (3, .j v2), (4, .j v3)] : Fr DD)) (fun s : Int × Int => (match s with | (v2, v3) => [] : Heap DD)) (fun r => match r with | v10 => .exit 0) (fun r => match r with | v10 => [(0, .sl 5 a1), (2, .z), (3, .j v10)]) (fun r => match r with | v10 => []) := by
  refine loop_sound3 (fun s q h => ?_) (fun r => ?_)
  · obtain ⟨v2, v3⟩ := s; replace h : sum_add_L1 a1 v2 v3 = some q := h
    unfold sum_add_L1 at h
    obtain ⟨h4, h⟩|⟨h4, h⟩ := ite_out h
    · obtain ⟨x5, h6, h⟩ := bo h
      obtain ⟨x7, h8, h⟩ := bo h
      injection h with h; subst h; exact rl [0, 2, 3, 4] [] [.t, .row (c5 x5), .row (c5 x7)] (pc h4<|pc (ob5 h6)<|pc ((show (0 : Int) ≤ 8 from by decide))<|pc (ob5 h8)<|pn)
    · injection h with h; subst h; exact rl [0, 2, 3] [] [.f] (pc h4<|pn)
  · exact Ex.noConfusion

theorem k_sum_add {a1 : List Int} {r : Int} (h : sum_add a1 = some r) :
    CallsOK Tryz.prog UU 267 [.sl 5 a1] [] (.j r) [] := by
  unfold sum_add at h
  obtain ⟨v10, h11, h⟩ := bo h
  obtain ⟨h13, h⟩|⟨h13, h⟩ := ite_out h
  · obtain ⟨x14, h15, h⟩ := bo h
    obtain ⟨r16, h17, h⟩ := bo h
    injection h with h; subst h; exact rf Tryz.func267 none [.sum [0, 2, 3, 4] [] (.exit 0) [(0, .sl 5 a1), (2, .z), (3, .j v10)] [], .t, .row (c5 x14), .callv (.j r16)] (pc (k_sum_add_L1 _ _ h11)<|pc h13<|pc (ob5 h15)<|pc ((show (0 : Int) ≤ 8 from by decide))<|pc (k_sum_down h17)<|pn)
  · obtain ⟨r18, h19, h⟩ := bo h
    injection h with h; subst h; exact rf Tryz.func267 none [.sum [0, 2, 3, 4] [] (.exit 0) [(0, .sl 5 a1), (2, .z), (3, .j v10)] [], .f, .callv (.j r18)] (pc (k_sum_add_L1 _ _ h11)<|pc h13<|pc (k_sum_down h19)<|pn)

theorem k_sum_Right {a1 : List Int} {r : Bool} (h : sum_Right a1 = some r) :
    CallsOK Tryz.prog UU 227 [.sl 5 a1] [] (.v (.bool r)) [] := by
  unfold sum_Right at h
  obtain ⟨r2, h3, h⟩ := bo h
  injection h with h; subst h; exact rf Tryz.func227 none [.callv (.j r2)] (pc (k_sum_add h3)<|pn)

theorem k_ipv4_four {a1 : List Int} {a2 : Int} {r : Int} (h : ipv4_four a1 a2 = some r) :
    CallsOK Tryz.prog UU 228 [.sl 5 a1, .j a2] [] (.v (.int .u32 r)) [] := by
  unfold ipv4_four at h
  obtain ⟨r3, h4, h⟩ := bo h
  obtain ⟨r5, h6, h⟩ := bo h
  injection h with h; subst h; exact rf Tryz.func228 none [.callv (.j r3), .callv (.j r5)] (pc (k_ipv4_pair h4)<|pc ((show (0 : Int) ≤ 16 from by decide))<|pc (k_ipv4_pair h6)<|pn)

theorem k_slices_Clone_byte {a1 : List Int} {r : List Int} (h : slices_Clone_byte a1 = some r) :
    CallsOK Tryz.prog UU 229 [.sl 5 a1] [] (.os 0 r.length) [.arr 5 r r.length false] := by
  unfold slices_Clone_byte at h
  obtain ⟨h1, h⟩|⟨h1, h⟩ := ite_out h
  · injection h with h; subst h
    refine sn_split ?_ (fun e => ?_)
    · exact rf Tryz.func229 (some [1]) [.obj [] (.n 5), .obj [] (.arr 5 a1 a1.length false)] (pc (bs_ob 5 [])<|pc (app_ob 5 (n := 0) (l := []) (xs := a1) h1)<|pn)
    · subst e; exact rf Tryz.func229 (some [1]) [] (pn)
  · cases h

theorem k_ipv4_Take_J1 {a1 : List Int} {r : Bool} (h : ipv4_Take_J1 a1 = some r) :
    ExecOK Tryz.prog UU 0 62 (subC (codeOf Tryz.f179) [1, 0, 0, 1, 1, 0]) [(0, .sl 5 a1), (2, .op 0 1 0 0), (3, .z)] [.box 224 [.z, .z, .z, .z, .v (.int .u32 0), .v (.int .u32 0), .os 1 0] false, .n 5] ((fun r => match r with | v9 => .nor) r) ((fun r => match r with | v9 => [(0, .sl 5 a1), (2, .op 0 1 0 0), (3, .z), (9, .v (.bool v9))]) r) ((fun r => match r with | v9 => [.box 224 [.z, .z, .z, .z, .v (.int .u32 0), .v (.int .u32 0), .os 1 0] false, .n 5]) r) := by
  unfold ipv4_Take_J1 at h
  obtain ⟨x3, h4, h⟩ := bo h
  obtain ⟨h5, h⟩|⟨h5, h⟩ := ite_out h
  · injection h with h; subst h; exact rl [0, 2, 3, 9] [0, 1] [.row (c5 x3), .t] (pc (ob5 h4)<|pc h5<|pn)
  · obtain ⟨r6, h7, h⟩ := bo h
    injection h with h; subst h; exact rl [0, 2, 3, 9] [0, 1] [.row (c5 x3), .f, .callv (.j r6)] (pc (ob5 h4)<|pc h5<|pc (k_ipv4_pair h7)<|pn)

def b0_k_ipv4_Take : List (AObj DD) := [.box 224 [.z, .z, .z, .z, .v (.int .u32 0), .v (.int .u32 0), .os 1 0] false, .n 5]
def b1_k_ipv4_Take : AObj DD := .box 224 [.z, .z, .z, .z, .v (.int .u32 0), .v (.int .u32 0), .os 1 0] false
theorem k_ipv4_Take {a1 : List Int} {r : ((List Int) × Int × Int × Int × Int × Int × Int × Int)} (h : ipv4_Take a1 = some r) :
    CallsOK Tryz.prog UU 179 [.sl 5 a1] [] ((fun r => match r with | (l41, v42, v43, v44, v45, v46, v47, v48) => .tup [.agg [.j v42, .j v43, .j v44, .j v45, .v (.int .u32 v46), .v (.int .u32 v47), .os 0 l41.length], .j v48]) r) ((fun r => match r with | (l41, v42, v43, v44, v45, v46, v47, v48) => [.arr 5 l41 l41.length false]) r) := by
  unfold ipv4_Take at h
  obtain ⟨h2, h⟩|⟨h2, h⟩ := ite_out h
  · injection h with h; subst h; exact rf Tryz.func179 (some [2]) [.t] (pc h2<|pn)
  · obtain ⟨v9, h10, h⟩ := bo h
    obtain ⟨h12, h⟩|⟨h12, h⟩ := ite_out h
    · injection h with h; subst h; exact rf Tryz.func179 (some [2]) [.f, .cut [0, 2, 3] [1, 0] .nor [(0, .sl 5 a1), (2, .op 0 1 0 0), (3, .z), (9, .v (.bool v9))] b0_k_ipv4_Take, .t] (pc h2<|pc (k_ipv4_Take_J1 h10)<|pc h12<|pn)
    · obtain ⟨r13, h14, h⟩ := bo h
      obtain ⟨h15, h⟩|⟨h15, h⟩ := ite_out h
      · injection h with h; subst h; exact rf Tryz.func179 (some [2]) [.f, .cut [0, 2, 3] [1, 0] .nor [(0, .sl 5 a1), (2, .op 0 1 0 0), (3, .z), (9, .v (.bool v9))] b0_k_ipv4_Take, .f, .callv (.j r13), .t] (pc h2<|pc (k_ipv4_Take_J1 h10)<|pc h12<|pc (k_ipv4_pair h14)<|pc h15<|pn)
      · obtain ⟨r16, h17, h⟩ := bo h
        obtain ⟨h18, h⟩|⟨h18, h⟩ := ite_out h
        · injection h with h; subst h; exact rf Tryz.func179 (some [2]) [.f, .cut [0, 2, 3] [1, 0] .nor [(0, .sl 5 a1), (2, .op 0 1 0 0), (3, .z), (9, .v (.bool v9))] b0_k_ipv4_Take, .f, .callv (.j r13), .f, .callv (.j r16), .t] (pc h2<|pc (k_ipv4_Take_J1 h10)<|pc h12<|pc (k_ipv4_pair h14)<|pc h15<|pc (k_ipv4_pair h17)<|pc h18<|pn)
        · obtain ⟨h19, h⟩|⟨h19, h⟩ := ite_out h
          · obtain ⟨r20, h21, h⟩ := bo h
            obtain ⟨h22, h⟩|⟨h22, h⟩ := ite_out h
            · injection h with h; subst h; exact rf Tryz.func179 (some [2]) [.f, .cut [0, 2, 3] [1, 0] .nor [(0, .sl 5 a1), (2, .op 0 1 0 0), (3, .z), (9, .v (.bool v9))] b0_k_ipv4_Take, .f, .callv (.j r13), .f, .callv (.j r16), .f, .b r20, .t] (pc h2<|pc (k_ipv4_Take_J1 h10)<|pc h12<|pc (k_ipv4_pair h14)<|pc h15<|pc (k_ipv4_pair h17)<|pc h18<|pc (sl_ob h19)<|pc (k_sum_Right h21)<|pc h22<|pn)
            · obtain ⟨x23, h24, h⟩ := bo h
              obtain ⟨r25, h26, h⟩ := bo h
              obtain ⟨x27, h28, h⟩ := bo h
              obtain ⟨x29, h30, h⟩ := bo h
              obtain ⟨r31, h32, h⟩ := bo h
              obtain ⟨r33, h34, h⟩ := bo h
              obtain ⟨r35, h36, h⟩ := bo h
              obtain ⟨h37, h⟩|⟨h37, h⟩ := ite_out h
              · obtain ⟨l40, h39, h⟩ := bo h
                injection h with h; subst h; exact rf Tryz.func179 (some [2]) [.f, .cut [0, 2, 3] [1, 0] .nor [(0, .sl 5 a1), (2, .op 0 1 0 0), (3, .z), (9, .v (.bool v9))] b0_k_ipv4_Take, .f, .callv (.j r13), .f, .callv (.j r16), .f, .b r20, .f, .sum [22] [] .nor [] [b1_k_ipv4_Take, .n 5, .arr 5 l40 l40.length false], .row (c5 x23), .callv (.j r25), .row (c5 x27), .row (c5 x29), .callv (.v (.int .u32 r31)), .callv (.v (.int .u32 r33)), .callv (.j r35), .callo (.os 0 l40.length) [.arr 5 l40 l40.length false]] (pc h2<|pc (k_ipv4_Take_J1 h10)<|pc h12<|pc (k_ipv4_pair h14)<|pc h15<|pc (k_ipv4_pair h17)<|pc h18<|pc (sl_ob h19)<|pc (k_sum_Right h21)<|pc h22<|pc ((rfl : (.sl 5 a1 : AV DD) = .sl 5 a1))<|pc (ob5 h24)<|pc (ob5 h24)<|pc ((rfl : (.rp (c5 x23) 0 : AV DD) = .rp (c5 x23) 0))<|pc ((rfl : (.v (.int .u8 x23) : AV DD) = .v (.int .u8 x23)))<|pc ((rfl : (.j (wr_i64 x23) : AV DD) = .j (wr_i64 x23)))<|pc (k_ipv4_pair h26)<|pc ((rfl : (.sl 5 a1 : AV DD) = .sl 5 a1))<|pc (ob5 h28)<|pc (ob5 h28)<|pc ((rfl : (.rp (c5 x27) 0 : AV DD) = .rp (c5 x27) 0))<|pc ((rfl : (.v (.int .u8 x27) : AV DD) = .v (.int .u8 x27)))<|pc ((rfl : (.j (wr_i64 x27) : AV DD) = .j (wr_i64 x27)))<|pc ((rfl : (.sl 5 a1 : AV DD) = .sl 5 a1))<|pc (ob5 h30)<|pc (ob5 h30)<|pc ((rfl : (.rp (c5 x29) 0 : AV DD) = .rp (c5 x29) 0))<|pc ((rfl : (.v (.int .u8 x29) : AV DD) = .v (.int .u8 x29)))<|pc ((rfl : (.j (wr_i64 x29) : AV DD) = .j (wr_i64 x29)))<|pc (k_ipv4_four h32)<|pc (k_ipv4_four h34)<|pc (k_ipv4_pair h36)<|pc (sl_ob h37)<|pc ((rfl : ([b1_k_ipv4_Take, .n 5, .arr 5 l40 l40.length false] : Heap DD) = [b1_k_ipv4_Take, .n 5, .arr 5 l40 l40.length false]))<|pc (k_slices_Clone_byte h39)<|pc (im5 l40)<|pn)
              · cases h
          · cases h

theorem k_ipv4_Hop {a1 : Api_Packet} {r : ((List Int) × Int × Int × Int × Int × Int × Int × Int)} (h : ipv4_Hop a1 = some r) :
    CallsOK Tryz.prog UU 180 [.agg (c224 a1)] [] ((fun r => match r with | (l6, v7, v8, v9, v10, v11, v12, v13) => .tup [.agg [.j v7, .j v8, .j v9, .j v10, .v (.int .u32 v11), .v (.int .u32 v12), .os 0 l6.length], .j v13]) r) ((fun r => match r with | (l6, v7, v8, v9, v10, v11, v12, v13) => [.arr 5 l6 l6.length false]) r) := by
  unfold ipv4_Hop at h
  obtain ⟨h2, h⟩|⟨h2, h⟩ := ite_out h
  · injection h with h; subst h; exact rf Tryz.func180 (some [3]) [.t] (pc h2<|pn)
  · obtain ⟨l5, h4, h⟩ := bo h
    injection h with h; subst h; exact rf Tryz.func180 (some [3]) [.f, .callo (.os 0 l5.length) [.arr 5 l5 l5.length false]] (pc h2<|pc (k_slices_Clone_byte h4)<|pc (im5 l5)<|pn)

theorem k_route_device {a1 : Api_Net} {a2 : Int} {r : Int} (h : route_device a1 a2 = some r) :
    CallsOK Tryz.prog UU 230 [.agg (c31 a1), .j a2] [] (.j r) [] := by
  unfold route_device at h
  obtain ⟨x3, h4, h⟩ := bo h
  obtain ⟨x5, h6, h⟩ := bo h
  injection h with h; subst h; exact rf Tryz.func230 none [.row (c118 x3), .row (c93 x5)] (pc (ob118 h4)<|pc (ob93 h6)<|pn)

theorem k_addr_Right {a1 : Api_Prefix} {r : Bool} (h : addr_Right a1 = some r) :
    CallsOK Tryz.prog UU 268 [.agg (c116 a1)] [] (.v (.bool r)) [] := by
  unfold addr_Right at h
  obtain ⟨h2, h⟩|⟨h2, h⟩ := ite_out h
  · injection h with h; subst h; exact rf Tryz.func268 none [.t] (pc h2<|pn)
  · injection h with h; subst h; exact rf Tryz.func268 none [.f] (pc h2<|pn)

theorem k_addr_rest {a1 : Api_Prefix} {r : Int} (h : addr_rest a1 = some r) :
    CallsOK Tryz.prog UU 269 [.agg (c116 a1)] [] (.v (.int .u32 r)) [] := by
  unfold addr_rest at h
  obtain ⟨h2, h⟩|⟨h2, h⟩ := ite_out h
  · injection h with h; subst h; exact rf Tryz.func269 none [] (pc (of_decide_eq_true h2)<|pn)
  · cases h

theorem k_addr_Has {a1 : Api_Prefix} {a2 : Int} {r : Bool} (h : addr_Has a1 a2 = some r) :
    CallsOK Tryz.prog UU 231 [.agg (c116 a1), .v (.int .u32 a2)] [] (.v (.bool r)) [] := by
  unfold addr_Has at h
  obtain ⟨r3, h4, h⟩ := bo h
  obtain ⟨h5, h⟩|⟨h5, h⟩ := ite_out h
  · obtain ⟨r6, h7, h⟩ := bo h
    injection h with h; subst h; exact rf Tryz.func231 none [.b r3, .t, .callv (.v (.int .u32 r6))] (pc (k_addr_Right h4)<|pc h5<|pc (k_addr_rest h7)<|pn)
  · injection h with h; subst h; exact rf Tryz.func231 none [.b r3, .f] (pc (k_addr_Right h4)<|pc h5<|pn)

theorem k_vrfs_Leaks_1 {a1 : Int} {a2 : Api_Vrf} {r : Bool} (h : vrfs_Leaks_1 a1 a2 = some r) :
    CallsOK Tryz.prog UU 291 [.j a1, .rp (c103 a2) 0] [] (.v (.bool r)) [] := by
  unfold vrfs_Leaks_1 at h
  obtain ⟨r3, h4, h⟩ := bo h
  injection h with h; subst h; exact rf Tryz.func291 none [.b r3] (pc (k_slices_Contains_int h4)<|pn)

theorem k_slices_IndexFunc_int_Leaks_1_L1 {a1 : List Int} {a2 : Api_Vrf} : LoopOK Tryz.prog UU 0 19 (subC (codeOf Tryz.f155) [1, 0, 1, 0, 0]) (ρ := Int ⊕ Unit) (slices_IndexFunc_int_Leaks_1_L1 a1 a2)
    (fun v3 : Int => ([(0, .sl 3 a1), (1, .fn (.func 291) [] [.rp (c103 a2) 0]), (4, .z), (7, .j (a1.length : Int)), (8, .j v3)] : Fr DD)) (fun v3 : Int => ([] : Heap DD)) (fun r => match r with | Sum.inl v11 => .ret | Sum.inr _ => .exit 0) (fun r => match r with | Sum.inl v11 => [(4, .j v11)] | Sum.inr _ => [(4, .z)]) (fun r => match r with | Sum.inl v11 => [] | Sum.inr _ => []) := by
  refine loop_sound3 (fun s q h => ?_) (fun r => ?_)
  · replace h : slices_IndexFunc_int_Leaks_1_L1 a1 a2 s = some q := h; revert h; revert s; intro v3 h
    unfold slices_IndexFunc_int_Leaks_1_L1 at h
    obtain ⟨h4, h⟩|⟨h4, h⟩ := ite_out h
    · obtain ⟨x5, h6, h⟩ := bo h
      obtain ⟨r7, h8, h⟩ := bo h
      obtain ⟨h9, h⟩|⟨h9, h⟩ := ite_out h
      · injection h with h; subst h; exact rl [4] [] [.t, .row (c3 x5), .b r7, .t] (pc h4<|pc (ob3 h6)<|pc (k_vrfs_Leaks_1 h8)<|pc h9<|pn)
      · injection h with h; subst h; exact rl [0, 1, 4, 7, 8] [] [.t, .row (c3 x5), .b r7, .f] (pc h4<|pc (ob3 h6)<|pc (k_vrfs_Leaks_1 h8)<|pc h9<|pn)
    · injection h with h; subst h; exact rl [4] [] [.f] (pc h4<|pn)
  · rcases r with _ | _ <;> exact Ex.noConfusion

theorem k_slices_IndexFunc_int_Leaks_1 {a1 : List Int} {a2 : Api_Vrf} {r : Int} (h : slices_IndexFunc_int_Leaks_1 a1 a2 = some r) :
    CallsOK Tryz.prog UU 155 [.sl 3 a1, .fn (.func 291) [] [.rp (c103 a2) 0]] [] (.j r) [] := by
  unfold slices_IndexFunc_int_Leaks_1 at h
  obtain ⟨r13, h12, h⟩ := bo h
  rcases r13 with v11 | _
  · injection h with h; subst h; exact rf Tryz.func155 none [.sum [0, 1, 4, 7, 8] [] .ret [(4, .j v11)] []] (pc (k_slices_IndexFunc_int_Leaks_1_L1 _ _ h12)<|pn)
  · injection h with h; subst h; exact rf Tryz.func155 none [.sum [0, 1, 4, 7, 8] [] (.exit 0) [(4, .z)] []] (pc (k_slices_IndexFunc_int_Leaks_1_L1 _ _ h12)<|pn)

theorem k_slices_ContainsFunc_int_Leaks_1 {a1 : List Int} {a2 : Api_Vrf} {r : Bool} (h : slices_ContainsFunc_int_Leaks_1 a1 a2 = some r) :
    CallsOK Tryz.prog UU 292 [.sl 3 a1, .fn (.func 291) [] [.rp (c103 a2) 0]] [] (.v (.bool r)) [] := by
  unfold slices_ContainsFunc_int_Leaks_1 at h
  obtain ⟨r3, h4, h⟩ := bo h
  injection h with h; subst h; exact rf Tryz.func292 none [.callv (.j r3)] (pc (k_slices_IndexFunc_int_Leaks_1 h4)<|pn)

theorem k_vrfs_Leaks {a1 : Api_Net} {a2 : Int} {a3 : Int} {r : Bool} (h : vrfs_Leaks a1 a2 a3 = some r) :
    CallsOK Tryz.prog UU 270 [.agg (c31 a1), .j a2, .j a3] [] (.v (.bool r)) [] := by
  unfold vrfs_Leaks at h
  obtain ⟨h4, h⟩|⟨h4, h⟩ := ite_out h
  · injection h with h; subst h; exact rf Tryz.func270 none [.t] (pc h4<|pn)
  · obtain ⟨h5, h⟩|⟨h5, h⟩ := ite_out h
    · injection h with h; subst h; exact rf Tryz.func270 none [.f, .t] (pc h4<|pc h5<|pn)
    · obtain ⟨h6, h⟩|⟨h6, h⟩ := ite_out h
      · injection h with h; subst h; exact rf Tryz.func270 none [.f, .f, .t] (pc h4<|pc h5<|pc h6<|pn)
      · obtain ⟨h7, h⟩|⟨h7, h⟩ := ite_out h
        · injection h with h; subst h; exact rf Tryz.func270 none [.f, .f, .f, .t] (pc h4<|pc h5<|pc h6<|pc h7<|pn)
        · obtain ⟨r8, h9, h⟩ := bo h
          obtain ⟨h10, h⟩|⟨h10, h⟩ := ite_out h
          · injection h with h; subst h; exact rf Tryz.func270 none [.f, .f, .f, .f, .b r8, .t] (pc h4<|pc h5<|pc h6<|pc h7<|pc (k_names_Right h9)<|pc h10<|pn)
          · obtain ⟨x11, h12, h⟩ := bo h
            obtain ⟨x13, h14, h⟩ := bo h
            obtain ⟨h15, h⟩|⟨h15, h⟩ := ite_out h
            · injection h with h; subst h; exact rf Tryz.func270 none [.f, .f, .f, .f, .b r8, .f, .row (c103 x11), .row (c103 x13), .t] (pc h4<|pc h5<|pc h6<|pc h7<|pc (k_names_Right h9)<|pc h10<|pc (ob103 h12)<|pc (ob103 h14)<|pc h15<|pn)
            · obtain ⟨h16, h⟩|⟨h16, h⟩ := ite_out h
              · obtain ⟨r17, h18, h⟩ := bo h
                injection h with h; subst h; exact rf Tryz.func270 none [.f, .f, .f, .f, .b r8, .f, .row (c103 x11), .row (c103 x13), .f, .t, .b r17] (pc h4<|pc h5<|pc h6<|pc h7<|pc (k_names_Right h9)<|pc h10<|pc (ob103 h12)<|pc (ob103 h14)<|pc h15<|pc h16<|pc (k_slices_ContainsFunc_int_Leaks_1 h18)<|pn)
              · injection h with h; subst h; exact rf Tryz.func270 none [.f, .f, .f, .f, .b r8, .f, .row (c103 x11), .row (c103 x13), .f, .f] (pc h4<|pc h5<|pc h6<|pc h7<|pc (k_names_Right h9)<|pc h10<|pc (ob103 h12)<|pc (ob103 h14)<|pc h15<|pc h16<|pn)

theorem k_route_sees {a1 : Api_Net} {a2 : Int} {a3 : Int} {r : Bool} (h : route_sees a1 a2 a3 = some r) :
    CallsOK Tryz.prog UU 232 [.agg (c31 a1), .j a2, .j a3] [] (.v (.bool r)) [] := by
  unfold route_sees at h
  obtain ⟨r4, h5, h⟩ := bo h
  obtain ⟨r6, h7, h⟩ := bo h
  obtain ⟨h8, h⟩|⟨h8, h⟩ := ite_out h
  · obtain ⟨x9, h10, h⟩ := bo h
    obtain ⟨x11, h12, h⟩ := bo h
    obtain ⟨r13, h14, h⟩ := bo h
    injection h with h; subst h; exact rf Tryz.func232 none [.callv (.j r4), .callv (.j r6), .t, .row (c118 x9), .row (c118 x11), .b r13] (pc (k_route_device h5)<|pc (k_route_device h7)<|pc h8<|pc (ob118 h10)<|pc (ob118 h12)<|pc (k_vrfs_Leaks h14)<|pn)
  · injection h with h; subst h; exact rf Tryz.func232 none [.callv (.j r4), .callv (.j r6), .f] (pc (k_route_device h5)<|pc (k_route_device h7)<|pc h8<|pn)

theorem k_route_lookup_1 {a1 : Int} {a2 : Api_Net} {a3 : Int} {r : Int} (h : route_lookup_1 a1 a2 a3 = some r) :
    CallsOK Tryz.prog UU 233 [.j a1, .rp (c31 a2) 0, .rp (c3 a3) 0] [] (.j r) [] := by
  unfold route_lookup_1 at h
  obtain ⟨x4, h5, h⟩ := bo h
  obtain ⟨x6, h7, h⟩ := bo h
  obtain ⟨h8, h⟩|⟨h8, h⟩ := ite_out h
  · injection h with h; subst h; exact rf Tryz.func233 none [.row (c118 x4), .row (c118 x6), .t] (pc (ob118 h5)<|pc (ob118 h7)<|pc h8<|pn)
  · injection h with h; subst h; exact rf Tryz.func233 none [.row (c118 x4), .row (c118 x6), .f] (pc (ob118 h5)<|pc (ob118 h7)<|pc h8<|pn)

theorem k_route_lookup_2 {a1 : Int} {a2 : Int} {a3 : Api_Net} {a4 : Api_Net} {a5 : Int} {r : Int} (h : route_lookup_2 a1 a2 a3 a4 a5 = some r) :
    CallsOK Tryz.prog UU 235 [.j a1, .j a2, .rp (c31 a3) 0, .rp [.fn (.func 233) [] [.rp (c31 a4) 0, .rp (c3 a5) 0]] 0] [] (.j r) [] := by
  unfold route_lookup_2 at h
  obtain ⟨x6, h7, h⟩ := bo h
  obtain ⟨x8, h9, h⟩ := bo h
  obtain ⟨h10, h⟩|⟨h10, h⟩ := ite_out h
  · injection h with h; subst h; exact rf Tryz.func235 none [.row (c118 x6), .row (c118 x8), .t] (pc (ob118 h7)<|pc (ob118 h9)<|pc h10<|pn)
  · obtain ⟨r11, h12, h⟩ := bo h
    obtain ⟨r13, h14, h⟩ := bo h
    injection h with h; subst h; exact rf Tryz.func235 none [.row (c118 x6), .row (c118 x8), .f, .callv (.j r11), .callv (.j r13)] (pc (ob118 h7)<|pc (ob118 h9)<|pc h10<|pc (k_route_lookup_1 h12)<|pc (k_route_lookup_1 h14)<|pn)

theorem k_slices_MaxFunc_int_lookup_2_L1 {a1 : List Int} {a2 : Api_Net} {a3 : Api_Net} {a4 : Int} : LoopOK Tryz.prog UU 0 33 (subC (codeOf Tryz.f234) [1, 1, 1, 0, 1, 0, 0]) (fun s : Int × Int => match s with | (v8, v9) => slices_MaxFunc_int_lookup_2_L1 a1 a2 a3 a4 v8 v9)
    (fun s : Int × Int => (match s with | (v8, v9) => [(0, .sl 3 a1), (1, .fn (.func 235) [] [.rp (c31 a2) 0, .rp [.fn (.func 233) [] [.rp (c31 a3) 0, .rp (c3 a4) 0]] 0]), (4, .z), (5, .j v8), (6, .j v9)] : Fr DD)) (fun s : Int × Int => (match s with | (v8, v9) => [] : Heap DD)) (fun r => match r with | v19 => .exit 0) (fun r => match r with | v19 => [(4, .z), (5, .j v19)]) (fun r => match r with | v19 => []) := by
  refine loop_sound3 (fun s q h => ?_) (fun r => ?_)
  · obtain ⟨v8, v9⟩ := s; replace h : slices_MaxFunc_int_lookup_2_L1 a1 a2 a3 a4 v8 v9 = some q := h
    unfold slices_MaxFunc_int_lookup_2_L1 at h
    obtain ⟨h10, h⟩|⟨h10, h⟩ := ite_out h
    · obtain ⟨x11, h12, h⟩ := bo h
      obtain ⟨r13, h14, h⟩ := bo h
      obtain ⟨h15, h⟩|⟨h15, h⟩ := ite_out h
      · obtain ⟨x16, h17, h⟩ := bo h
        injection h with h; subst h; exact rl [0, 1, 4, 5, 6] [] [.t, .row (c3 x11), .callv (.j r13), .t, .row (c3 x16)] (pc h10<|pc (ob3 h12)<|pc (k_route_lookup_2 h14)<|pc h15<|pc (ob3 h17)<|pn)
      · injection h with h; subst h; exact rl [0, 1, 4, 5, 6] [] [.t, .row (c3 x11), .callv (.j r13), .f] (pc h10<|pc (ob3 h12)<|pc (k_route_lookup_2 h14)<|pc h15<|pn)
    · injection h with h; subst h; exact rl [4, 5] [] [.f] (pc h10<|pn)
  · exact Ex.noConfusion

theorem k_slices_MaxFunc_int_lookup_2 {a1 : List Int} {a2 : Api_Net} {a3 : Api_Net} {a4 : Int} {r : Int} (h : slices_MaxFunc_int_lookup_2 a1 a2 a3 a4 = some r) :
    CallsOK Tryz.prog UU 234 [.sl 3 a1, .fn (.func 235) [] [.rp (c31 a2) 0, .rp [.fn (.func 233) [] [.rp (c31 a3) 0, .rp (c3 a4) 0]] 0]] [] (.j r) [] := by
  unfold slices_MaxFunc_int_lookup_2 at h
  obtain ⟨h5, h⟩|⟨h5, h⟩ := ite_out h
  · cases h
  · obtain ⟨x6, h7, h⟩ := bo h
    obtain ⟨v19, h20, h⟩ := bo h
    injection h with h; subst h; exact rf Tryz.func234 none [.f, .row (c3 x6), .sum [0, 1, 4, 5, 6] [] (.exit 0) [(4, .z), (5, .j v19)] []] (pc h5<|pc (ob3 h7)<|pc (k_slices_MaxFunc_int_lookup_2_L1 _ _ h20)<|pn)

theorem k_route_lookup_J2 {a1 : Api_Net} {a2 : Int} {a3 : Int} {l4 : List Int} {v5 : Int} {x7 : Api_Irb} {r : Unit ⊕ Unit} (h : route_lookup_J2 a1 a2 a3 l4 v5 x7 = some r) :
    ExecOK Tryz.prog UU 0 56 (subC (codeOf Tryz.f181) [1, 1, 0, 1, 0, 0, 1, 1, 0, 0, 1, 0]) [(2, .v (.int .u32 a3)), (3, .op 0 1 0 0), (4, .op 1 1 0 0), (6, .z), (7, .v (.bool false)), (8, .os 2 l4.length), (9, .j v5), (10, .op 3 1 0 0), (13, .sl 118 a1.irbs), (14, .j (a1.irbs.length : Int)), (15, .j v5)] [.box 31 (c31 a1) false, .box 3 [.j a2] false, .arr 3 l4 l4.length false, .box 118 (c118 x7) false] ((fun r => match r with | Sum.inl _ => .ret | Sum.inr _ => .nor) r) ((fun r => match r with | Sum.inl _ => [(6, .z), (7, .v (.bool false))] | Sum.inr _ => [(2, .v (.int .u32 a3)), (3, .op 0 1 0 0), (4, .op 1 1 0 0), (6, .z), (7, .v (.bool false)), (8, .os 2 l4.length), (9, .j v5), (10, .op 3 1 0 0), (13, .sl 118 a1.irbs), (14, .j (a1.irbs.length : Int)), (15, .j v5)]) r) ((fun r => match r with | Sum.inl _ => [] | Sum.inr _ => [.box 31 (c31 a1) false, .box 3 [.j a2] false, .arr 3 l4 l4.length false, .box 118 (c118 x7) false]) r) := by
  unfold route_lookup_J2 at h
  obtain ⟨r9, h10, h⟩ := bo h
  obtain ⟨r11, h12, h⟩ := bo h
  obtain ⟨h13, h⟩|⟨h13, h⟩ := ite_out h
  · obtain ⟨h14, h⟩|⟨h14, h⟩ := ite_out h
    · injection h with h; subst h; exact rl [6, 7] [] [.callv (.j r9), .callv (.j r11), .t, .t] (pc (k_route_device h10)<|pc (k_route_device h12)<|pc h13<|pc h14<|pn)
    · injection h with h; subst h; exact rl [2, 3, 4, 6, 7, 8, 9, 10, 13, 14, 15] [0, 1, 2, 3] [.callv (.j r9), .callv (.j r11), .t, .f] (pc (k_route_device h10)<|pc (k_route_device h12)<|pc h13<|pc h14<|pn)
  · injection h with h; subst h; exact rl [2, 3, 4, 6, 7, 8, 9, 10, 13, 14, 15] [0, 1, 2, 3] [.callv (.j r9), .callv (.j r11), .f] (pc (k_route_device h10)<|pc (k_route_device h12)<|pc h13<|pn)

theorem k_route_lookup_L1 {a1 : Api_Net} {a2 : Int} {a3 : Int} : LoopOK Tryz.prog UU 0 56 (subC (codeOf Tryz.f181) [1, 1, 0, 1, 0, 0]) (fun s : (List Int) × Int => match s with | (l4, v5) => route_lookup_L1 a1 a2 a3 l4 v5)
    (fun s : (List Int) × Int => (match s with | (l4, v5) => [(2, .v (.int .u32 a3)), (3, .op 0 1 0 0), (4, .op 1 1 0 0), (6, .z), (7, .v (.bool false)), (8, .os 2 l4.length), (13, .sl 118 a1.irbs), (14, .j (a1.irbs.length : Int)), (15, .j v5)] : Fr DD)) (fun s : (List Int) × Int => (match s with | (l4, v5) => [.box 31 (c31 a1) false, .box 3 [.j a2] false, .arr 3 l4 l4.length false] : Heap DD)) (fun r => match r with | Sum.inl _ => .ret | Sum.inr l29 => .exit 0) (fun r => match r with | Sum.inl _ => [(6, .z), (7, .v (.bool false))] | Sum.inr l29 => [(3, .op 0 1 0 0), (4, .op 1 1 0 0), (6, .z), (7, .v (.bool false)), (8, .os 2 l29.length)]) (fun r => match r with | Sum.inl _ => [] | Sum.inr l29 => [.box 31 (c31 a1) false, .box 3 [.j a2] false, .arr 3 l29 l29.length false]) := by
  refine loop_sound3 (fun s q h => ?_) (fun r => ?_)
  · obtain ⟨l4, v5⟩ := s; replace h : route_lookup_L1 a1 a2 a3 l4 v5 = some q := h
    unfold route_lookup_L1 at h
    obtain ⟨h6, h⟩|⟨h6, h⟩ := ite_out h
    · obtain ⟨x7, h8, h⟩ := bo h
      obtain ⟨r16, h15, h⟩ := bo h
      rcases r16 with _ | _
      · injection h with h; subst h; exact rl [6, 7] [] [.t, .row (c118 x7), .cut [2, 3, 4, 6, 7, 8, 9, 10, 13, 14, 15] [0, 1, 2, 3] .ret [(6, .z), (7, .v (.bool false))] []] (pc h6<|pc (ob118 h8)<|pc (k_route_lookup_J2 h15)<|pn)
      · obtain ⟨r17, h18, h⟩ := bo h
        obtain ⟨h19, h⟩|⟨h19, h⟩ := ite_out h
        · obtain ⟨r20, h21, h⟩ := bo h
          obtain ⟨h22, h⟩|⟨h22, h⟩ := ite_out h
          · obtain ⟨h23, h⟩|⟨h23, h⟩ := ite_out h
            · injection h with h; subst h; exact rl [2, 3, 4, 6, 7, 8, 13, 14, 15] [0, 1, 2] [.t, .row (c118 x7), .cut [2, 3, 4, 6, 7, 8, 9, 10, 13, 14, 15] [0, 1, 2, 3] .nor [(2, .v (.int .u32 a3)), (3, .op 0 1 0 0), (4, .op 1 1 0 0), (6, .z), (7, .v (.bool false)), (8, .os 2 l4.length), (9, .j v5), (10, .op 3 1 0 0), (13, .sl 118 a1.irbs), (14, .j (a1.irbs.length : Int)), (15, .j v5)] [.box 31 (c31 a1) false, .box 3 [.j a2] false, .arr 3 l4 l4.length false, .box 118 (c118 x7) false], .b r17, .t, .b r20, .t, .obj [] (.arr 3 [v5] (List.length [v5]) false), .obj [] (.arr 3 (l4 ++ [v5]) (List.length (l4 ++ [v5])) false)] (pc h6<|pc (ob118 h8)<|pc (k_route_lookup_J2 h15)<|pc (k_addr_Has h18)<|pc h19<|pc (k_route_sees h21)<|pc h22<|pc (bs_ob 3 [v5])<|pc (app_ob 3 (n := l4.length) (l := l4) (xs := [v5]) h23)<|pc ((rn (List.length [v5])))<|pn)
            · cases h
          · injection h with h; subst h; exact rl [2, 3, 4, 6, 7, 8, 13, 14, 15] [0, 1, 2] [.t, .row (c118 x7), .cut [2, 3, 4, 6, 7, 8, 9, 10, 13, 14, 15] [0, 1, 2, 3] .nor [(2, .v (.int .u32 a3)), (3, .op 0 1 0 0), (4, .op 1 1 0 0), (6, .z), (7, .v (.bool false)), (8, .os 2 l4.length), (9, .j v5), (10, .op 3 1 0 0), (13, .sl 118 a1.irbs), (14, .j (a1.irbs.length : Int)), (15, .j v5)] [.box 31 (c31 a1) false, .box 3 [.j a2] false, .arr 3 l4 l4.length false, .box 118 (c118 x7) false], .b r17, .t, .b r20, .f] (pc h6<|pc (ob118 h8)<|pc (k_route_lookup_J2 h15)<|pc (k_addr_Has h18)<|pc h19<|pc (k_route_sees h21)<|pc h22<|pn)
        · injection h with h; subst h; exact rl [2, 3, 4, 6, 7, 8, 13, 14, 15] [0, 1, 2] [.t, .row (c118 x7), .cut [2, 3, 4, 6, 7, 8, 9, 10, 13, 14, 15] [0, 1, 2, 3] .nor [(2, .v (.int .u32 a3)), (3, .op 0 1 0 0), (4, .op 1 1 0 0), (6, .z), (7, .v (.bool false)), (8, .os 2 l4.length), (9, .j v5), (10, .op 3 1 0 0), (13, .sl 118 a1.irbs), (14, .j (a1.irbs.length : Int)), (15, .j v5)] [.box 31 (c31 a1) false, .box 3 [.j a2] false, .arr 3 l4 l4.length false, .box 118 (c118 x7) false], .b r17, .f] (pc h6<|pc (ob118 h8)<|pc (k_route_lookup_J2 h15)<|pc (k_addr_Has h18)<|pc h19<|pn)
    · injection h with h; subst h; exact rl [3, 4, 6, 7, 8] [0, 1, 2] [.f] (pc h6<|pn)
  · rcases r with _ | _ <;> exact Ex.noConfusion

theorem k_route_lookup {a1 : Api_Net} {a2 : Int} {a3 : Int} {r : Int × Bool} (h : route_lookup a1 a2 a3 = some r) :
    CallsOK Tryz.prog UU 181 [.agg (c31 a1), .j a2, .v (.int .u32 a3)] [] (.tup [.v (.int .i64 r.1), .v (.bool r.2)]) [] := by
  unfold route_lookup at h
  obtain ⟨r31, h30, h⟩ := bo h
  rcases r31 with _ | l29
  · injection h with h; subst h; exact rf Tryz.func181 none [.sum [2, 3, 4, 6, 7, 8, 13, 14, 15] [0, 1, 2] .ret [(6, .z), (7, .v (.bool false))] []] (pc (k_route_lookup_L1 _ _ h30)<|pn)
  · obtain ⟨h32, h⟩|⟨h32, h⟩ := ite_out h
    · injection h with h; subst h; exact rf Tryz.func181 none [.sum [2, 3, 4, 6, 7, 8, 13, 14, 15] [0, 1, 2] (.exit 0) [(3, .op 0 1 0 0), (4, .op 1 1 0 0), (6, .z), (7, .v (.bool false)), (8, .os 2 l29.length)] [.box 31 (c31 a1) false, .box 3 [.j a2] false, .arr 3 l29 l29.length false], .t] (pc (k_route_lookup_L1 _ _ h30)<|pc (rn l29.length)<|pc h32<|pn)
    · obtain ⟨r33, h34, h⟩ := bo h
      injection h with h; subst h; exact rf Tryz.func181 none [.sum [2, 3, 4, 6, 7, 8, 13, 14, 15] [0, 1, 2] (.exit 0) [(3, .op 0 1 0 0), (4, .op 1 1 0 0), (6, .z), (7, .v (.bool false)), (8, .os 2 l29.length)] [.box 31 (c31 a1) false, .box 3 [.j a2] false, .arr 3 l29 l29.length false], .f, .callv (.j r33)] (pc (k_route_lookup_L1 _ _ h30)<|pc (rn l29.length)<|pc h32<|pc (k_slices_MaxFunc_int_lookup_2 h34)<|pc (rn l29.length)<|pn)

theorem k_ipv4_Put_1 {a1 : Int} {a2 : Int} {r : Bool} (h : ipv4_Put_1 a1 a2 = some r) :
    CallsOK Tryz.prog UU 236 [.j a1, .j a2] [] (.v (.bool r)) [] := by
  unfold ipv4_Put_1 at h
  obtain ⟨h3, h⟩|⟨h3, h⟩ := ite_out h
  · injection h with h; subst h; exact rf Tryz.func236 none [.t] (pc h3<|pn)
  · injection h with h; subst h; exact rf Tryz.func236 none [.f] (pc h3<|pn)

theorem k_ipv4_put_own_L1 {a2 : List Int} : LoopOK Tryz.prog UU 2 23 (subC (codeOf Tryz.f237) [1, 0, 1, 0, 0]) (fun s : (List Int) × Int => match s with | (l3, v4) => ipv4_put_own_L1 a2 l3 v4)
    (fun s : (List Int) × Int => (match s with | (l3, v4) => [(0, .os 0 l3.length), (4, .os 2 0), (7, .os 1 a2.length), (8, .j (a2.length : Int)), (9, .j v4)] : Fr DD)) (fun s : (List Int) × Int => (match s with | (l3, v4) => [.arr 5 l3 l3.length false, .arr 3 a2 a2.length false, .n 5] : Heap DD)) (fun r => match r with | l12 => .exit 0) (fun r => match r with | l12 => [(0, .os 0 l12.length), (4, .os 2 0)]) (fun r => match r with | l12 => [.arr 5 l12 l12.length false, .arr 3 a2 a2.length false, .n 5]) := by
  refine loop_sound3 (fun s q h => ?_) (fun r => ?_)
  · obtain ⟨l3, v4⟩ := s; replace h : ipv4_put_own_L1 a2 l3 v4 = some q := h
    unfold ipv4_put_own_L1 at h
    obtain ⟨h5, h⟩|⟨h5, h⟩ := ite_out h
    · obtain ⟨h6, h⟩|⟨h6, h⟩ := ite_out h
      · obtain ⟨x7, h8, h⟩ := bo h
        obtain ⟨h9, h⟩|⟨h9, h⟩ := ite_out h
        · injection h with h; subst h; exact rl [0, 4, 7, 8, 9] [0, 1, 2] [.t, .row (c3 x7), .obj [] (.arr 5 [(wr_u8 (Int.fdiv x7 (2 ^ 8)) : Int), (wr_u8 x7 : Int)] (List.length [(wr_u8 (Int.fdiv x7 (2 ^ 8)) : Int), (wr_u8 x7 : Int)]) false), .obj [] (.arr 5 (l3 ++ [(wr_u8 (Int.fdiv x7 (2 ^ 8)) : Int), (wr_u8 x7 : Int)]) (List.length (l3 ++ [(wr_u8 (Int.fdiv x7 (2 ^ 8)) : Int), (wr_u8 x7 : Int)])) false)] (pc h5<|pc (an a2.length (lin_ob h6))<|pc (an a2.length (obn3 h8))<|pc ((show (0 : Int) ≤ 8 from by decide))<|pc (bs_ob 5 [(wr_u8 (Int.fdiv x7 (2 ^ 8)) : Int), (wr_u8 x7 : Int)])<|pc (app_ob 5 (n := l3.length) (l := l3) (xs := [(wr_u8 (Int.fdiv x7 (2 ^ 8)) : Int), (wr_u8 x7 : Int)]) h9)<|pc ((rn (List.length [(wr_u8 (Int.fdiv x7 (2 ^ 8)) : Int), (wr_u8 x7 : Int)])))<|pn)
        · cases h
      · cases h
    · injection h with h; subst h; exact rl [0, 4] [0, 1, 2] [.f] (pc h5<|pn)
  · exact Ex.noConfusion

theorem k_ipv4_put_own {a1 : List Int} {a2 : List Int} {r : ((List Int))} (h : ipv4_put_own a1 a2 = some r) :
    CallsOK Tryz.prog UU 237 [.os 0 a1.length, .os 1 a2.length] [.arr 5 a1 a1.length false, .arr 3 a2 a2.length false] ((fun r => match r with | l15 => .os 0 l15.length) r) ((fun r => match r with | l15 => [.arr 5 l15 l15.length false, .arr 3 a2 a2.length false]) r) := by
  unfold ipv4_put_own at h
  obtain ⟨l12, h13, h⟩ := bo h
  injection h with h; subst h; exact rf Tryz.func237 (some [0, 1]) [.sum [0, 4, 7, 8, 9] [0, 1, 2] (.exit 0) [(0, .os 0 l12.length), (4, .os 2 0)] [.arr 5 l12 l12.length false, .arr 3 a2 a2.length false, .n 5]] (pc (rn a2.length)<|pc (k_ipv4_put_own_L1 _ _ h13)<|pn)

theorem k_sum_Of {a1 : List Int} {r : Int} (h : sum_Of a1 = some r) :
    CallsOK Tryz.prog UU 238 [.sl 5 a1] [] (.j r) [] := by
  unfold sum_Of at h
  obtain ⟨r2, h3, h⟩ := bo h
  injection h with h; subst h; exact rf Tryz.func238 none [.callv (.j r2)] (pc (k_sum_add h3)<|pn)

theorem k_ipv4_Put {a1 : Api_Packet} {r : ((List Int) × Int)} (h : ipv4_Put a1 = some r) :
    CallsOK Tryz.prog UU 182 [.agg (c224 a1)] [] ((fun r => match r with | (l27, v28) => .tup [.os 0 l27.length, .j v28]) r) ((fun r => match r with | (l27, v28) => [.arr 5 l27 l27.length false]) r) := by
  unfold ipv4_Put at h
  obtain ⟨r2, h3, h⟩ := bo h
  obtain ⟨h4, h⟩|⟨h4, h⟩ := ite_out h
  · injection h with h; subst h; exact rf Tryz.func182 (some [2]) [.b r2, .t] (pc (k_ipv4_Put_1 h3)<|pc h4<|pn)
  · obtain ⟨r5, h6, h⟩ := bo h
    obtain ⟨h7, h⟩|⟨h7, h⟩ := ite_out h
    · injection h with h; subst h; exact rf Tryz.func182 (some [2]) [.b r2, .f, .b r5, .t] (pc (k_ipv4_Put_1 h3)<|pc h4<|pc (k_ipv4_Put_1 h6)<|pc h7<|pn)
    · obtain ⟨r8, h9, h⟩ := bo h
      obtain ⟨h10, h⟩|⟨h10, h⟩ := ite_out h
      · injection h with h; subst h; exact rf Tryz.func182 (some [2]) [.b r2, .f, .b r5, .f, .b r8, .t] (pc (k_ipv4_Put_1 h3)<|pc h4<|pc (k_ipv4_Put_1 h6)<|pc h7<|pc (k_ipv4_Put_1 h9)<|pc h10<|pn)
      · obtain ⟨r11, h12, h⟩ := bo h
        obtain ⟨h13, h⟩|⟨h13, h⟩ := ite_out h
        · injection h with h; subst h; exact rf Tryz.func182 (some [2]) [.b r2, .f, .b r5, .f, .b r8, .f, .b r11, .t] (pc (k_ipv4_Put_1 h3)<|pc h4<|pc (k_ipv4_Put_1 h6)<|pc h7<|pc (k_ipv4_Put_1 h9)<|pc h10<|pc (k_ipv4_Put_1 h12)<|pc h13<|pn)
        · obtain ⟨h14, h⟩|⟨h14, h⟩ := ite_out h
          · injection h with h; subst h; exact rf Tryz.func182 (some [2]) [.b r2, .f, .b r5, .f, .b r8, .f, .b r11, .f, .t] (pc (k_ipv4_Put_1 h3)<|pc h4<|pc (k_ipv4_Put_1 h6)<|pc h7<|pc (k_ipv4_Put_1 h9)<|pc h10<|pc (k_ipv4_Put_1 h12)<|pc h13<|pc h14<|pn)
          · obtain ⟨l17, h16, h⟩ := bo h
            obtain ⟨r18, h19, h⟩ := bo h
            obtain ⟨h20, h⟩|⟨h20, h⟩ := ite_out h
            · obtain ⟨x21, h22, h⟩ := bo h
              obtain ⟨h23, h⟩|⟨h23, h⟩ := ite_out h
              · obtain ⟨x24, h25, h⟩ := bo h
                obtain ⟨h26, h⟩|⟨h26, h⟩ := ite_out h
                · injection h with h; subst h; exact rf Tryz.func182 (some [3]) [.b r2, .f, .b r5, .f, .b r8, .f, .b r11, .f, .f, .obj [] (.arr 3 [(bits_or .i64 17664 a1.tos : Int), (wr_i64 (20 + (a1.body.length : Int)) : Int), a1.id, (0 : Int), (bits_or .i64 (wr_i64 (a1.ttl * 2 ^ 8)) a1.proto : Int), (0 : Int), (wr_i64 (Int.fdiv a1.src (2 ^ 16)) : Int), (wr_i64 a1.src : Int), (wr_i64 (Int.fdiv a1.dst (2 ^ 16)) : Int), (wr_i64 a1.dst : Int)] (List.length [(bits_or .i64 17664 a1.tos : Int), (wr_i64 (20 + (a1.body.length : Int)) : Int), a1.id, (0 : Int), (bits_or .i64 (wr_i64 (a1.ttl * 2 ^ 8)) a1.proto : Int), (0 : Int), (wr_i64 (Int.fdiv a1.src (2 ^ 16)) : Int), (wr_i64 a1.src : Int), (wr_i64 (Int.fdiv a1.dst (2 ^ 16)) : Int), (wr_i64 a1.dst : Int)]) false), .skp, .callm [3, 2] (.os 0 l17.length) [.arr 5 l17 l17.length false, .arr 3 [(bits_or .i64 17664 a1.tos : Int), (wr_i64 (20 + (a1.body.length : Int)) : Int), a1.id, (0 : Int), (bits_or .i64 (wr_i64 (a1.ttl * 2 ^ 8)) a1.proto : Int), (0 : Int), (wr_i64 (Int.fdiv a1.src (2 ^ 16)) : Int), (wr_i64 a1.src : Int), (wr_i64 (Int.fdiv a1.dst (2 ^ 16)) : Int), (wr_i64 a1.dst : Int)] (List.length [(bits_or .i64 17664 a1.tos : Int), (wr_i64 (20 + (a1.body.length : Int)) : Int), a1.id, (0 : Int), (bits_or .i64 (wr_i64 (a1.ttl * 2 ^ 8)) a1.proto : Int), (0 : Int), (wr_i64 (Int.fdiv a1.src (2 ^ 16)) : Int), (wr_i64 a1.src : Int), (wr_i64 (Int.fdiv a1.dst (2 ^ 16)) : Int), (wr_i64 a1.dst : Int)]) false], .callv (.j r18), .row (c5 x21), .obj [] (.arr 5 (List.set l17 (Int.toNat 10) (wr_u8 (Int.fdiv r18 (2 ^ 8)) : Int)) l17.length false), .row (c5 x24), .obj [] (.arr 5 (List.set (List.set l17 (Int.toNat 10) (wr_u8 (Int.fdiv r18 (2 ^ 8)) : Int)) (Int.toNat 11) (wr_u8 r18 : Int)) l17.length false), .obj [] (.arr 5 ((List.set (List.set l17 (Int.toNat 10) (wr_u8 (Int.fdiv r18 (2 ^ 8)) : Int)) (Int.toNat 11) (wr_u8 r18 : Int)) ++ a1.body) (List.length ((List.set (List.set l17 (Int.toNat 10) (wr_u8 (Int.fdiv r18 (2 ^ 8)) : Int)) (Int.toNat 11) (wr_u8 r18 : Int)) ++ a1.body)) false)] (pc (k_ipv4_Put_1 h3)<|pc h4<|pc (k_ipv4_Put_1 h6)<|pc h7<|pc (k_ipv4_Put_1 h9)<|pc h10<|pc (k_ipv4_Put_1 h12)<|pc h13<|pc h14<|pc ((show (0 : Int) ≤ 8 from by decide))<|pc ((show (0 : Int) ≤ 16 from by decide))<|pc ((show (0 : Int) ≤ 16 from by decide))<|pc (bs_ob 3 [(bits_or .i64 17664 a1.tos : Int), (wr_i64 (20 + (a1.body.length : Int)) : Int), a1.id, (0 : Int), (bits_or .i64 (wr_i64 (a1.ttl * 2 ^ 8)) a1.proto : Int), (0 : Int), (wr_i64 (Int.fdiv a1.src (2 ^ 16)) : Int), (wr_i64 a1.src : Int), (wr_i64 (Int.fdiv a1.dst (2 ^ 16)) : Int), (wr_i64 a1.dst : Int)])<|pc (k_ipv4_put_own h16)<|pc (k_sum_Of h19)<|pc (rn l17.length)<|pc ((show (0 : Int) ≤ 8 from by decide))<|pc (an l17.length (lin_ob h20))<|pc (st_ob (e := 5) (n := l17.length) (l := l17) (i := (Int.toNat 10)) (wr_u8 (Int.fdiv r18 (2 ^ 8)) : Int) [.v (.int .u8 (wr_u8 (Int.fdiv r18 (2 ^ 8))))] (obn5 h22) rfl)<|pc (an l17.length (lin_ob h23))<|pc (st_ob (e := 5) (n := l17.length) (l := List.set l17 (Int.toNat 10) (wr_u8 (Int.fdiv r18 (2 ^ 8)) : Int)) (i := (Int.toNat 11)) (wr_u8 r18 : Int) [.v (.int .u8 (wr_u8 r18))] (obn5 h25) rfl)<|pc (app_ob 5 (n := l17.length) (l := List.set (List.set l17 (Int.toNat 10) (wr_u8 (Int.fdiv r18 (2 ^ 8)) : Int)) (Int.toNat 11) (wr_u8 r18 : Int)) (xs := a1.body) h26)<|pn)
                · cases h
              · cases h
            · cases h

theorem k_route_Hop_J1 {a1 : Api_Net} {a2 : Int} {l12 : List Int} {v13 : Int} {v14 : Int} {v15 : Int} {v16 : Int} {v17 : Int} {v18 : Int} {v19 : Int} {r : ((List Int) × Int × Int × Int × Int × Int × Int × Int)} (h : route_Hop_J1 a1 a2 l12 v13 v14 v15 v16 v17 v18 v19 = some r) :
    ExecOK Tryz.prog UU 0 88 (subC (codeOf Tryz.f109) [1, 1, 1, 1, 0]) [(1, .j a2), (3, .op 0 1 0 0), (6, .z), (7, .op 1 1 0 0), (8, .j v19), (9, .op 3 1 0 0)] [.box 31 (c31 a1) false, .box 62 [.v (.int .u64 0), .v (.int .u64 0), .z, .os 2 0] false, .n 5, .box 224 [.j v13, .j v14, .j v15, .j v16, .v (.int .u32 v17), .v (.int .u32 v18), .os 4 l12.length] false, .arr 5 l12 l12.length false] ((fun r => match r with | (l74, v75, v76, v77, v78, v79, v80, v81) => .nor) r) ((fun r => match r with | (l74, v75, v76, v77, v78, v79, v80, v81) => [(1, .j a2), (3, .op 0 1 0 0), (6, .z), (7, .op 1 1 0 0), (8, .j v81), (9, .op 3 1 0 0)]) r) ((fun r => match r with | (l74, v75, v76, v77, v78, v79, v80, v81) => [.box 31 (c31 a1) false, .box 62 [.v (.int .u64 0), .v (.int .u64 0), .z, .os 2 0] false, .n 5, .box 224 [.j v75, .j v76, .j v77, .j v78, .v (.int .u32 v79), .v (.int .u32 v80), .os 4 l74.length] false, .arr 5 l74 l74.length false]) r) := by
  unfold route_Hop_J1 at h
  obtain ⟨h20, h⟩|⟨h20, h⟩ := ite_out h
  · obtain ⟨r21, h22, h⟩ := bo h
    obtain ⟨l23, v24, v25, v26, v27, v28, v29, v30⟩ := r21
    injection h with h; subst h; exact rl [1, 3, 6, 7, 8, 9] [0, 1, 2, 3, 5] [.t, .callo (.tup [.agg [.j v24, .j v25, .j v26, .j v27, .v (.int .u32 v28), .v (.int .u32 v29), .os 0 l23.length], .j v30]) [.arr 5 l23 l23.length false]] (pc h20<|pc (k_ipv4_Hop h22)<|pc (im5 l23)<|pc (rn l12.length)<|pn)
  · injection h with h; subst h; exact rl [1, 3, 6, 7, 8, 9] [0, 1, 2, 3, 4] [.f] (pc h20<|pn)

theorem k_route_Hop {a1 : Api_Net} {a2 : Int} {a3 : Api_Frame} {r : ((List Int) × Int × Int × Int × Int × Int)} (h : route_Hop a1 a2 a3 = some r) :
    CallsOK Tryz.prog UU 109 [.agg (c31 a1), .j a2, .agg (c62 a3)] [] ((fun r => match r with | (l101, v102, v103, v104, v105, v106) => .tup [.j v102, .agg [.v (.int .u64 v103), .v (.int .u64 v104), .j v105, .os 0 l101.length], .j v106]) r) ((fun r => match r with | (l101, v102, v103, v104, v105, v106) => [.arr 5 l101 l101.length false]) r) := by
  unfold route_Hop at h
  obtain ⟨h4, h⟩|⟨h4, h⟩ := ite_out h
  · injection h with h; subst h; exact rf Tryz.func109 (some [4]) [.t] (pc h4<|pn)
  · obtain ⟨h5, h⟩|⟨h5, h⟩ := ite_out h
    · injection h with h; subst h; exact rf Tryz.func109 (some [4]) [.f, .t] (pc h4<|pc h5<|pn)
    · obtain ⟨r6, h7, h⟩ := bo h
      obtain ⟨h8, h⟩|⟨h8, h⟩ := ite_out h
      · injection h with h; subst h; exact rf Tryz.func109 (some [4]) [.f, .f, .b r6, .t] (pc h4<|pc h5<|pc (k_names_Right h7)<|pc h8<|pn)
      · obtain ⟨h9, h⟩|⟨h9, h⟩ := ite_out h
        · injection h with h; subst h; exact rf Tryz.func109 (some [4]) [.f, .f, .b r6, .f, .t] (pc h4<|pc h5<|pc (k_names_Right h7)<|pc h8<|pc h9<|pn)
        · obtain ⟨r10, h11, h⟩ := bo h
          obtain ⟨l12, v13, v14, v15, v16, v17, v18, v19⟩ := r10
          obtain ⟨r83, h82, h⟩ := bo h
          obtain ⟨l74, v75, v76, v77, v78, v79, v80, v81⟩ := r83
          obtain ⟨h84, h⟩|⟨h84, h⟩ := ite_out h
          · injection h with h; subst h; exact rf Tryz.func109 (some [5]) [.f, .f, .b r6, .f, .f, .callo (.tup [.agg [.j v13, .j v14, .j v15, .j v16, .v (.int .u32 v17), .v (.int .u32 v18), .os 0 l12.length], .j v19]) [.arr 5 l12 l12.length false], .cut [1, 3, 6, 7, 8, 9] [0, 3, 2, 6, 4] .nor [(1, .j a2), (3, .op 0 1 0 0), (6, .z), (7, .op 1 1 0 0), (8, .j v81), (9, .op 3 1 0 0)] [.box 31 (c31 a1) false, .box 62 [.v (.int .u64 0), .v (.int .u64 0), .z, .os 2 0] false, .n 5, .box 224 [.j v75, .j v76, .j v77, .j v78, .v (.int .u32 v79), .v (.int .u32 v80), .os 4 l74.length] false, .arr 5 l74 l74.length false], .t] (pc h4<|pc h5<|pc (k_names_Right h7)<|pc h8<|pc h9<|pc (k_ipv4_Take h11)<|pc (im5 l12)<|pc (k_route_Hop_J1 h82)<|pc h84<|pn)
          · obtain ⟨r85, h86, h⟩ := bo h
            obtain ⟨h87, h⟩|⟨h87, h⟩ := ite_out h
            · injection h with h; subst h; exact rf Tryz.func109 (some [5]) [.f, .f, .b r6, .f, .f, .callo (.tup [.agg [.j v13, .j v14, .j v15, .j v16, .v (.int .u32 v17), .v (.int .u32 v18), .os 0 l12.length], .j v19]) [.arr 5 l12 l12.length false], .cut [1, 3, 6, 7, 8, 9] [0, 3, 2, 6, 4] .nor [(1, .j a2), (3, .op 0 1 0 0), (6, .z), (7, .op 1 1 0 0), (8, .j v81), (9, .op 3 1 0 0)] [.box 31 (c31 a1) false, .box 62 [.v (.int .u64 0), .v (.int .u64 0), .z, .os 2 0] false, .n 5, .box 224 [.j v75, .j v76, .j v77, .j v78, .v (.int .u32 v79), .v (.int .u32 v80), .os 4 l74.length] false, .arr 5 l74 l74.length false], .f, .callv (.tup [.v (.int .i64 r85.1), .v (.bool r85.2)]), .t] (pc h4<|pc h5<|pc (k_names_Right h7)<|pc h8<|pc h9<|pc (k_ipv4_Take h11)<|pc (im5 l12)<|pc (k_route_Hop_J1 h82)<|pc h84<|pc (k_route_lookup h86)<|pc h87<|pn)
            · obtain ⟨r88, h89, h⟩ := bo h
              obtain ⟨l90, v91⟩ := r88
              obtain ⟨h92, h⟩|⟨h92, h⟩ := ite_out h
              · injection h with h; subst h; exact rf Tryz.func109 (some [6]) [.f, .f, .b r6, .f, .f, .callo (.tup [.agg [.j v13, .j v14, .j v15, .j v16, .v (.int .u32 v17), .v (.int .u32 v18), .os 0 l12.length], .j v19]) [.arr 5 l12 l12.length false], .cut [1, 3, 6, 7, 8, 9] [0, 3, 2, 6, 4] .nor [(1, .j a2), (3, .op 0 1 0 0), (6, .z), (7, .op 1 1 0 0), (8, .j v81), (9, .op 3 1 0 0)] [.box 31 (c31 a1) false, .box 62 [.v (.int .u64 0), .v (.int .u64 0), .z, .os 2 0] false, .n 5, .box 224 [.j v75, .j v76, .j v77, .j v78, .v (.int .u32 v79), .v (.int .u32 v80), .os 4 l74.length] false, .arr 5 l74 l74.length false], .f, .callv (.tup [.v (.int .i64 r85.1), .v (.bool r85.2)]), .f, .callo (.tup [.os 0 l90.length, .j v91]) [.arr 5 l90 l90.length false], .t] (pc h4<|pc h5<|pc (k_names_Right h7)<|pc h8<|pc h9<|pc (k_ipv4_Take h11)<|pc (im5 l12)<|pc (k_route_Hop_J1 h82)<|pc h84<|pc (k_route_lookup h86)<|pc h87<|pc (k_ipv4_Put h89)<|pc (im5 l90)<|pc (rn l74.length)<|pc h92<|pn)
              · obtain ⟨x93, h94, h⟩ := bo h
                obtain ⟨r95, h96, h⟩ := bo h
                obtain ⟨x97, h98, h⟩ := bo h
                obtain ⟨r99, h100, h⟩ := bo h
                injection h with h; subst h; exact rf Tryz.func109 (some [5]) [.f, .f, .b r6, .f, .f, .callo (.tup [.agg [.j v13, .j v14, .j v15, .j v16, .v (.int .u32 v17), .v (.int .u32 v18), .os 0 l12.length], .j v19]) [.arr 5 l12 l12.length false], .cut [1, 3, 6, 7, 8, 9] [0, 3, 2, 6, 4] .nor [(1, .j a2), (3, .op 0 1 0 0), (6, .z), (7, .op 1 1 0 0), (8, .j v81), (9, .op 3 1 0 0)] [.box 31 (c31 a1) false, .box 62 [.v (.int .u64 0), .v (.int .u64 0), .z, .os 2 0] false, .n 5, .box 224 [.j v75, .j v76, .j v77, .j v78, .v (.int .u32 v79), .v (.int .u32 v80), .os 4 l74.length] false, .arr 5 l74 l74.length false], .f, .callv (.tup [.v (.int .i64 r85.1), .v (.bool r85.2)]), .f, .callo (.tup [.os 0 l90.length, .j v91]) [.arr 5 l90 l90.length false], .f, .row (c118 x93), .callv (.v (.int .u64 r95)), .row (c118 x97), .callv (.v (.int .u64 r99))] (pc h4<|pc h5<|pc (k_names_Right h7)<|pc h8<|pc h9<|pc (k_ipv4_Take h11)<|pc (im5 l12)<|pc (k_route_Hop_J1 h82)<|pc h84<|pc (k_route_lookup h86)<|pc h87<|pc (k_ipv4_Put h89)<|pc (im5 l90)<|pc (rn l74.length)<|pc h92<|pc (ob118 h94)<|pc (k_mac_Host h96)<|pc (ob118 h98)<|pc (k_mac_Host h100)<|pn)

theorem k_domains_entry_1 {a1 : Api_Static} {a2 : Int} {a3 : Int} {r : Bool} (h : domains_entry_1 a1 a2 a3 = some r) :
    CallsOK Tryz.prog UU 142 [.agg (c97 a1), .rp (c3 a2) 0, .rp (c32 a3) 0] [] (.v (.bool r)) [] := by
  unfold domains_entry_1 at h
  obtain ⟨h4, h⟩|⟨h4, h⟩ := ite_out h
  · injection h with h; subst h; exact rf Tryz.func142 none [.t] (pc h4<|pn)
  · injection h with h; subst h; exact rf Tryz.func142 none [.f] (pc h4<|pn)

theorem k_slices_IndexFunc_Static_entry_1_L1 {a1 : List Api_Static} {a2 : Int} {a3 : Int} : LoopOK Tryz.prog UU 0 19 (subC (codeOf Tryz.f141) [1, 0, 1, 0, 0]) (ρ := Int ⊕ Unit) (slices_IndexFunc_Static_entry_1_L1 a1 a2 a3)
    (fun v4 : Int => ([(0, .sl 97 a1), (1, .fn (.func 142) [] [.rp (c3 a2) 0, .rp (c32 a3) 0]), (4, .z), (7, .j (a1.length : Int)), (8, .j v4)] : Fr DD)) (fun v4 : Int => ([] : Heap DD)) (fun r => match r with | Sum.inl v12 => .ret | Sum.inr _ => .exit 0) (fun r => match r with | Sum.inl v12 => [(4, .j v12)] | Sum.inr _ => [(4, .z)]) (fun r => match r with | Sum.inl v12 => [] | Sum.inr _ => []) := by
  refine loop_sound3 (fun s q h => ?_) (fun r => ?_)
  · replace h : slices_IndexFunc_Static_entry_1_L1 a1 a2 a3 s = some q := h; revert h; revert s; intro v4 h
    unfold slices_IndexFunc_Static_entry_1_L1 at h
    obtain ⟨h5, h⟩|⟨h5, h⟩ := ite_out h
    · obtain ⟨x6, h7, h⟩ := bo h
      obtain ⟨r8, h9, h⟩ := bo h
      obtain ⟨h10, h⟩|⟨h10, h⟩ := ite_out h
      · injection h with h; subst h; exact rl [4] [] [.t, .row (c97 x6), .b r8, .t] (pc h5<|pc (ob97 h7)<|pc (k_domains_entry_1 h9)<|pc h10<|pn)
      · injection h with h; subst h; exact rl [0, 1, 4, 7, 8] [] [.t, .row (c97 x6), .b r8, .f] (pc h5<|pc (ob97 h7)<|pc (k_domains_entry_1 h9)<|pc h10<|pn)
    · injection h with h; subst h; exact rl [4] [] [.f] (pc h5<|pn)
  · rcases r with _ | _ <;> exact Ex.noConfusion

theorem k_slices_IndexFunc_Static_entry_1 {a1 : List Api_Static} {a2 : Int} {a3 : Int} {r : Int} (h : slices_IndexFunc_Static_entry_1 a1 a2 a3 = some r) :
    CallsOK Tryz.prog UU 141 [.sl 97 a1, .fn (.func 142) [] [.rp (c3 a2) 0, .rp (c32 a3) 0]] [] (.j r) [] := by
  unfold slices_IndexFunc_Static_entry_1 at h
  obtain ⟨r14, h13, h⟩ := bo h
  rcases r14 with v12 | _
  · injection h with h; subst h; exact rf Tryz.func141 none [.sum [0, 1, 4, 7, 8] [] .ret [(4, .j v12)] []] (pc (k_slices_IndexFunc_Static_entry_1_L1 _ _ h13)<|pn)
  · injection h with h; subst h; exact rf Tryz.func141 none [.sum [0, 1, 4, 7, 8] [] (.exit 0) [(4, .z)] []] (pc (k_slices_IndexFunc_Static_entry_1_L1 _ _ h13)<|pn)

theorem k_domains_entry {a1 : Api_Net} {a2 : Int} {a3 : Int} {r : Int} (h : domains_entry a1 a2 a3 = some r) :
    CallsOK Tryz.prog UU 48 [.agg (c31 a1), .j a2, .v (.int .u64 a3)] [] (.j r) [] := by
  unfold domains_entry at h
  obtain ⟨r4, h5, h⟩ := bo h
  injection h with h; subst h; exact rf Tryz.func48 none [.callv (.j r4)] (pc (k_slices_IndexFunc_Static_entry_1 h5)<|pn)

theorem k_domains_Lookup {a1 : Api_Net} {a2 : Int} {a3 : Int} {r : Int} (h : domains_Lookup a1 a2 a3 = some r) :
    CallsOK Tryz.prog UU 16 [.agg (c31 a1), .j a2, .v (.int .u64 a3)] [] (.j r) [] := by
  unfold domains_Lookup at h
  obtain ⟨r4, h5, h⟩ := bo h
  obtain ⟨h6, h⟩|⟨h6, h⟩ := ite_out h
  · injection h with h; subst h; exact rf Tryz.func16 none [.callv (.j r4), .t] (pc (k_domains_entry h5)<|pc h6<|pn)
  · obtain ⟨r7, h8, h⟩ := bo h
    obtain ⟨h9, h⟩|⟨h9, h⟩ := ite_out h
    · injection h with h; subst h; exact rf Tryz.func16 none [.callv (.j r4), .f, .b r7, .t] (pc (k_domains_entry h5)<|pc h6<|pc (k_names_Right h8)<|pc h9<|pn)
    · obtain ⟨x10, h11, h⟩ := bo h
      injection h with h; subst h; exact rf Tryz.func16 none [.callv (.j r4), .f, .b r7, .f, .row (c97 x10)] (pc (k_domains_entry h5)<|pc h6<|pc (k_names_Right h8)<|pc h9<|pc (ob97 h11)<|pn)

theorem k_table_Find {a1 : List Api_Entry} {a2 : Int} {r : Int × Bool} (h : table_Find a1 a2 = some r) :
    CallsOK Tryz.prog UU 42 [.sl 84 a1, .v (.int .u64 a2)] [] (.tup [.v (.int .i64 r.1), .v (.bool r.2)]) [] := by
  unfold table_Find at h
  obtain ⟨r3, h4, h⟩ := bo h
  obtain ⟨h5, h⟩|⟨h5, h⟩ := ite_out h
  · injection h with h; subst h; exact rf Tryz.func42 none [.callv (.j r3), .t] (pc (k_table_index h4)<|pc h5<|pn)
  · obtain ⟨x6, h7, h⟩ := bo h
    injection h with h; subst h; exact rf Tryz.func42 none [.callv (.j r3), .f, .row (c84 x6)] (pc (k_table_index h4)<|pc h5<|pc (ob84 h7)<|pn)

theorem k_lookup_room_known_J1 {a1 : Lookup_room} {r9 : Int × Bool} {r : Bool} (h : lookup_room_known_J1 a1 r9 = some r) :
    ExecOK Tryz.prog UU 0 79 (subC (codeOf Tryz.f183) [1, 1, 1, 0, 0, 1, 1, 0]) [(0, .rp (c219 a1) 0), (6, .os 0 0), (7, .os 1 0), (8, .v (.bool r9.2)), (10, .v (.int .i64 r9.1))] [.n 3, .n 3] ((fun r => match r with | v16 => .nor) r) ((fun r => match r with | v16 => [(0, .rp (c219 a1) 0), (6, .os 0 0), (7, .os 1 0), (8, .v (.bool r9.2)), (10, .v (.int .i64 r9.1)), (36, .v (.bool v16))]) r) ((fun r => match r with | v16 => [.n 3, .n 3]) r) := by
  unfold lookup_room_known_J1 at h
  obtain ⟨h12, h⟩|⟨h12, h⟩ := ite_out h
  · obtain ⟨r13, h14, h⟩ := bo h
    injection h with h; subst h; exact rl [0, 6, 7, 8, 10, 36] [0, 1] [.t, .b r13] (pc h12<|pc (k_slices_Contains_int h14)<|pn)
  · injection h with h; subst h; exact rl [0, 6, 7, 8, 10, 36] [0, 1] [.f] (pc h12<|pn)

theorem k_lookup_room_known_J2 {a1 : Lookup_room} {r9 : Int × Bool} {r : Bool} (h : lookup_room_known_J2 a1 r9 = some r) :
    ExecOK Tryz.prog UU 0 79 (subC (codeOf Tryz.f183) [1, 1, 1, 0, 0, 1, 1, 1, 1, 0]) [(0, .rp (c219 a1) 0), (6, .os 0 0), (7, .os 1 0), (8, .v (.bool r9.2)), (10, .v (.int .i64 r9.1))] [.n 3, .n 3] ((fun r => match r with | v28 => .nor) r) ((fun r => match r with | v28 => [(0, .rp (c219 a1) 0), (6, .os 0 0), (7, .os 1 0), (8, .v (.bool r9.2)), (10, .v (.int .i64 r9.1)), (51, .v (.bool v28))]) r) ((fun r => match r with | v28 => [.n 3, .n 3]) r) := by
  unfold lookup_room_known_J2 at h
  obtain ⟨h22, h⟩|⟨h22, h⟩ := ite_out h
  · obtain ⟨x23, h24, h⟩ := bo h
    obtain ⟨r25, h26, h⟩ := bo h
    injection h with h; subst h; exact rl [0, 6, 7, 8, 10, 51] [0, 1] [.t, .row (c93 x23), .b r25] (pc h22<|pc (ob93 h24)<|pc (k_slices_Contains_int h26)<|pn)
  · injection h with h; subst h; exact rl [0, 6, 7, 8, 10, 51] [0, 1] [.f] (pc h22<|pn)

theorem k_lookup_room_known {a1 : Lookup_room} {a2 : List Api_Entry} {a3 : Int} {r : ((List Int) × (List Int) × Bool)} (h : lookup_room_known a1 a2 a3 = some r) :
    CallsOK Tryz.prog UU 183 [.rp (c219 a1) 0, .sl 84 a2, .v (.int .u64 a3)] [] ((fun r => match r with | (r33, r34, r35) => .tup [.sl 3 r33, .sl 3 r34, .v (.bool r35)]) r) ((fun r => match r with | (r33, r34, r35) => []) r) := by
  unfold lookup_room_known at h
  obtain ⟨r4, h5, h⟩ := bo h
  obtain ⟨h6, h⟩|⟨h6, h⟩ := ite_out h
  · obtain ⟨r7, h8, h⟩ := bo h
    injection h with h; subst h; exact runFz_sound mixedOrders Tryz.func183 rfl (ids := []) (fz := [3]) (π := [.callv (.j r4), .t, .obj [] (.arr 3 [r4] (List.length [r4]) false), .callf [2] (.sl 3 r7)]) (hrun := by kernel_rfl) (hps := pc (k_domains_Lookup h5)<|pc h6<|pc (bs_ob 3 [r4])<|pc (k_lookup_room_ports h8)<|pc ((rn (List.length [r4])))<|pc (rn 0)<|pn)
  · obtain ⟨r9, h10, h⟩ := bo h
    obtain ⟨h11, h⟩|⟨h11, h⟩ := ite_out h
    · injection h with h; subst h; exact runFz_sound mixedOrders Tryz.func183 rfl (ids := []) (fz := [2, 3]) (π := [.callv (.j r4), .f, .callv (.tup [.v (.int .i64 r9.1), .v (.bool r9.2)]), .t]) (hrun := by kernel_rfl) (hps := pc (k_domains_Lookup h5)<|pc h6<|pc (k_table_Find h10)<|pc h11<|pc (rn 0)<|pc (rn 0)<|pn)
    · obtain ⟨v16, h17, h⟩ := bo h
      obtain ⟨h19, h⟩|⟨h19, h⟩ := ite_out h
      · obtain ⟨r20, h21, h⟩ := bo h
        injection h with h; subst h; exact runFz_sound mixedOrders Tryz.func183 rfl (ids := []) (fz := [3]) (π := [.callv (.j r4), .f, .callv (.tup [.v (.int .i64 r9.1), .v (.bool r9.2)]), .f, .cut [0, 6, 7, 8, 10] [0, 1] .nor [(0, .rp (c219 a1) 0), (6, .os 0 0), (7, .os 1 0), (8, .v (.bool r9.2)), (10, .v (.int .i64 r9.1)), (36, .v (.bool v16))] [.n 3, .n 3], .t, .obj [] (.arr 3 [r9.1] (List.length [r9.1]) false), .callf [2] (.sl 3 r20)]) (hrun := by kernel_rfl) (hps := pc (k_domains_Lookup h5)<|pc h6<|pc (k_table_Find h10)<|pc h11<|pc (k_lookup_room_known_J1 h17)<|pc h19<|pc (bs_ob 3 [r9.1])<|pc (k_lookup_room_ports h21)<|pc ((rn (List.length [r9.1])))<|pc (rn 0)<|pn)
      · obtain ⟨v28, h29, h⟩ := bo h
        obtain ⟨h31, h⟩|⟨h31, h⟩ := ite_out h
        · obtain ⟨h32, h⟩|⟨h32, h⟩ := ite_out h
          · injection h with h; subst h; exact runFz_sound mixedOrders Tryz.func183 rfl (ids := []) (fz := [2, 3]) (π := [.callv (.j r4), .f, .callv (.tup [.v (.int .i64 r9.1), .v (.bool r9.2)]), .f, .cut [0, 6, 7, 8, 10] [0, 1] .nor [(0, .rp (c219 a1) 0), (6, .os 0 0), (7, .os 1 0), (8, .v (.bool r9.2)), (10, .v (.int .i64 r9.1)), (36, .v (.bool v16))] [.n 3, .n 3], .f, .cut [0, 6, 7, 8, 10] [0, 1] .nor [(0, .rp (c219 a1) 0), (6, .os 0 0), (7, .os 1 0), (8, .v (.bool r9.2)), (10, .v (.int .i64 r9.1)), (51, .v (.bool v28))] [.n 3, .n 3], .t, .t]) (hrun := by kernel_rfl) (hps := pc (k_domains_Lookup h5)<|pc h6<|pc (k_table_Find h10)<|pc h11<|pc (k_lookup_room_known_J1 h17)<|pc h19<|pc (k_lookup_room_known_J2 h29)<|pc h31<|pc h32<|pc (rn 0)<|pc (rn 0)<|pn)
          · injection h with h; subst h; exact runFz_sound mixedOrders Tryz.func183 rfl (ids := []) (fz := [3, 2]) (π := [.callv (.j r4), .f, .callv (.tup [.v (.int .i64 r9.1), .v (.bool r9.2)]), .f, .cut [0, 6, 7, 8, 10] [0, 1] .nor [(0, .rp (c219 a1) 0), (6, .os 0 0), (7, .os 1 0), (8, .v (.bool r9.2)), (10, .v (.int .i64 r9.1)), (36, .v (.bool v16))] [.n 3, .n 3], .f, .cut [0, 6, 7, 8, 10] [0, 1] .nor [(0, .rp (c219 a1) 0), (6, .os 0 0), (7, .os 1 0), (8, .v (.bool r9.2)), (10, .v (.int .i64 r9.1)), (51, .v (.bool v28))] [.n 3, .n 3], .t, .f, .obj [] (.arr 3 [(wr_i64 ((-1) - r9.1) : Int)] (List.length [(wr_i64 ((-1) - r9.1) : Int)]) false)]) (hrun := by kernel_rfl) (hps := pc (k_domains_Lookup h5)<|pc h6<|pc (k_table_Find h10)<|pc h11<|pc (k_lookup_room_known_J1 h17)<|pc h19<|pc (k_lookup_room_known_J2 h29)<|pc h31<|pc h32<|pc (bs_ob 3 [(wr_i64 ((-1) - r9.1) : Int)])<|pc (rn 0)<|pc ((rn (List.length [(wr_i64 ((-1) - r9.1) : Int)])))<|pn)
        · injection h with h; subst h; exact runFz_sound mixedOrders Tryz.func183 rfl (ids := []) (fz := [2, 3]) (π := [.callv (.j r4), .f, .callv (.tup [.v (.int .i64 r9.1), .v (.bool r9.2)]), .f, .cut [0, 6, 7, 8, 10] [0, 1] .nor [(0, .rp (c219 a1) 0), (6, .os 0 0), (7, .os 1 0), (8, .v (.bool r9.2)), (10, .v (.int .i64 r9.1)), (36, .v (.bool v16))] [.n 3, .n 3], .f, .cut [0, 6, 7, 8, 10] [0, 1] .nor [(0, .rp (c219 a1) 0), (6, .os 0 0), (7, .os 1 0), (8, .v (.bool r9.2)), (10, .v (.int .i64 r9.1)), (51, .v (.bool v28))] [.n 3, .n 3], .f]) (hrun := by kernel_rfl) (hps := pc (k_domains_Lookup h5)<|pc h6<|pc (k_table_Find h10)<|pc h11<|pc (k_lookup_room_known_J1 h17)<|pc h19<|pc (k_lookup_room_known_J2 h29)<|pc h31<|pc (rn 0)<|pc (rn 0)<|pn)

theorem k_lookup_Decide {a1 : Api_Net} {a2 : List Bool} {a3 : List Api_Entry} {a4 : Int} {a5 : Int} {a6 : Int} {r : ((List Int) × (List Int) × Int)} (h : lookup_Decide a1 a2 a3 a4 a5 a6 = some r) :
    CallsOK Tryz.prog UU 111 [.agg (c31 a1), .sl 4 a2, .sl 84 a3, .j a4, .j a5, .v (.int .u64 a6)] [] ((fun r => match r with | (r35, r36, r37) => .tup [.sl 3 r35, .sl 3 r36, .j r37]) r) ((fun r => match r with | (r35, r36, r37) => []) r) := by
  unfold lookup_Decide at h
  obtain ⟨r11, h12, h⟩ := bo h
  rcases r11 with _ | ⟨l13, v14⟩
  · injection h with h; subst h; exact runFz_sound mixedOrders Tryz.func111 rfl (ids := []) (fz := [3, 4]) (π := [.callm [] (.tup [.v (.pointer none), .v (.bool false)]) [], .t]) (hrun := by kernel_rfl) (hps := pc (k_lookup_open h12)<|pc ((rfl : (!false) = true))<|pc (rn 0)<|pc (rn 0)<|pn)
  · obtain ⟨h15, h⟩|⟨h15, h⟩ := ite_out h
    · injection h with h; subst h; exact runFz_sound mixedOrders Tryz.func111 rfl (ids := []) (fz := [5, 6]) (π := [.callm [] (.tup [.op 0 1 0 0, .v (.bool v14)]) [.box 219 [.sl 91 a1.devices, .sl 56 a1.ports, .sl 112 a1.links, .sl 93 a1.domains, .sl 97 a1.statics, .sl 100 a1.floods, .sl 103 a1.vrfs, .sl 118 a1.irbs, .sl 4 a2, .j a4, .j a5, .os 1 l13.length] false, .arr 3 l13 l13.length false], .t]) (hrun := by kernel_rfl) (hps := pc (k_lookup_open h12)<|pc h15<|pc (rn 0)<|pc (rn 0)<|pn)
    · obtain ⟨r16, h17, h⟩ := bo h
      obtain ⟨h18, h⟩|⟨h18, h⟩ := ite_out h
      · obtain ⟨r19, h20, h⟩ := bo h
        obtain ⟨r21, r22, r23⟩ := r19
        obtain ⟨h24, h⟩|⟨h24, h⟩ := ite_out h
        · injection h with h; subst h; exact runFz_sound mixedOrders Tryz.func111 rfl (ids := []) (fz := []) (π := [.callm [] (.tup [.op 0 1 0 0, .v (.bool v14)]) [.box 219 [.sl 91 a1.devices, .sl 56 a1.ports, .sl 112 a1.links, .sl 93 a1.domains, .sl 97 a1.statics, .sl 100 a1.floods, .sl 103 a1.vrfs, .sl 118 a1.irbs, .sl 4 a2, .j a4, .j a5, .os 1 l13.length] false, .arr 3 l13 l13.length false], .f, .b r16, .t, .frz [3, 4], .callm [] (.tup [.sl 3 r21, .sl 3 r22, .v (.bool r23)]) [], .t]) (hrun := by kernel_rfl) (hps := pc (k_lookup_open h12)<|pc h15<|pc (k_mac_Group h17)<|pc h18<|pc (rn l13.length)<|pc (k_lookup_room_known h20)<|pc h24<|pn)
        · obtain ⟨r25, h26, h⟩ := bo h
          obtain ⟨l29, h28, h⟩ := bo h
          injection h with h; subst h; exact runFz_sound mixedOrders Tryz.func111 rfl (ids := []) (fz := [5]) (π := [.callm [] (.tup [.op 0 1 0 0, .v (.bool v14)]) [.box 219 [.sl 91 a1.devices, .sl 56 a1.ports, .sl 112 a1.links, .sl 93 a1.domains, .sl 97 a1.statics, .sl 100 a1.floods, .sl 103 a1.vrfs, .sl 118 a1.irbs, .sl 4 a2, .j a4, .j a5, .os 1 l13.length] false, .arr 3 l13 l13.length false], .f, .b r16, .t, .frz [3, 4], .callm [] (.tup [.sl 3 r21, .sl 3 r22, .v (.bool r23)]) [], .f, .callf [3, 4] (.sl 3 r25), .callo (.os 0 l29.length) [.arr 3 l29 l29.length false]]) (hrun := by kernel_rfl) (hps := pc (k_lookup_open h12)<|pc h15<|pc (k_mac_Group h17)<|pc h18<|pc (rn l13.length)<|pc (k_lookup_room_known h20)<|pc h24<|pc (k_lookup_room_ports h26)<|pc (rn l13.length)<|pc (rn l13.length)<|pc (k_lookup_room_peers h28)<|pc (im3 l29)<|pc (rn l13.length)<|pc (rn l29.length)<|pn)
      · obtain ⟨r30, h31, h⟩ := bo h
        obtain ⟨l34, h33, h⟩ := bo h
        injection h with h; subst h; exact runFz_sound mixedOrders Tryz.func111 rfl (ids := []) (fz := [5]) (π := [.callm [] (.tup [.op 0 1 0 0, .v (.bool v14)]) [.box 219 [.sl 91 a1.devices, .sl 56 a1.ports, .sl 112 a1.links, .sl 93 a1.domains, .sl 97 a1.statics, .sl 100 a1.floods, .sl 103 a1.vrfs, .sl 118 a1.irbs, .sl 4 a2, .j a4, .j a5, .os 1 l13.length] false, .arr 3 l13 l13.length false], .f, .b r16, .f, .callf [3, 4] (.sl 3 r30), .callo (.os 0 l34.length) [.arr 3 l34 l34.length false]]) (hrun := by kernel_rfl) (hps := pc (k_lookup_open h12)<|pc h15<|pc (k_mac_Group h17)<|pc h18<|pc (k_lookup_room_ports h31)<|pc (rn l13.length)<|pc (rn l13.length)<|pc (k_lookup_room_peers h33)<|pc (im3 l34)<|pc (rn l13.length)<|pc (rn l34.length)<|pn)

theorem k_leave_place {a1 : Int} {a2 : Int} {r : Bool} (h : leave_place a1 a2 = some r) :
    CallsOK Tryz.prog UU 122 [.j a1, .j a2] [] (.v (.bool r)) [] := by
  unfold leave_place at h
  obtain ⟨h3, h⟩|⟨h3, h⟩ := ite_out h
  · injection h with h; subst h; exact rf Tryz.func122 none [.t] (pc h3<|pn)
  · injection h with h; subst h; exact rf Tryz.func122 none [.f] (pc h3<|pn)

theorem k_tag_Is {a1 : Api_Frame} {r : Bool} (h : tag_Is a1 = some r) :
    CallsOK Tryz.prog UU 124 [.agg (c62 a1)] [] (.v (.bool r)) [] := by
  unfold tag_Is at h
  injection h with h; subst h; exact rf Tryz.func124 none [] (pn)

theorem k_mac_shift {a1 : Int} {r : Int} (h : mac_shift a1 = some r) :
    CallsOK Tryz.prog UU 275 [.j a1] [] (.v (.int .u64 r)) [] := by
  unfold mac_shift at h
  injection h with h; subst h; exact rf Tryz.func275 none [] (pn)

end Go.Eng
