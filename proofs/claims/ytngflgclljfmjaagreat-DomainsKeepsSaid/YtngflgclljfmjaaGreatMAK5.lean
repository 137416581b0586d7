/- Part of the proof of DomainsKeeps: printed mirrors of the functions, or their contracts. No conditions. -/
import Derived.Test.YtngflgclljfmjaaGreatMAK4
set_option linter.unusedVariables false
set_option maxRecDepth 100000
namespace Go.Eng
open Go Go.Proofs
theorem k_palinglaw18_works {r : Bool} (h : palinglaw18_works = some r) :
    CallsOK Tryz.prog UU 11 [] [] (.v (.bool r)) [] := by
  have hr : some true = some r := (by kernel_rfl : palinglaw18_works = some true).symm.trans h
  unfold palinglaw18_works at h
  obtain ⟨r1, h2, h⟩ := bind_out h
  obtain ⟨l3, l4, l5, l6, l7, l8, l9, l10, n11, n12, n13, n14, v15⟩ := r1
  obtain ⟨r16, h17, h⟩ := bind_out h
  obtain ⟨l18, l19, l20, l21, l22, l23, l24, l25, n26, n27, n28, n29, v30⟩ := r16
  rcases ite_out h with ⟨h31, h⟩ | ⟨h31, h⟩
  · obtain ⟨r32, h33, h⟩ := bind_out h
    rcases ite_out h with ⟨h34, h⟩ | ⟨h34, h⟩
    · obtain ⟨r35, h36, h⟩ := bind_out h
      rcases ite_out h with ⟨h37, h⟩ | ⟨h37, h⟩
      · obtain ⟨r38, h39, h⟩ := bind_out h
        rcases ite_out h with ⟨h40, h⟩ | ⟨h40, h⟩
        · obtain ⟨r41, h42, h⟩ := bind_out h
          rcases ite_out h with ⟨h43, h⟩ | ⟨h43, h⟩
          · injection h with h; subst h; exact rf Tryz.func11 rfl none [.obj [] (.arr 91 [(⟨0, 0, (⟨#[97]⟩ : ByteArray), 0, 0⟩ : Api_Device)] (List.length [(⟨0, 0, (⟨#[97]⟩ : ByteArray), 0, 0⟩ : Api_Device)]) false), .obj [] (.arr 56 [(⟨0, 0, 10, 0, (-1), (⟨#[112]⟩ : ByteArray), []⟩ : Api_Port)] (List.length [(⟨0, 0, 10, 0, (-1), (⟨#[112]⟩ : ByteArray), []⟩ : Api_Port)]) false), .obj [] (.arr 93 [(⟨0, 10, 0, (-1), 0, []⟩ : Api_Domain)] (List.length [(⟨0, 10, 0, (-1), 0, []⟩ : Api_Domain)]) false), .frz [0, 1, 12, 2, 13, 14, 15, 16], .callm [] (.tup [.agg [.os 0 l3.length, .os 1 n11, .os 2 l5.length, .os 3 n12, .os 4 l7.length, .os 5 n13, .os 6 n14, .os 7 l10.length], .j v15]) [.arr 91 l3 l3.length false, .arr 56 l4 n11 false, .arr 112 l5 l5.length false, .arr 93 l6 n12 false, .arr 97 l7 l7.length false, .arr 100 l8 n13 false, .arr 103 l9 n14 false, .arr 118 l10 l10.length false], .frz [17, 18, 19, 20, 21, 22, 23, 24], .callm [] (.tup [.agg [.os 0 l18.length, .os 1 n26, .os 2 l20.length, .os 3 n27, .os 4 l22.length, .os 5 n28, .os 6 n29, .os 7 l25.length], .j v30]) [.arr 91 l18 l18.length false, .arr 56 l19 n26 false, .arr 112 l20 l20.length false, .arr 93 l21 n27 false, .arr 97 l22 l22.length false, .arr 100 l23 n28 false, .arr 103 l24 n29 false, .arr 118 l25 l25.length false], .dec true, .callv (.j r32), .dec true, .callv (.j r35), .dec true, .callv (.v (.string r38)), .dec true, .callf [0, 1, 12, 2, 13, 14, 15, 16] (.sl 3 r41), .dec true] (by kernel_rfl) (pc (bs_ob 91 [(⟨0, 0, (⟨#[97]⟩ : ByteArray), 0, 0⟩ : Api_Device)]) <| pc (bs_ob 56 [(⟨0, 0, 10, 0, (-1), (⟨#[112]⟩ : ByteArray), []⟩ : Api_Port)]) <| pc (bs_ob 93 [(⟨0, 10, 0, (-1), 0, []⟩ : Api_Domain)]) <| pc ((rn (List.length [(⟨0, 0, (⟨#[97]⟩ : ByteArray), 0, 0⟩ : Api_Device)]))) <| pc ((rn (List.length [(⟨0, 0, 10, 0, (-1), (⟨#[112]⟩ : ByteArray), []⟩ : Api_Port)]))) <| pc ((rn 0)) <| pc ((rn (List.length [(⟨0, 10, 0, (-1), 0, []⟩ : Api_Domain)]))) <| pc ((rn 0)) <| pc ((rn 0)) <| pc ((rn 0)) <| pc ((rn 0)) <| pc (k_domains_Static h2) <| pc ((rn l3.length)) <| pc ((rn n11)) <| pc ((rn l5.length)) <| pc ((rn n12)) <| pc ((rn l7.length)) <| pc ((rn n13)) <| pc ((rn n14)) <| pc ((rn l10.length)) <| pc (k_domains_Static h17) <| pc (h31) <| pc (k_domains_Lookup h33) <| pc ((rn l3.length)) <| pc ((rn n11)) <| pc ((rn l5.length)) <| pc ((rn n12)) <| pc ((rn l7.length)) <| pc ((rn n13)) <| pc ((rn n14)) <| pc ((rn l10.length)) <| pc (h34) <| pc (k_domains_Lookup h36) <| pc ((rn (List.length [(⟨0, 0, (⟨#[97]⟩ : ByteArray), 0, 0⟩ : Api_Device)]))) <| pc ((rn (List.length [(⟨0, 0, 10, 0, (-1), (⟨#[112]⟩ : ByteArray), []⟩ : Api_Port)]))) <| pc ((rn 0)) <| pc ((rn (List.length [(⟨0, 10, 0, (-1), 0, []⟩ : Api_Domain)]))) <| pc ((rn 0)) <| pc ((rn 0)) <| pc ((rn 0)) <| pc ((rn 0)) <| pc (h37) <| pc (k_domains_Text h39) <| pc ((rn (List.length [(⟨0, 0, (⟨#[97]⟩ : ByteArray), 0, 0⟩ : Api_Device)]))) <| pc ((rn (List.length [(⟨0, 0, 10, 0, (-1), (⟨#[112]⟩ : ByteArray), []⟩ : Api_Port)]))) <| pc ((rn 0)) <| pc ((rn (List.length [(⟨0, 10, 0, (-1), 0, []⟩ : Api_Domain)]))) <| pc ((rn 0)) <| pc ((rn 0)) <| pc ((rn 0)) <| pc ((rn 0)) <| pc (h40) <| pc (k_domains_Hosts h42) <| pc ((rn (List.length [(⟨0, 0, (⟨#[97]⟩ : ByteArray), 0, 0⟩ : Api_Device)]))) <| pc ((rn (List.length [(⟨0, 0, 10, 0, (-1), (⟨#[112]⟩ : ByteArray), []⟩ : Api_Port)]))) <| pc ((rn 0)) <| pc ((rn (List.length [(⟨0, 10, 0, (-1), 0, []⟩ : Api_Domain)]))) <| pc ((rn 0)) <| pc ((rn 0)) <| pc ((rn 0)) <| pc ((rn 0)) <| pc (h43) <| pn)
          · exact absurd (hr.trans h.symm) (by decide)
        · exact absurd (hr.trans h.symm) (by decide)
      · exact absurd (hr.trans h.symm) (by decide)
    · exact absurd (hr.trans h.symm) (by decide)
  · exact absurd (hr.trans h.symm) (by decide)

theorem k_palinglaw15_Great_L1 {a1 : Api_Net} : LoopOK Tryz.prog UU 0 123 (subC (codeOf Tryz.f15) [1, 1, 0, 1, 0, 0]) (ρ := Unit ⊕ Unit) (palinglaw15_Great_L1 a1)
    (fun v10 : Int => ([(1, .op 0 1 0 0), (2, .v (.bool false)), (3, .j v10)] : Fr DD)) (fun v10 : Int => ([.box 31 (c31 a1) false] : Heap DD)) (fun r => match r with | Sum.inl _ => .ret | Sum.inr _ => .exit 0) (fun r => match r with | Sum.inl _ => [(2, .v (.bool true))] | Sum.inr _ => [(1, .op 0 1 0 0), (2, .v (.bool false))]) (fun r => match r with | Sum.inl _ => [] | Sum.inr _ => [.box 31 (c31 a1) false]) := by
  refine loop_sound3 (fun s q h => ?_) (fun r => ?_)
  · replace h : palinglaw15_Great_L1 a1 s = some q := h; revert h; revert s; intro v10 h
    unfold palinglaw15_Great_L1 at h
    rcases ite_out h with ⟨h11, h⟩ | ⟨h11, h⟩
    · obtain ⟨x12, h13, h⟩ := bind_out h
      rcases ite_out h with ⟨h14, h⟩ | ⟨h14, h⟩
      · injection h with h; subst h; exact rl [2] [] [.dec true, .row (c56 x12), .dec true] (by kernel_rfl) (pc (h11) <| pc (ob56 h13) <| pc (h14) <| pn)
      · injection h with h; subst h; exact rl [1, 2, 3] [0] [.dec true, .row (c56 x12), .dec false] (by kernel_rfl) (pc (h11) <| pc (ob56 h13) <| pc (h14) <| pn)
    · injection h with h; subst h; exact rl [1, 2] [0] [.dec false] (by kernel_rfl) (pc (h11) <| pn)
  · rcases r with _ | _ <;> exact Ex.noConfusion

theorem k_palinglaw15_Great_L2 {a1 : Api_Net} : LoopOK Tryz.prog UU 0 123 (subC (codeOf Tryz.f15) [1, 1, 1, 0, 1, 0, 0]) (ρ := Unit ⊕ Unit) (palinglaw15_Great_L2 a1)
    (fun v17 : Int => ([(1, .op 0 1 0 0), (2, .v (.bool false)), (4, .j v17)] : Fr DD)) (fun v17 : Int => ([.box 31 (c31 a1) false] : Heap DD)) (fun r => match r with | Sum.inl _ => .ret | Sum.inr _ => .exit 2) (fun r => match r with | Sum.inl _ => [(2, .v (.bool true))] | Sum.inr _ => [(1, .op 0 1 0 0), (2, .v (.bool false))]) (fun r => match r with | Sum.inl _ => [] | Sum.inr _ => [.box 31 (c31 a1) false]) := by
  refine loop_sound3 (fun s q h => ?_) (fun r => ?_)
  · replace h : palinglaw15_Great_L2 a1 s = some q := h; revert h; revert s; intro v17 h
    unfold palinglaw15_Great_L2 at h
    rcases ite_out h with ⟨h18, h⟩ | ⟨h18, h⟩
    · obtain ⟨x19, h20, h⟩ := bind_out h
      rcases ite_out h with ⟨h21, h⟩ | ⟨h21, h⟩
      · injection h with h; subst h; exact rl [2] [] [.dec true, .row (c93 x19), .dec true] (by kernel_rfl) (pc (h18) <| pc (ob93 h20) <| pc (h21) <| pn)
      · injection h with h; subst h; exact rl [1, 2, 4] [0] [.dec true, .row (c93 x19), .dec false] (by kernel_rfl) (pc (h18) <| pc (ob93 h20) <| pc (h21) <| pn)
    · injection h with h; subst h; exact rl [1, 2] [0] [.dec false] (by kernel_rfl) (pc (h18) <| pn)
  · rcases r with _ | _ <;> exact Ex.noConfusion

theorem k_palinglaw15_Great_L3 {a1 : Api_Net} : LoopOK Tryz.prog UU 0 123 (subC (codeOf Tryz.f15) [1, 1, 1, 1, 0, 1, 0, 0]) (ρ := Unit ⊕ Unit) (palinglaw15_Great_L3 a1)
    (fun v24 : Int => ([(1, .op 0 1 0 0), (2, .v (.bool false)), (5, .j v24)] : Fr DD)) (fun v24 : Int => ([.box 31 (c31 a1) false] : Heap DD)) (fun r => match r with | Sum.inl _ => .ret | Sum.inr _ => .exit 4) (fun r => match r with | Sum.inl _ => [(2, .v (.bool true))] | Sum.inr _ => [(1, .op 0 1 0 0), (2, .v (.bool false))]) (fun r => match r with | Sum.inl _ => [] | Sum.inr _ => [.box 31 (c31 a1) false]) := by
  refine loop_sound3 (fun s q h => ?_) (fun r => ?_)
  · replace h : palinglaw15_Great_L3 a1 s = some q := h; revert h; revert s; intro v24 h
    unfold palinglaw15_Great_L3 at h
    rcases ite_out h with ⟨h25, h⟩ | ⟨h25, h⟩
    · obtain ⟨x26, h27, h⟩ := bind_out h
      rcases ite_out h with ⟨h28, h⟩ | ⟨h28, h⟩
      · injection h with h; subst h; exact rl [2] [] [.dec true, .row (c100 x26), .dec true] (by kernel_rfl) (pc (h25) <| pc (ob100 h27) <| pc (h28) <| pn)
      · injection h with h; subst h; exact rl [1, 2, 5] [0] [.dec true, .row (c100 x26), .dec false] (by kernel_rfl) (pc (h25) <| pc (ob100 h27) <| pc (h28) <| pn)
    · injection h with h; subst h; exact rl [1, 2] [0] [.dec false] (by kernel_rfl) (pc (h25) <| pn)
  · rcases r with _ | _ <;> exact Ex.noConfusion

theorem k_palinglaw15_Great_L4 {a1 : Api_Net} : LoopOK Tryz.prog UU 0 123 (subC (codeOf Tryz.f15) [1, 1, 1, 1, 1, 0, 1, 0, 0]) (ρ := Unit ⊕ Unit) (palinglaw15_Great_L4 a1)
    (fun v31 : Int => ([(1, .op 0 1 0 0), (2, .v (.bool false)), (6, .j v31)] : Fr DD)) (fun v31 : Int => ([.box 31 (c31 a1) false] : Heap DD)) (fun r => match r with | Sum.inl _ => .ret | Sum.inr _ => .exit 6) (fun r => match r with | Sum.inl _ => [(2, .v (.bool true))] | Sum.inr _ => [(2, .v (.bool false))]) (fun r => match r with | Sum.inl _ => [] | Sum.inr _ => []) := by
  refine loop_sound3 (fun s q h => ?_) (fun r => ?_)
  · replace h : palinglaw15_Great_L4 a1 s = some q := h; revert h; revert s; intro v31 h
    unfold palinglaw15_Great_L4 at h
    rcases ite_out h with ⟨h32, h⟩ | ⟨h32, h⟩
    · obtain ⟨x33, h34, h⟩ := bind_out h
      rcases ite_out h with ⟨h35, h⟩ | ⟨h35, h⟩
      · injection h with h; subst h; exact rl [2] [] [.dec true, .row (c103 x33), .dec true] (by kernel_rfl) (pc (h32) <| pc (ob103 h34) <| pc (h35) <| pn)
      · obtain ⟨x36, h37, h⟩ := bind_out h
        rcases ite_out h with ⟨h38, h⟩ | ⟨h38, h⟩
        · injection h with h; subst h; exact rl [2] [] [.dec true, .row (c103 x33), .dec false, .row (c103 x36), .dec true] (by kernel_rfl) (pc (h32) <| pc (ob103 h34) <| pc (h35) <| pc (ob103 h37) <| pc (h38) <| pn)
        · injection h with h; subst h; exact rl [1, 2, 6] [0] [.dec true, .row (c103 x33), .dec false, .row (c103 x36), .dec false] (by kernel_rfl) (pc (h32) <| pc (ob103 h34) <| pc (h35) <| pc (ob103 h37) <| pc (h38) <| pn)
    · injection h with h; subst h; exact rl [2] [] [.dec false] (by kernel_rfl) (pc (h32) <| pn)
  · rcases r with _ | _ <;> exact Ex.noConfusion

theorem k_palinglaw15_Great {a1 : Api_Net} {r : Bool} (h : palinglaw15_Great a1 = some r) :
    CallsOK Tryz.prog UU 15 [.agg (c31 a1)] [] (.v (.bool r)) [] := by
  unfold palinglaw15_Great at h
  rcases ite_out h with ⟨h2, h⟩ | ⟨h2, h⟩
  · injection h with h; subst h; exact rf Tryz.func15 rfl none [.dec true] (by kernel_rfl) (pc (h2) <| pn)
  · rcases ite_out h with ⟨h3, h⟩ | ⟨h3, h⟩
    · injection h with h; subst h; exact rf Tryz.func15 rfl none [.dec false, .dec true] (by kernel_rfl) (pc (h2) <| pc (h3) <| pn)
    · rcases ite_out h with ⟨h4, h⟩ | ⟨h4, h⟩
      · injection h with h; subst h; exact rf Tryz.func15 rfl none [.dec false, .dec false, .dec true] (by kernel_rfl) (pc (h2) <| pc (h3) <| pc (h4) <| pn)
      · rcases ite_out h with ⟨h5, h⟩ | ⟨h5, h⟩
        · injection h with h; subst h; exact rf Tryz.func15 rfl none [.dec false, .dec false, .dec false, .dec true] (by kernel_rfl) (pc (h2) <| pc (h3) <| pc (h4) <| pc (h5) <| pn)
        · rcases ite_out h with ⟨h6, h⟩ | ⟨h6, h⟩
          · injection h with h; subst h; exact rf Tryz.func15 rfl none [.dec false, .dec false, .dec false, .dec false, .dec true] (by kernel_rfl) (pc (h2) <| pc (h3) <| pc (h4) <| pc (h5) <| pc (h6) <| pn)
          · rcases ite_out h with ⟨h7, h⟩ | ⟨h7, h⟩
            · injection h with h; subst h; exact rf Tryz.func15 rfl none [.dec false, .dec false, .dec false, .dec false, .dec false, .dec true] (by kernel_rfl) (pc (h2) <| pc (h3) <| pc (h4) <| pc (h5) <| pc (h6) <| pc (h7) <| pn)
            · rcases ite_out h with ⟨h8, h⟩ | ⟨h8, h⟩
              · injection h with h; subst h; exact rf Tryz.func15 rfl none [.dec false, .dec false, .dec false, .dec false, .dec false, .dec false, .dec true] (by kernel_rfl) (pc (h2) <| pc (h3) <| pc (h4) <| pc (h5) <| pc (h6) <| pc (h7) <| pc (h8) <| pn)
              · rcases ite_out h with ⟨h9, h⟩ | ⟨h9, h⟩
                · injection h with h; subst h; exact rf Tryz.func15 rfl none [.dec false, .dec false, .dec false, .dec false, .dec false, .dec false, .dec false, .dec true] (by kernel_rfl) (pc (h2) <| pc (h3) <| pc (h4) <| pc (h5) <| pc (h6) <| pc (h7) <| pc (h8) <| pc (h9) <| pn)
                · obtain ⟨r16, h15, h⟩ := bind_out h
                  rcases r16 with _ | _
                  · injection h with h; subst h; exact rf Tryz.func15 rfl none [.dec false, .dec false, .dec false, .dec false, .dec false, .dec false, .dec false, .dec false, .sum [1, 2, 3] [0] .ret [(2, .v (.bool true))] []] (by kernel_rfl) (pc (h2) <| pc (h3) <| pc (h4) <| pc (h5) <| pc (h6) <| pc (h7) <| pc (h8) <| pc (h9) <| pc (k_palinglaw15_Great_L1 _ _ h15) <| pn)
                  · obtain ⟨r23, h22, h⟩ := bind_out h
                    rcases r23 with _ | _
                    · injection h with h; subst h; exact rf Tryz.func15 rfl none [.dec false, .dec false, .dec false, .dec false, .dec false, .dec false, .dec false, .dec false, .sum [1, 2, 3] [0] (.exit 0) [(1, .op 0 1 0 0), (2, .v (.bool false))] [.box 31 (c31 a1) false], .sum [1, 2, 4] [0] .ret [(2, .v (.bool true))] []] (by kernel_rfl) (pc (h2) <| pc (h3) <| pc (h4) <| pc (h5) <| pc (h6) <| pc (h7) <| pc (h8) <| pc (h9) <| pc (k_palinglaw15_Great_L1 _ _ h15) <| pc (k_palinglaw15_Great_L2 _ _ h22) <| pn)
                    · obtain ⟨r30, h29, h⟩ := bind_out h
                      rcases r30 with _ | _
                      · injection h with h; subst h; exact rf Tryz.func15 rfl none [.dec false, .dec false, .dec false, .dec false, .dec false, .dec false, .dec false, .dec false, .sum [1, 2, 3] [0] (.exit 0) [(1, .op 0 1 0 0), (2, .v (.bool false))] [.box 31 (c31 a1) false], .sum [1, 2, 4] [0] (.exit 2) [(1, .op 0 1 0 0), (2, .v (.bool false))] [.box 31 (c31 a1) false], .sum [1, 2, 5] [0] .ret [(2, .v (.bool true))] []] (by kernel_rfl) (pc (h2) <| pc (h3) <| pc (h4) <| pc (h5) <| pc (h6) <| pc (h7) <| pc (h8) <| pc (h9) <| pc (k_palinglaw15_Great_L1 _ _ h15) <| pc (k_palinglaw15_Great_L2 _ _ h22) <| pc (k_palinglaw15_Great_L3 _ _ h29) <| pn)
                      · obtain ⟨r40, h39, h⟩ := bind_out h
                        rcases r40 with _ | _
                        · injection h with h; subst h; exact rf Tryz.func15 rfl none [.dec false, .dec false, .dec false, .dec false, .dec false, .dec false, .dec false, .dec false, .sum [1, 2, 3] [0] (.exit 0) [(1, .op 0 1 0 0), (2, .v (.bool false))] [.box 31 (c31 a1) false], .sum [1, 2, 4] [0] (.exit 2) [(1, .op 0 1 0 0), (2, .v (.bool false))] [.box 31 (c31 a1) false], .sum [1, 2, 5] [0] (.exit 4) [(1, .op 0 1 0 0), (2, .v (.bool false))] [.box 31 (c31 a1) false], .sum [1, 2, 6] [0] .ret [(2, .v (.bool true))] []] (by kernel_rfl) (pc (h2) <| pc (h3) <| pc (h4) <| pc (h5) <| pc (h6) <| pc (h7) <| pc (h8) <| pc (h9) <| pc (k_palinglaw15_Great_L1 _ _ h15) <| pc (k_palinglaw15_Great_L2 _ _ h22) <| pc (k_palinglaw15_Great_L3 _ _ h29) <| pc (k_palinglaw15_Great_L4 _ _ h39) <| pn)
                        · injection h with h; subst h; exact rf Tryz.func15 rfl none [.dec false, .dec false, .dec false, .dec false, .dec false, .dec false, .dec false, .dec false, .sum [1, 2, 3] [0] (.exit 0) [(1, .op 0 1 0 0), (2, .v (.bool false))] [.box 31 (c31 a1) false], .sum [1, 2, 4] [0] (.exit 2) [(1, .op 0 1 0 0), (2, .v (.bool false))] [.box 31 (c31 a1) false], .sum [1, 2, 5] [0] (.exit 4) [(1, .op 0 1 0 0), (2, .v (.bool false))] [.box 31 (c31 a1) false], .sum [1, 2, 6] [0] (.exit 6) [(2, .v (.bool false))] []] (by kernel_rfl) (pc (h2) <| pc (h3) <| pc (h4) <| pc (h5) <| pc (h6) <| pc (h7) <| pc (h8) <| pc (h9) <| pc (k_palinglaw15_Great_L1 _ _ h15) <| pc (k_palinglaw15_Great_L2 _ _ h22) <| pc (k_palinglaw15_Great_L3 _ _ h29) <| pc (k_palinglaw15_Great_L4 _ _ h39) <| pn)

theorem k_slices_Equal_Device_L1 {a1 : List Api_Device} {a2 : List Api_Device} : LoopOK Tryz.prog UU 0 26 (subC (codeOf Tryz.f69) [1, 1, 0, 1, 0, 0]) (ρ := Unit ⊕ Unit) (slices_Equal_Device_L1 a1 a2)
    (fun v4 : Int => ([(0, .sl 91 a1), (1, .sl 91 a2), (4, .v (.bool false)), (12, .j (a1.length : Int)), (13, .j v4)] : Fr DD)) (fun v4 : Int => ([] : Heap DD)) (fun r => match r with | Sum.inl _ => .ret | Sum.inr _ => .exit 0) (fun r => match r with | Sum.inl _ => [(4, .v (.bool false))] | Sum.inr _ => [(4, .v (.bool false))]) (fun r => match r with | Sum.inl _ => [] | Sum.inr _ => []) := by
  refine loop_sound3 (fun s q h => ?_) (fun r => ?_)
  · replace h : slices_Equal_Device_L1 a1 a2 s = some q := h; revert h; revert s; intro v4 h
    unfold slices_Equal_Device_L1 at h
    rcases ite_out h with ⟨h5, h⟩ | ⟨h5, h⟩
    · obtain ⟨x6, h7, h⟩ := bind_out h
      obtain ⟨x8, h9, h⟩ := bind_out h
      rcases ite_out h with ⟨h10, h⟩ | ⟨h10, h⟩
      · injection h with h; subst h; exact rl [4] [] [.dec true, .row (c91 x6), .row (c91 x8), .dec true] (by kernel_rfl) (pc (h5) <| pc (ob91 h7) <| pc (ob91 h9) <| pc (h10) <| pn)
      · injection h with h; subst h; exact rl [0, 1, 4, 12, 13] [] [.dec true, .row (c91 x6), .row (c91 x8), .dec false] (by kernel_rfl) (pc (h5) <| pc (ob91 h7) <| pc (ob91 h9) <| pc (h10) <| pn)
    · injection h with h; subst h; exact rl [4] [] [.dec false] (by kernel_rfl) (pc (h5) <| pn)
  · rcases r with _ | _ <;> exact Ex.noConfusion

theorem k_slices_Equal_Device {a1 : List Api_Device} {a2 : List Api_Device} {r : Bool} (h : slices_Equal_Device a1 a2 = some r) :
    CallsOK Tryz.prog UU 69 [.sl 91 a1, .sl 91 a2] [] (.v (.bool r)) [] := by
  unfold slices_Equal_Device at h
  rcases ite_out h with ⟨h3, h⟩ | ⟨h3, h⟩
  · injection h with h; subst h; exact rf Tryz.func69 rfl none [.dec true] (by kernel_rfl) (pc (h3) <| pn)
  · obtain ⟨r12, h11, h⟩ := bind_out h
    rcases r12 with _ | _
    · injection h with h; subst h; exact rf Tryz.func69 rfl none [.dec false, .sum [0, 1, 4, 12, 13] [] .ret [(4, .v (.bool false))] []] (by kernel_rfl) (pc (h3) <| pc (k_slices_Equal_Device_L1 _ _ h11) <| pn)
    · injection h with h; subst h; exact rf Tryz.func69 rfl none [.dec false, .sum [0, 1, 4, 12, 13] [] (.exit 0) [(4, .v (.bool false))] []] (by kernel_rfl) (pc (h3) <| pc (k_slices_Equal_Device_L1 _ _ h11) <| pn)

theorem k_slices_Equal_Link_L1 {a1 : List Api_Link} {a2 : List Api_Link} : LoopOK Tryz.prog UU 0 26 (subC (codeOf Tryz.f70) [1, 1, 0, 1, 0, 0]) (ρ := Unit ⊕ Unit) (slices_Equal_Link_L1 a1 a2)
    (fun v4 : Int => ([(0, .sl 112 a1), (1, .sl 112 a2), (4, .v (.bool false)), (12, .j (a1.length : Int)), (13, .j v4)] : Fr DD)) (fun v4 : Int => ([] : Heap DD)) (fun r => match r with | Sum.inl _ => .ret | Sum.inr _ => .exit 0) (fun r => match r with | Sum.inl _ => [(4, .v (.bool false))] | Sum.inr _ => [(4, .v (.bool false))]) (fun r => match r with | Sum.inl _ => [] | Sum.inr _ => []) := by
  refine loop_sound3 (fun s q h => ?_) (fun r => ?_)
  · replace h : slices_Equal_Link_L1 a1 a2 s = some q := h; revert h; revert s; intro v4 h
    unfold slices_Equal_Link_L1 at h
    rcases ite_out h with ⟨h5, h⟩ | ⟨h5, h⟩
    · obtain ⟨x6, h7, h⟩ := bind_out h
      obtain ⟨x8, h9, h⟩ := bind_out h
      rcases ite_out h with ⟨h10, h⟩ | ⟨h10, h⟩
      · injection h with h; subst h; exact rl [4] [] [.dec true, .row (c112 x6), .row (c112 x8), .dec true] (by kernel_rfl) (pc (h5) <| pc (ob112 h7) <| pc (ob112 h9) <| pc (h10) <| pn)
      · injection h with h; subst h; exact rl [0, 1, 4, 12, 13] [] [.dec true, .row (c112 x6), .row (c112 x8), .dec false] (by kernel_rfl) (pc (h5) <| pc (ob112 h7) <| pc (ob112 h9) <| pc (h10) <| pn)
    · injection h with h; subst h; exact rl [4] [] [.dec false] (by kernel_rfl) (pc (h5) <| pn)
  · rcases r with _ | _ <;> exact Ex.noConfusion

theorem k_slices_Equal_Link {a1 : List Api_Link} {a2 : List Api_Link} {r : Bool} (h : slices_Equal_Link a1 a2 = some r) :
    CallsOK Tryz.prog UU 70 [.sl 112 a1, .sl 112 a2] [] (.v (.bool r)) [] := by
  unfold slices_Equal_Link at h
  rcases ite_out h with ⟨h3, h⟩ | ⟨h3, h⟩
  · injection h with h; subst h; exact rf Tryz.func70 rfl none [.dec true] (by kernel_rfl) (pc (h3) <| pn)
  · obtain ⟨r12, h11, h⟩ := bind_out h
    rcases r12 with _ | _
    · injection h with h; subst h; exact rf Tryz.func70 rfl none [.dec false, .sum [0, 1, 4, 12, 13] [] .ret [(4, .v (.bool false))] []] (by kernel_rfl) (pc (h3) <| pc (k_slices_Equal_Link_L1 _ _ h11) <| pn)
    · injection h with h; subst h; exact rf Tryz.func70 rfl none [.dec false, .sum [0, 1, 4, 12, 13] [] (.exit 0) [(4, .v (.bool false))] []] (by kernel_rfl) (pc (h3) <| pc (k_slices_Equal_Link_L1 _ _ h11) <| pn)

theorem k_slices_Equal_Static_L1 {a1 : List Api_Static} {a2 : List Api_Static} : LoopOK Tryz.prog UU 0 26 (subC (codeOf Tryz.f71) [1, 1, 0, 1, 0, 0]) (ρ := Unit ⊕ Unit) (slices_Equal_Static_L1 a1 a2)
    (fun v4 : Int => ([(0, .sl 97 a1), (1, .sl 97 a2), (4, .v (.bool false)), (12, .j (a1.length : Int)), (13, .j v4)] : Fr DD)) (fun v4 : Int => ([] : Heap DD)) (fun r => match r with | Sum.inl _ => .ret | Sum.inr _ => .exit 0) (fun r => match r with | Sum.inl _ => [(4, .v (.bool false))] | Sum.inr _ => [(4, .v (.bool false))]) (fun r => match r with | Sum.inl _ => [] | Sum.inr _ => []) := by
  refine loop_sound3 (fun s q h => ?_) (fun r => ?_)
  · replace h : slices_Equal_Static_L1 a1 a2 s = some q := h; revert h; revert s; intro v4 h
    unfold slices_Equal_Static_L1 at h
    rcases ite_out h with ⟨h5, h⟩ | ⟨h5, h⟩
    · obtain ⟨x6, h7, h⟩ := bind_out h
      obtain ⟨x8, h9, h⟩ := bind_out h
      rcases ite_out h with ⟨h10, h⟩ | ⟨h10, h⟩
      · injection h with h; subst h; exact rl [4] [] [.dec true, .row (c97 x6), .row (c97 x8), .dec true] (by kernel_rfl) (pc (h5) <| pc (ob97 h7) <| pc (ob97 h9) <| pc (h10) <| pn)
      · injection h with h; subst h; exact rl [0, 1, 4, 12, 13] [] [.dec true, .row (c97 x6), .row (c97 x8), .dec false] (by kernel_rfl) (pc (h5) <| pc (ob97 h7) <| pc (ob97 h9) <| pc (h10) <| pn)
    · injection h with h; subst h; exact rl [4] [] [.dec false] (by kernel_rfl) (pc (h5) <| pn)
  · rcases r with _ | _ <;> exact Ex.noConfusion

theorem k_slices_Equal_Static {a1 : List Api_Static} {a2 : List Api_Static} {r : Bool} (h : slices_Equal_Static a1 a2 = some r) :
    CallsOK Tryz.prog UU 71 [.sl 97 a1, .sl 97 a2] [] (.v (.bool r)) [] := by
  unfold slices_Equal_Static at h
  rcases ite_out h with ⟨h3, h⟩ | ⟨h3, h⟩
  · injection h with h; subst h; exact rf Tryz.func71 rfl none [.dec true] (by kernel_rfl) (pc (h3) <| pn)
  · obtain ⟨r12, h11, h⟩ := bind_out h
    rcases r12 with _ | _
    · injection h with h; subst h; exact rf Tryz.func71 rfl none [.dec false, .sum [0, 1, 4, 12, 13] [] .ret [(4, .v (.bool false))] []] (by kernel_rfl) (pc (h3) <| pc (k_slices_Equal_Static_L1 _ _ h11) <| pn)
    · injection h with h; subst h; exact rf Tryz.func71 rfl none [.dec false, .sum [0, 1, 4, 12, 13] [] (.exit 0) [(4, .v (.bool false))] []] (by kernel_rfl) (pc (h3) <| pc (k_slices_Equal_Static_L1 _ _ h11) <| pn)

theorem k_slices_Equal_Irb_L1 {a1 : List Api_Irb} {a2 : List Api_Irb} : LoopOK Tryz.prog UU 0 26 (subC (codeOf Tryz.f72) [1, 1, 0, 1, 0, 0]) (ρ := Unit ⊕ Unit) (slices_Equal_Irb_L1 a1 a2)
    (fun v4 : Int => ([(0, .sl 118 a1), (1, .sl 118 a2), (4, .v (.bool false)), (12, .j (a1.length : Int)), (13, .j v4)] : Fr DD)) (fun v4 : Int => ([] : Heap DD)) (fun r => match r with | Sum.inl _ => .ret | Sum.inr _ => .exit 0) (fun r => match r with | Sum.inl _ => [(4, .v (.bool false))] | Sum.inr _ => [(4, .v (.bool false))]) (fun r => match r with | Sum.inl _ => [] | Sum.inr _ => []) := by
  refine loop_sound3 (fun s q h => ?_) (fun r => ?_)
  · replace h : slices_Equal_Irb_L1 a1 a2 s = some q := h; revert h; revert s; intro v4 h
    unfold slices_Equal_Irb_L1 at h
    rcases ite_out h with ⟨h5, h⟩ | ⟨h5, h⟩
    · obtain ⟨x6, h7, h⟩ := bind_out h
      obtain ⟨x8, h9, h⟩ := bind_out h
      rcases ite_out h with ⟨h10, h⟩ | ⟨h10, h⟩
      · injection h with h; subst h; exact rl [4] [] [.dec true, .row (c118 x6), .row (c118 x8), .dec true] (by kernel_rfl) (pc (h5) <| pc (ob118 h7) <| pc (ob118 h9) <| pc (h10) <| pn)
      · injection h with h; subst h; exact rl [0, 1, 4, 12, 13] [] [.dec true, .row (c118 x6), .row (c118 x8), .dec false] (by kernel_rfl) (pc (h5) <| pc (ob118 h7) <| pc (ob118 h9) <| pc (h10) <| pn)
    · injection h with h; subst h; exact rl [4] [] [.dec false] (by kernel_rfl) (pc (h5) <| pn)
  · rcases r with _ | _ <;> exact Ex.noConfusion

theorem k_slices_Equal_Irb {a1 : List Api_Irb} {a2 : List Api_Irb} {r : Bool} (h : slices_Equal_Irb a1 a2 = some r) :
    CallsOK Tryz.prog UU 72 [.sl 118 a1, .sl 118 a2] [] (.v (.bool r)) [] := by
  unfold slices_Equal_Irb at h
  rcases ite_out h with ⟨h3, h⟩ | ⟨h3, h⟩
  · injection h with h; subst h; exact rf Tryz.func72 rfl none [.dec true] (by kernel_rfl) (pc (h3) <| pn)
  · obtain ⟨r12, h11, h⟩ := bind_out h
    rcases r12 with _ | _
    · injection h with h; subst h; exact rf Tryz.func72 rfl none [.dec false, .sum [0, 1, 4, 12, 13] [] .ret [(4, .v (.bool false))] []] (by kernel_rfl) (pc (h3) <| pc (k_slices_Equal_Irb_L1 _ _ h11) <| pn)
    · injection h with h; subst h; exact rf Tryz.func72 rfl none [.dec false, .sum [0, 1, 4, 12, 13] [] (.exit 0) [(4, .v (.bool false))] []] (by kernel_rfl) (pc (h3) <| pc (k_slices_Equal_Irb_L1 _ _ h11) <| pn)

theorem k_names_Same_1 {a1 : Api_Port} {a2 : Api_Port} {r : Bool} (h : names_Same_1 a1 a2 = some r) :
    CallsOK Tryz.prog UU 74 [.agg (c56 a1), .agg (c56 a2)] [] (.v (.bool r)) [] := by
  unfold names_Same_1 at h
  rcases ite_out h with ⟨h3, h⟩ | ⟨h3, h⟩
  · rcases ite_out h with ⟨h4, h⟩ | ⟨h4, h⟩
    · rcases ite_out h with ⟨h5, h⟩ | ⟨h5, h⟩
      · rcases ite_out h with ⟨h6, h⟩ | ⟨h6, h⟩
        · rcases ite_out h with ⟨h7, h⟩ | ⟨h7, h⟩
          · rcases ite_out h with ⟨h8, h⟩ | ⟨h8, h⟩
            · obtain ⟨r9, h10, h⟩ := bind_out h
              injection h with h; subst h; exact rf Tryz.func74 rfl none [.dec true, .dec true, .dec true, .dec true, .dec true, .dec true, .callv (.v (.bool r9))] (by kernel_rfl) (pc (h3) <| pc (h4) <| pc (h5) <| pc (h6) <| pc (h7) <| pc (h8) <| pc (k_slices_Equal_int h10) <| pn)
            · injection h with h; subst h; exact rf Tryz.func74 rfl none [.dec true, .dec true, .dec true, .dec true, .dec true, .dec false] (by kernel_rfl) (pc (h3) <| pc (h4) <| pc (h5) <| pc (h6) <| pc (h7) <| pc (h8) <| pn)
          · injection h with h; subst h; exact rf Tryz.func74 rfl none [.dec true, .dec true, .dec true, .dec true, .dec false] (by kernel_rfl) (pc (h3) <| pc (h4) <| pc (h5) <| pc (h6) <| pc (h7) <| pn)
        · injection h with h; subst h; exact rf Tryz.func74 rfl none [.dec true, .dec true, .dec true, .dec false] (by kernel_rfl) (pc (h3) <| pc (h4) <| pc (h5) <| pc (h6) <| pn)
      · injection h with h; subst h; exact rf Tryz.func74 rfl none [.dec true, .dec true, .dec false] (by kernel_rfl) (pc (h3) <| pc (h4) <| pc (h5) <| pn)
    · injection h with h; subst h; exact rf Tryz.func74 rfl none [.dec true, .dec false] (by kernel_rfl) (pc (h3) <| pc (h4) <| pn)
  · injection h with h; subst h; exact rf Tryz.func74 rfl none [.dec false] (by kernel_rfl) (pc (h3) <| pn)

theorem k_slices_EqualFunc_Port_Same_1_L1 {a1 : List Api_Port} {a2 : List Api_Port} : LoopOK Tryz.prog UU 0 32 (subC (codeOf Tryz.f73) [1, 1, 0, 1, 0, 0]) (ρ := Unit ⊕ Unit) (slices_EqualFunc_Port_Same_1_L1 a1 a2)
    (fun v4 : Int => ([(1, .sl 56 a2), (2, .fn (.func 74) [] []), (6, .v (.bool false)), (15, .sl 56 a1), (16, .j (a1.length : Int)), (17, .j v4)] : Fr DD)) (fun v4 : Int => ([] : Heap DD)) (fun r => match r with | Sum.inl _ => .ret | Sum.inr _ => .exit 0) (fun r => match r with | Sum.inl _ => [(6, .v (.bool false))] | Sum.inr _ => [(6, .v (.bool false))]) (fun r => match r with | Sum.inl _ => [] | Sum.inr _ => []) := by
  refine loop_sound3 (fun s q h => ?_) (fun r => ?_)
  · replace h : slices_EqualFunc_Port_Same_1_L1 a1 a2 s = some q := h; revert h; revert s; intro v4 h
    unfold slices_EqualFunc_Port_Same_1_L1 at h
    rcases ite_out h with ⟨h5, h⟩ | ⟨h5, h⟩
    · obtain ⟨x6, h7, h⟩ := bind_out h
      obtain ⟨x8, h9, h⟩ := bind_out h
      obtain ⟨r10, h11, h⟩ := bind_out h
      rcases ite_out h with ⟨h12, h⟩ | ⟨h12, h⟩
      · injection h with h; subst h; exact rl [6] [] [.dec true, .row (c56 x6), .row (c56 x8), .callv (.v (.bool r10)), .dec true] (by kernel_rfl) (pc (h5) <| pc (ob56 h7) <| pc (ob56 h9) <| pc (k_names_Same_1 h11) <| pc (h12) <| pn)
      · injection h with h; subst h; exact rl [1, 2, 6, 15, 16, 17] [] [.dec true, .row (c56 x6), .row (c56 x8), .callv (.v (.bool r10)), .dec false] (by kernel_rfl) (pc (h5) <| pc (ob56 h7) <| pc (ob56 h9) <| pc (k_names_Same_1 h11) <| pc (h12) <| pn)
    · injection h with h; subst h; exact rl [6] [] [.dec false] (by kernel_rfl) (pc (h5) <| pn)
  · rcases r with _ | _ <;> exact Ex.noConfusion

theorem k_slices_EqualFunc_Port_Same_1 {a1 : List Api_Port} {a2 : List Api_Port} {r : Bool} (h : slices_EqualFunc_Port_Same_1 a1 a2 = some r) :
    CallsOK Tryz.prog UU 73 [.sl 56 a1, .sl 56 a2, .fn (.func 74) [] []] [] (.v (.bool r)) [] := by
  unfold slices_EqualFunc_Port_Same_1 at h
  rcases ite_out h with ⟨h3, h⟩ | ⟨h3, h⟩
  · injection h with h; subst h; exact rf Tryz.func73 rfl none [.dec true] (by kernel_rfl) (pc (h3) <| pn)
  · obtain ⟨r14, h13, h⟩ := bind_out h
    rcases r14 with _ | _
    · injection h with h; subst h; exact rf Tryz.func73 rfl none [.dec false, .sum [1, 2, 6, 15, 16, 17] [] .ret [(6, .v (.bool false))] []] (by kernel_rfl) (pc (h3) <| pc (k_slices_EqualFunc_Port_Same_1_L1 _ _ h13) <| pn)
    · injection h with h; subst h; exact rf Tryz.func73 rfl none [.dec false, .sum [1, 2, 6, 15, 16, 17] [] (.exit 0) [(6, .v (.bool false))] []] (by kernel_rfl) (pc (h3) <| pc (k_slices_EqualFunc_Port_Same_1_L1 _ _ h13) <| pn)

theorem k_names_Same_2 {a1 : Api_Domain} {a2 : Api_Domain} {r : Bool} (h : names_Same_2 a1 a2 = some r) :
    CallsOK Tryz.prog UU 77 [.agg (c93 a1), .agg (c93 a2)] [] (.v (.bool r)) [] := by
  unfold names_Same_2 at h
  rcases ite_out h with ⟨h3, h⟩ | ⟨h3, h⟩
  · rcases ite_out h with ⟨h4, h⟩ | ⟨h4, h⟩
    · rcases ite_out h with ⟨h5, h⟩ | ⟨h5, h⟩
      · rcases ite_out h with ⟨h6, h⟩ | ⟨h6, h⟩
        · rcases ite_out h with ⟨h7, h⟩ | ⟨h7, h⟩
          · obtain ⟨r8, h9, h⟩ := bind_out h
            injection h with h; subst h; exact rf Tryz.func77 rfl none [.dec true, .dec true, .dec true, .dec true, .dec true, .callv (.v (.bool r8))] (by kernel_rfl) (pc (h3) <| pc (h4) <| pc (h5) <| pc (h6) <| pc (h7) <| pc (k_slices_Equal_int h9) <| pn)
          · injection h with h; subst h; exact rf Tryz.func77 rfl none [.dec true, .dec true, .dec true, .dec true, .dec false] (by kernel_rfl) (pc (h3) <| pc (h4) <| pc (h5) <| pc (h6) <| pc (h7) <| pn)
        · injection h with h; subst h; exact rf Tryz.func77 rfl none [.dec true, .dec true, .dec true, .dec false] (by kernel_rfl) (pc (h3) <| pc (h4) <| pc (h5) <| pc (h6) <| pn)
      · injection h with h; subst h; exact rf Tryz.func77 rfl none [.dec true, .dec true, .dec false] (by kernel_rfl) (pc (h3) <| pc (h4) <| pc (h5) <| pn)
    · injection h with h; subst h; exact rf Tryz.func77 rfl none [.dec true, .dec false] (by kernel_rfl) (pc (h3) <| pc (h4) <| pn)
  · injection h with h; subst h; exact rf Tryz.func77 rfl none [.dec false] (by kernel_rfl) (pc (h3) <| pn)

theorem k_slices_EqualFunc_Domain_Same_2_L1 {a1 : List Api_Domain} {a2 : List Api_Domain} : LoopOK Tryz.prog UU 0 32 (subC (codeOf Tryz.f76) [1, 1, 0, 1, 0, 0]) (ρ := Unit ⊕ Unit) (slices_EqualFunc_Domain_Same_2_L1 a1 a2)
    (fun v4 : Int => ([(1, .sl 93 a2), (2, .fn (.func 77) [] []), (6, .v (.bool false)), (15, .sl 93 a1), (16, .j (a1.length : Int)), (17, .j v4)] : Fr DD)) (fun v4 : Int => ([] : Heap DD)) (fun r => match r with | Sum.inl _ => .ret | Sum.inr _ => .exit 0) (fun r => match r with | Sum.inl _ => [(6, .v (.bool false))] | Sum.inr _ => [(6, .v (.bool false))]) (fun r => match r with | Sum.inl _ => [] | Sum.inr _ => []) := by
  refine loop_sound3 (fun s q h => ?_) (fun r => ?_)
  · replace h : slices_EqualFunc_Domain_Same_2_L1 a1 a2 s = some q := h; revert h; revert s; intro v4 h
    unfold slices_EqualFunc_Domain_Same_2_L1 at h
    rcases ite_out h with ⟨h5, h⟩ | ⟨h5, h⟩
    · obtain ⟨x6, h7, h⟩ := bind_out h
      obtain ⟨x8, h9, h⟩ := bind_out h
      obtain ⟨r10, h11, h⟩ := bind_out h
      rcases ite_out h with ⟨h12, h⟩ | ⟨h12, h⟩
      · injection h with h; subst h; exact rl [6] [] [.dec true, .row (c93 x6), .row (c93 x8), .callv (.v (.bool r10)), .dec true] (by kernel_rfl) (pc (h5) <| pc (ob93 h7) <| pc (ob93 h9) <| pc (k_names_Same_2 h11) <| pc (h12) <| pn)
      · injection h with h; subst h; exact rl [1, 2, 6, 15, 16, 17] [] [.dec true, .row (c93 x6), .row (c93 x8), .callv (.v (.bool r10)), .dec false] (by kernel_rfl) (pc (h5) <| pc (ob93 h7) <| pc (ob93 h9) <| pc (k_names_Same_2 h11) <| pc (h12) <| pn)
    · injection h with h; subst h; exact rl [6] [] [.dec false] (by kernel_rfl) (pc (h5) <| pn)
  · rcases r with _ | _ <;> exact Ex.noConfusion

theorem k_slices_EqualFunc_Domain_Same_2 {a1 : List Api_Domain} {a2 : List Api_Domain} {r : Bool} (h : slices_EqualFunc_Domain_Same_2 a1 a2 = some r) :
    CallsOK Tryz.prog UU 76 [.sl 93 a1, .sl 93 a2, .fn (.func 77) [] []] [] (.v (.bool r)) [] := by
  unfold slices_EqualFunc_Domain_Same_2 at h
  rcases ite_out h with ⟨h3, h⟩ | ⟨h3, h⟩
  · injection h with h; subst h; exact rf Tryz.func76 rfl none [.dec true] (by kernel_rfl) (pc (h3) <| pn)
  · obtain ⟨r14, h13, h⟩ := bind_out h
    rcases r14 with _ | _
    · injection h with h; subst h; exact rf Tryz.func76 rfl none [.dec false, .sum [1, 2, 6, 15, 16, 17] [] .ret [(6, .v (.bool false))] []] (by kernel_rfl) (pc (h3) <| pc (k_slices_EqualFunc_Domain_Same_2_L1 _ _ h13) <| pn)
    · injection h with h; subst h; exact rf Tryz.func76 rfl none [.dec false, .sum [1, 2, 6, 15, 16, 17] [] (.exit 0) [(6, .v (.bool false))] []] (by kernel_rfl) (pc (h3) <| pc (k_slices_EqualFunc_Domain_Same_2_L1 _ _ h13) <| pn)

theorem k_names_Same_3 {a1 : Api_Flood} {a2 : Api_Flood} {r : Bool} (h : names_Same_3 a1 a2 = some r) :
    CallsOK Tryz.prog UU 79 [.agg (c100 a1), .agg (c100 a2)] [] (.v (.bool r)) [] := by
  unfold names_Same_3 at h
  rcases ite_out h with ⟨h3, h⟩ | ⟨h3, h⟩
  · rcases ite_out h with ⟨h4, h⟩ | ⟨h4, h⟩
    · rcases ite_out h with ⟨h5, h⟩ | ⟨h5, h⟩
      · obtain ⟨r6, h7, h⟩ := bind_out h
        injection h with h; subst h; exact rf Tryz.func79 rfl none [.dec true, .dec true, .dec true, .callv (.v (.bool r6))] (by kernel_rfl) (pc (h3) <| pc (h4) <| pc (h5) <| pc (k_slices_Equal_uint32 h7) <| pn)
      · injection h with h; subst h; exact rf Tryz.func79 rfl none [.dec true, .dec true, .dec false] (by kernel_rfl) (pc (h3) <| pc (h4) <| pc (h5) <| pn)
    · injection h with h; subst h; exact rf Tryz.func79 rfl none [.dec true, .dec false] (by kernel_rfl) (pc (h3) <| pc (h4) <| pn)
  · injection h with h; subst h; exact rf Tryz.func79 rfl none [.dec false] (by kernel_rfl) (pc (h3) <| pn)

theorem k_slices_EqualFunc_Flood_Same_3_L1 {a1 : List Api_Flood} {a2 : List Api_Flood} : LoopOK Tryz.prog UU 0 32 (subC (codeOf Tryz.f78) [1, 1, 0, 1, 0, 0]) (ρ := Unit ⊕ Unit) (slices_EqualFunc_Flood_Same_3_L1 a1 a2)
    (fun v4 : Int => ([(1, .sl 100 a2), (2, .fn (.func 79) [] []), (6, .v (.bool false)), (15, .sl 100 a1), (16, .j (a1.length : Int)), (17, .j v4)] : Fr DD)) (fun v4 : Int => ([] : Heap DD)) (fun r => match r with | Sum.inl _ => .ret | Sum.inr _ => .exit 0) (fun r => match r with | Sum.inl _ => [(6, .v (.bool false))] | Sum.inr _ => [(6, .v (.bool false))]) (fun r => match r with | Sum.inl _ => [] | Sum.inr _ => []) := by
  refine loop_sound3 (fun s q h => ?_) (fun r => ?_)
  · replace h : slices_EqualFunc_Flood_Same_3_L1 a1 a2 s = some q := h; revert h; revert s; intro v4 h
    unfold slices_EqualFunc_Flood_Same_3_L1 at h
    rcases ite_out h with ⟨h5, h⟩ | ⟨h5, h⟩
    · obtain ⟨x6, h7, h⟩ := bind_out h
      obtain ⟨x8, h9, h⟩ := bind_out h
      obtain ⟨r10, h11, h⟩ := bind_out h
      rcases ite_out h with ⟨h12, h⟩ | ⟨h12, h⟩
      · injection h with h; subst h; exact rl [6] [] [.dec true, .row (c100 x6), .row (c100 x8), .callv (.v (.bool r10)), .dec true] (by kernel_rfl) (pc (h5) <| pc (ob100 h7) <| pc (ob100 h9) <| pc (k_names_Same_3 h11) <| pc (h12) <| pn)
      · injection h with h; subst h; exact rl [1, 2, 6, 15, 16, 17] [] [.dec true, .row (c100 x6), .row (c100 x8), .callv (.v (.bool r10)), .dec false] (by kernel_rfl) (pc (h5) <| pc (ob100 h7) <| pc (ob100 h9) <| pc (k_names_Same_3 h11) <| pc (h12) <| pn)
    · injection h with h; subst h; exact rl [6] [] [.dec false] (by kernel_rfl) (pc (h5) <| pn)
  · rcases r with _ | _ <;> exact Ex.noConfusion

theorem k_slices_EqualFunc_Flood_Same_3 {a1 : List Api_Flood} {a2 : List Api_Flood} {r : Bool} (h : slices_EqualFunc_Flood_Same_3 a1 a2 = some r) :
    CallsOK Tryz.prog UU 78 [.sl 100 a1, .sl 100 a2, .fn (.func 79) [] []] [] (.v (.bool r)) [] := by
  unfold slices_EqualFunc_Flood_Same_3 at h
  rcases ite_out h with ⟨h3, h⟩ | ⟨h3, h⟩
  · injection h with h; subst h; exact rf Tryz.func78 rfl none [.dec true] (by kernel_rfl) (pc (h3) <| pn)
  · obtain ⟨r14, h13, h⟩ := bind_out h
    rcases r14 with _ | _
    · injection h with h; subst h; exact rf Tryz.func78 rfl none [.dec false, .sum [1, 2, 6, 15, 16, 17] [] .ret [(6, .v (.bool false))] []] (by kernel_rfl) (pc (h3) <| pc (k_slices_EqualFunc_Flood_Same_3_L1 _ _ h13) <| pn)
    · injection h with h; subst h; exact rf Tryz.func78 rfl none [.dec false, .sum [1, 2, 6, 15, 16, 17] [] (.exit 0) [(6, .v (.bool false))] []] (by kernel_rfl) (pc (h3) <| pc (k_slices_EqualFunc_Flood_Same_3_L1 _ _ h13) <| pn)

theorem k_names_Same_4 {a1 : Api_Vrf} {a2 : Api_Vrf} {r : Bool} (h : names_Same_4 a1 a2 = some r) :
    CallsOK Tryz.prog UU 82 [.agg (c103 a1), .agg (c103 a2)] [] (.v (.bool r)) [] := by
  unfold names_Same_4 at h
  rcases ite_out h with ⟨h3, h⟩ | ⟨h3, h⟩
  · rcases ite_out h with ⟨h4, h⟩ | ⟨h4, h⟩
    · rcases ite_out h with ⟨h5, h⟩ | ⟨h5, h⟩
      · obtain ⟨r6, h7, h⟩ := bind_out h
        rcases ite_out h with ⟨h8, h⟩ | ⟨h8, h⟩
        · obtain ⟨r9, h10, h⟩ := bind_out h
          injection h with h; subst h; exact rf Tryz.func82 rfl none [.dec true, .dec true, .dec true, .callv (.v (.bool r6)), .dec true, .callv (.v (.bool r9))] (by kernel_rfl) (pc (h3) <| pc (h4) <| pc (h5) <| pc (k_slices_Equal_int h7) <| pc (h8) <| pc (k_slices_Equal_int h10) <| pn)
        · injection h with h; subst h; exact rf Tryz.func82 rfl none [.dec true, .dec true, .dec true, .callv (.v (.bool r6)), .dec false] (by kernel_rfl) (pc (h3) <| pc (h4) <| pc (h5) <| pc (k_slices_Equal_int h7) <| pc (h8) <| pn)
      · injection h with h; subst h; exact rf Tryz.func82 rfl none [.dec true, .dec true, .dec false] (by kernel_rfl) (pc (h3) <| pc (h4) <| pc (h5) <| pn)
    · injection h with h; subst h; exact rf Tryz.func82 rfl none [.dec true, .dec false] (by kernel_rfl) (pc (h3) <| pc (h4) <| pn)
  · injection h with h; subst h; exact rf Tryz.func82 rfl none [.dec false] (by kernel_rfl) (pc (h3) <| pn)

theorem k_slices_EqualFunc_Vrf_Same_4_L1 {a1 : List Api_Vrf} {a2 : List Api_Vrf} : LoopOK Tryz.prog UU 0 32 (subC (codeOf Tryz.f81) [1, 1, 0, 1, 0, 0]) (ρ := Unit ⊕ Unit) (slices_EqualFunc_Vrf_Same_4_L1 a1 a2)
    (fun v4 : Int => ([(1, .sl 103 a2), (2, .fn (.func 82) [] []), (6, .v (.bool false)), (15, .sl 103 a1), (16, .j (a1.length : Int)), (17, .j v4)] : Fr DD)) (fun v4 : Int => ([] : Heap DD)) (fun r => match r with | Sum.inl _ => .ret | Sum.inr _ => .exit 0) (fun r => match r with | Sum.inl _ => [(6, .v (.bool false))] | Sum.inr _ => [(6, .v (.bool false))]) (fun r => match r with | Sum.inl _ => [] | Sum.inr _ => []) := by
  refine loop_sound3 (fun s q h => ?_) (fun r => ?_)
  · replace h : slices_EqualFunc_Vrf_Same_4_L1 a1 a2 s = some q := h; revert h; revert s; intro v4 h
    unfold slices_EqualFunc_Vrf_Same_4_L1 at h
    rcases ite_out h with ⟨h5, h⟩ | ⟨h5, h⟩
    · obtain ⟨x6, h7, h⟩ := bind_out h
      obtain ⟨x8, h9, h⟩ := bind_out h
      obtain ⟨r10, h11, h⟩ := bind_out h
      rcases ite_out h with ⟨h12, h⟩ | ⟨h12, h⟩
      · injection h with h; subst h; exact rl [6] [] [.dec true, .row (c103 x6), .row (c103 x8), .callv (.v (.bool r10)), .dec true] (by kernel_rfl) (pc (h5) <| pc (ob103 h7) <| pc (ob103 h9) <| pc (k_names_Same_4 h11) <| pc (h12) <| pn)
      · injection h with h; subst h; exact rl [1, 2, 6, 15, 16, 17] [] [.dec true, .row (c103 x6), .row (c103 x8), .callv (.v (.bool r10)), .dec false] (by kernel_rfl) (pc (h5) <| pc (ob103 h7) <| pc (ob103 h9) <| pc (k_names_Same_4 h11) <| pc (h12) <| pn)
    · injection h with h; subst h; exact rl [6] [] [.dec false] (by kernel_rfl) (pc (h5) <| pn)
  · rcases r with _ | _ <;> exact Ex.noConfusion

theorem k_slices_EqualFunc_Vrf_Same_4 {a1 : List Api_Vrf} {a2 : List Api_Vrf} {r : Bool} (h : slices_EqualFunc_Vrf_Same_4 a1 a2 = some r) :
    CallsOK Tryz.prog UU 81 [.sl 103 a1, .sl 103 a2, .fn (.func 82) [] []] [] (.v (.bool r)) [] := by
  unfold slices_EqualFunc_Vrf_Same_4 at h
  rcases ite_out h with ⟨h3, h⟩ | ⟨h3, h⟩
  · injection h with h; subst h; exact rf Tryz.func81 rfl none [.dec true] (by kernel_rfl) (pc (h3) <| pn)
  · obtain ⟨r14, h13, h⟩ := bind_out h
    rcases r14 with _ | _
    · injection h with h; subst h; exact rf Tryz.func81 rfl none [.dec false, .sum [1, 2, 6, 15, 16, 17] [] .ret [(6, .v (.bool false))] []] (by kernel_rfl) (pc (h3) <| pc (k_slices_EqualFunc_Vrf_Same_4_L1 _ _ h13) <| pn)
    · injection h with h; subst h; exact rf Tryz.func81 rfl none [.dec false, .sum [1, 2, 6, 15, 16, 17] [] (.exit 0) [(6, .v (.bool false))] []] (by kernel_rfl) (pc (h3) <| pc (k_slices_EqualFunc_Vrf_Same_4_L1 _ _ h13) <| pn)

theorem k_names_Same {a1 : Api_Net} {a2 : Api_Net} {r : Bool} (h : names_Same a1 a2 = some r) :
    CallsOK Tryz.prog UU 24 [.agg (c31 a1), .agg (c31 a2)] [] (.v (.bool r)) [] := by
  unfold names_Same at h
  obtain ⟨r3, h4, h⟩ := bind_out h
  rcases ite_out h with ⟨h5, h⟩ | ⟨h5, h⟩
  · obtain ⟨r6, h7, h⟩ := bind_out h
    rcases ite_out h with ⟨h8, h⟩ | ⟨h8, h⟩
    · obtain ⟨r9, h10, h⟩ := bind_out h
      rcases ite_out h with ⟨h11, h⟩ | ⟨h11, h⟩
      · obtain ⟨r12, h13, h⟩ := bind_out h
        rcases ite_out h with ⟨h14, h⟩ | ⟨h14, h⟩
        · obtain ⟨r15, h16, h⟩ := bind_out h
          rcases ite_out h with ⟨h17, h⟩ | ⟨h17, h⟩
          · obtain ⟨r18, h19, h⟩ := bind_out h
            rcases ite_out h with ⟨h20, h⟩ | ⟨h20, h⟩
            · obtain ⟨r21, h22, h⟩ := bind_out h
              rcases ite_out h with ⟨h23, h⟩ | ⟨h23, h⟩
              · obtain ⟨r24, h25, h⟩ := bind_out h
                injection h with h; subst h; exact rf Tryz.func24 rfl none [.callv (.v (.bool r3)), .dec true, .callv (.v (.bool r6)), .dec true, .callv (.v (.bool r9)), .dec true, .callv (.v (.bool r12)), .dec true, .callv (.v (.bool r15)), .dec true, .callv (.v (.bool r18)), .dec true, .callv (.v (.bool r21)), .dec true, .callv (.v (.bool r24))] (by kernel_rfl) (pc (k_slices_Equal_Device h4) <| pc (h5) <| pc (k_slices_Equal_Link h7) <| pc (h8) <| pc (k_slices_Equal_Static h10) <| pc (h11) <| pc (k_slices_Equal_Irb h13) <| pc (h14) <| pc (k_slices_EqualFunc_Port_Same_1 h16) <| pc (h17) <| pc (k_slices_EqualFunc_Domain_Same_2 h19) <| pc (h20) <| pc (k_slices_EqualFunc_Flood_Same_3 h22) <| pc (h23) <| pc (k_slices_EqualFunc_Vrf_Same_4 h25) <| pn)
              · injection h with h; subst h; exact rf Tryz.func24 rfl none [.callv (.v (.bool r3)), .dec true, .callv (.v (.bool r6)), .dec true, .callv (.v (.bool r9)), .dec true, .callv (.v (.bool r12)), .dec true, .callv (.v (.bool r15)), .dec true, .callv (.v (.bool r18)), .dec true, .callv (.v (.bool r21)), .dec false] (by kernel_rfl) (pc (k_slices_Equal_Device h4) <| pc (h5) <| pc (k_slices_Equal_Link h7) <| pc (h8) <| pc (k_slices_Equal_Static h10) <| pc (h11) <| pc (k_slices_Equal_Irb h13) <| pc (h14) <| pc (k_slices_EqualFunc_Port_Same_1 h16) <| pc (h17) <| pc (k_slices_EqualFunc_Domain_Same_2 h19) <| pc (h20) <| pc (k_slices_EqualFunc_Flood_Same_3 h22) <| pc (h23) <| pn)
            · injection h with h; subst h; exact rf Tryz.func24 rfl none [.callv (.v (.bool r3)), .dec true, .callv (.v (.bool r6)), .dec true, .callv (.v (.bool r9)), .dec true, .callv (.v (.bool r12)), .dec true, .callv (.v (.bool r15)), .dec true, .callv (.v (.bool r18)), .dec false] (by kernel_rfl) (pc (k_slices_Equal_Device h4) <| pc (h5) <| pc (k_slices_Equal_Link h7) <| pc (h8) <| pc (k_slices_Equal_Static h10) <| pc (h11) <| pc (k_slices_Equal_Irb h13) <| pc (h14) <| pc (k_slices_EqualFunc_Port_Same_1 h16) <| pc (h17) <| pc (k_slices_EqualFunc_Domain_Same_2 h19) <| pc (h20) <| pn)
          · injection h with h; subst h; exact rf Tryz.func24 rfl none [.callv (.v (.bool r3)), .dec true, .callv (.v (.bool r6)), .dec true, .callv (.v (.bool r9)), .dec true, .callv (.v (.bool r12)), .dec true, .callv (.v (.bool r15)), .dec false] (by kernel_rfl) (pc (k_slices_Equal_Device h4) <| pc (h5) <| pc (k_slices_Equal_Link h7) <| pc (h8) <| pc (k_slices_Equal_Static h10) <| pc (h11) <| pc (k_slices_Equal_Irb h13) <| pc (h14) <| pc (k_slices_EqualFunc_Port_Same_1 h16) <| pc (h17) <| pn)
        · injection h with h; subst h; exact rf Tryz.func24 rfl none [.callv (.v (.bool r3)), .dec true, .callv (.v (.bool r6)), .dec true, .callv (.v (.bool r9)), .dec true, .callv (.v (.bool r12)), .dec false] (by kernel_rfl) (pc (k_slices_Equal_Device h4) <| pc (h5) <| pc (k_slices_Equal_Link h7) <| pc (h8) <| pc (k_slices_Equal_Static h10) <| pc (h11) <| pc (k_slices_Equal_Irb h13) <| pc (h14) <| pn)
      · injection h with h; subst h; exact rf Tryz.func24 rfl none [.callv (.v (.bool r3)), .dec true, .callv (.v (.bool r6)), .dec true, .callv (.v (.bool r9)), .dec false] (by kernel_rfl) (pc (k_slices_Equal_Device h4) <| pc (h5) <| pc (k_slices_Equal_Link h7) <| pc (h8) <| pc (k_slices_Equal_Static h10) <| pc (h11) <| pn)
    · injection h with h; subst h; exact rf Tryz.func24 rfl none [.callv (.v (.bool r3)), .dec true, .callv (.v (.bool r6)), .dec false] (by kernel_rfl) (pc (k_slices_Equal_Device h4) <| pc (h5) <| pc (k_slices_Equal_Link h7) <| pc (h8) <| pn)
  · injection h with h; subst h; exact rf Tryz.func24 rfl none [.callv (.v (.bool r3)), .dec false] (by kernel_rfl) (pc (k_slices_Equal_Device h4) <| pc (h5) <| pn)

end Go.Eng
