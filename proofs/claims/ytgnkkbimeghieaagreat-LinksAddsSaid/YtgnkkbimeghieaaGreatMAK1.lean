/- Part of the proof of LinksAdds: printed mirrors of the functions, or their contracts. No conditions. -/
import Derived.Test.YtgnkkbimeghieaaGreatMAK
set_option linter.unusedVariables false
set_option maxRecDepth 100000
namespace Go.Eng
open Go Go.Proofs
theorem k_palinglaw15_Great_L1 {a1 : Api_Net} : LoopOK Tryz.prog UU 0 123 (subC (codeOf Tryz.f9) [1, 1, 0, 1, 0, 0]) (ρ := Unit ⊕ Unit) (palinglaw15_Great_L1 a1)
    (fun v10 : Int => ([(1, .op 0 1 0 0), (2, .v (.bool false)), (3, .j v10)] : Fr DD)) (fun v10 : Int => ([.box 31 (c31 a1) false] : Heap DD)) (fun r => match r with | Sum.inl _ => .ret | Sum.inr _ => .exit 0) (fun r => match r with | Sum.inl _ => [(2, .v (.bool true))] | Sum.inr _ => [(1, .op 0 1 0 0), (2, .v (.bool false))]) (fun r => match r with | Sum.inl _ => [] | Sum.inr _ => [.box 31 (c31 a1) false]) := by
  refine loop_sound3 (fun s q h => ?_) (fun r => ?_)
  · replace h : palinglaw15_Great_L1 a1 s = some q := h; revert h; revert s; intro v10 h
    unfold palinglaw15_Great_L1 at h
    rcases ite_out h with ⟨h11, h⟩ | ⟨h11, h⟩
    · obtain ⟨x12, h13, h⟩ := bind_out h
      rcases ite_out h with ⟨h14, h⟩ | ⟨h14, h⟩
      · injection h with h; subst h; exact rl [2] [] [.dec true, .row (c52 x12), .dec true] (by kernel_rfl) (pc (h11) <| pc (ob52 h13) <| pc (h14) <| pn)
      · injection h with h; subst h; exact rl [1, 2, 3] [0] [.dec true, .row (c52 x12), .dec false] (by kernel_rfl) (pc (h11) <| pc (ob52 h13) <| pc (h14) <| pn)
    · injection h with h; subst h; exact rl [1, 2] [0] [.dec false] (by kernel_rfl) (pc (h11) <| pn)
  · rcases r with _ | _ <;> exact Ex.noConfusion

theorem k_palinglaw15_Great_L2 {a1 : Api_Net} : LoopOK Tryz.prog UU 0 123 (subC (codeOf Tryz.f9) [1, 1, 1, 0, 1, 0, 0]) (ρ := Unit ⊕ Unit) (palinglaw15_Great_L2 a1)
    (fun v17 : Int => ([(1, .op 0 1 0 0), (2, .v (.bool false)), (4, .j v17)] : Fr DD)) (fun v17 : Int => ([.box 31 (c31 a1) false] : Heap DD)) (fun r => match r with | Sum.inl _ => .ret | Sum.inr _ => .exit 2) (fun r => match r with | Sum.inl _ => [(2, .v (.bool true))] | Sum.inr _ => [(1, .op 0 1 0 0), (2, .v (.bool false))]) (fun r => match r with | Sum.inl _ => [] | Sum.inr _ => [.box 31 (c31 a1) false]) := by
  refine loop_sound3 (fun s q h => ?_) (fun r => ?_)
  · replace h : palinglaw15_Great_L2 a1 s = some q := h; revert h; revert s; intro v17 h
    unfold palinglaw15_Great_L2 at h
    rcases ite_out h with ⟨h18, h⟩ | ⟨h18, h⟩
    · obtain ⟨x19, h20, h⟩ := bind_out h
      rcases ite_out h with ⟨h21, h⟩ | ⟨h21, h⟩
      · injection h with h; subst h; exact rl [2] [] [.dec true, .row (c56 x19), .dec true] (by kernel_rfl) (pc (h18) <| pc (ob56 h20) <| pc (h21) <| pn)
      · injection h with h; subst h; exact rl [1, 2, 4] [0] [.dec true, .row (c56 x19), .dec false] (by kernel_rfl) (pc (h18) <| pc (ob56 h20) <| pc (h21) <| pn)
    · injection h with h; subst h; exact rl [1, 2] [0] [.dec false] (by kernel_rfl) (pc (h18) <| pn)
  · rcases r with _ | _ <;> exact Ex.noConfusion

theorem k_palinglaw15_Great_L3 {a1 : Api_Net} : LoopOK Tryz.prog UU 0 123 (subC (codeOf Tryz.f9) [1, 1, 1, 1, 0, 1, 0, 0]) (ρ := Unit ⊕ Unit) (palinglaw15_Great_L3 a1)
    (fun v24 : Int => ([(1, .op 0 1 0 0), (2, .v (.bool false)), (5, .j v24)] : Fr DD)) (fun v24 : Int => ([.box 31 (c31 a1) false] : Heap DD)) (fun r => match r with | Sum.inl _ => .ret | Sum.inr _ => .exit 4) (fun r => match r with | Sum.inl _ => [(2, .v (.bool true))] | Sum.inr _ => [(1, .op 0 1 0 0), (2, .v (.bool false))]) (fun r => match r with | Sum.inl _ => [] | Sum.inr _ => [.box 31 (c31 a1) false]) := by
  refine loop_sound3 (fun s q h => ?_) (fun r => ?_)
  · replace h : palinglaw15_Great_L3 a1 s = some q := h; revert h; revert s; intro v24 h
    unfold palinglaw15_Great_L3 at h
    rcases ite_out h with ⟨h25, h⟩ | ⟨h25, h⟩
    · obtain ⟨x26, h27, h⟩ := bind_out h
      rcases ite_out h with ⟨h28, h⟩ | ⟨h28, h⟩
      · injection h with h; subst h; exact rl [2] [] [.dec true, .row (c69 x26), .dec true] (by kernel_rfl) (pc (h25) <| pc (ob69 h27) <| pc (h28) <| pn)
      · injection h with h; subst h; exact rl [1, 2, 5] [0] [.dec true, .row (c69 x26), .dec false] (by kernel_rfl) (pc (h25) <| pc (ob69 h27) <| pc (h28) <| pn)
    · injection h with h; subst h; exact rl [1, 2] [0] [.dec false] (by kernel_rfl) (pc (h25) <| pn)
  · rcases r with _ | _ <;> exact Ex.noConfusion

theorem k_palinglaw15_Great_L4 {a1 : Api_Net} : LoopOK Tryz.prog UU 0 123 (subC (codeOf Tryz.f9) [1, 1, 1, 1, 1, 0, 1, 0, 0]) (ρ := Unit ⊕ Unit) (palinglaw15_Great_L4 a1)
    (fun v31 : Int => ([(1, .op 0 1 0 0), (2, .v (.bool false)), (6, .j v31)] : Fr DD)) (fun v31 : Int => ([.box 31 (c31 a1) false] : Heap DD)) (fun r => match r with | Sum.inl _ => .ret | Sum.inr _ => .exit 6) (fun r => match r with | Sum.inl _ => [(2, .v (.bool true))] | Sum.inr _ => [(2, .v (.bool false))]) (fun r => match r with | Sum.inl _ => [] | Sum.inr _ => []) := by
  refine loop_sound3 (fun s q h => ?_) (fun r => ?_)
  · replace h : palinglaw15_Great_L4 a1 s = some q := h; revert h; revert s; intro v31 h
    unfold palinglaw15_Great_L4 at h
    rcases ite_out h with ⟨h32, h⟩ | ⟨h32, h⟩
    · obtain ⟨x33, h34, h⟩ := bind_out h
      rcases ite_out h with ⟨h35, h⟩ | ⟨h35, h⟩
      · injection h with h; subst h; exact rl [2] [] [.dec true, .row (c72 x33), .dec true] (by kernel_rfl) (pc (h32) <| pc (ob72 h34) <| pc (h35) <| pn)
      · obtain ⟨x36, h37, h⟩ := bind_out h
        rcases ite_out h with ⟨h38, h⟩ | ⟨h38, h⟩
        · injection h with h; subst h; exact rl [2] [] [.dec true, .row (c72 x33), .dec false, .row (c72 x36), .dec true] (by kernel_rfl) (pc (h32) <| pc (ob72 h34) <| pc (h35) <| pc (ob72 h37) <| pc (h38) <| pn)
        · injection h with h; subst h; exact rl [1, 2, 6] [0] [.dec true, .row (c72 x33), .dec false, .row (c72 x36), .dec false] (by kernel_rfl) (pc (h32) <| pc (ob72 h34) <| pc (h35) <| pc (ob72 h37) <| pc (h38) <| pn)
    · injection h with h; subst h; exact rl [2] [] [.dec false] (by kernel_rfl) (pc (h32) <| pn)
  · rcases r with _ | _ <;> exact Ex.noConfusion

theorem k_palinglaw15_Great {a1 : Api_Net} {r : Bool} (h : palinglaw15_Great a1 = some r) :
    CallsOK Tryz.prog UU 9 [.agg (c31 a1)] [] (.v (.bool r)) [] := by
  unfold palinglaw15_Great at h
  rcases ite_out h with ⟨h2, h⟩ | ⟨h2, h⟩
  · injection h with h; subst h; exact rf Tryz.func9 rfl none [.dec true] (by kernel_rfl) (pc (h2) <| pn)
  · rcases ite_out h with ⟨h3, h⟩ | ⟨h3, h⟩
    · injection h with h; subst h; exact rf Tryz.func9 rfl none [.dec false, .dec true] (by kernel_rfl) (pc (h2) <| pc (h3) <| pn)
    · rcases ite_out h with ⟨h4, h⟩ | ⟨h4, h⟩
      · injection h with h; subst h; exact rf Tryz.func9 rfl none [.dec false, .dec false, .dec true] (by kernel_rfl) (pc (h2) <| pc (h3) <| pc (h4) <| pn)
      · rcases ite_out h with ⟨h5, h⟩ | ⟨h5, h⟩
        · injection h with h; subst h; exact rf Tryz.func9 rfl none [.dec false, .dec false, .dec false, .dec true] (by kernel_rfl) (pc (h2) <| pc (h3) <| pc (h4) <| pc (h5) <| pn)
        · rcases ite_out h with ⟨h6, h⟩ | ⟨h6, h⟩
          · injection h with h; subst h; exact rf Tryz.func9 rfl none [.dec false, .dec false, .dec false, .dec false, .dec true] (by kernel_rfl) (pc (h2) <| pc (h3) <| pc (h4) <| pc (h5) <| pc (h6) <| pn)
          · rcases ite_out h with ⟨h7, h⟩ | ⟨h7, h⟩
            · injection h with h; subst h; exact rf Tryz.func9 rfl none [.dec false, .dec false, .dec false, .dec false, .dec false, .dec true] (by kernel_rfl) (pc (h2) <| pc (h3) <| pc (h4) <| pc (h5) <| pc (h6) <| pc (h7) <| pn)
            · rcases ite_out h with ⟨h8, h⟩ | ⟨h8, h⟩
              · injection h with h; subst h; exact rf Tryz.func9 rfl none [.dec false, .dec false, .dec false, .dec false, .dec false, .dec false, .dec true] (by kernel_rfl) (pc (h2) <| pc (h3) <| pc (h4) <| pc (h5) <| pc (h6) <| pc (h7) <| pc (h8) <| pn)
              · rcases ite_out h with ⟨h9, h⟩ | ⟨h9, h⟩
                · injection h with h; subst h; exact rf Tryz.func9 rfl none [.dec false, .dec false, .dec false, .dec false, .dec false, .dec false, .dec false, .dec true] (by kernel_rfl) (pc (h2) <| pc (h3) <| pc (h4) <| pc (h5) <| pc (h6) <| pc (h7) <| pc (h8) <| pc (h9) <| pn)
                · obtain ⟨r16, h15, h⟩ := bind_out h
                  rcases r16 with _ | _
                  · injection h with h; subst h; exact rf Tryz.func9 rfl none [.dec false, .dec false, .dec false, .dec false, .dec false, .dec false, .dec false, .dec false, .sum [1, 2, 3] [0] .ret [(2, .v (.bool true))] []] (by kernel_rfl) (pc (h2) <| pc (h3) <| pc (h4) <| pc (h5) <| pc (h6) <| pc (h7) <| pc (h8) <| pc (h9) <| pc (k_palinglaw15_Great_L1 _ _ h15) <| pn)
                  · obtain ⟨r23, h22, h⟩ := bind_out h
                    rcases r23 with _ | _
                    · injection h with h; subst h; exact rf Tryz.func9 rfl none [.dec false, .dec false, .dec false, .dec false, .dec false, .dec false, .dec false, .dec false, .sum [1, 2, 3] [0] (.exit 0) [(1, .op 0 1 0 0), (2, .v (.bool false))] [.box 31 (c31 a1) false], .sum [1, 2, 4] [0] .ret [(2, .v (.bool true))] []] (by kernel_rfl) (pc (h2) <| pc (h3) <| pc (h4) <| pc (h5) <| pc (h6) <| pc (h7) <| pc (h8) <| pc (h9) <| pc (k_palinglaw15_Great_L1 _ _ h15) <| pc (k_palinglaw15_Great_L2 _ _ h22) <| pn)
                    · obtain ⟨r30, h29, h⟩ := bind_out h
                      rcases r30 with _ | _
                      · injection h with h; subst h; exact rf Tryz.func9 rfl none [.dec false, .dec false, .dec false, .dec false, .dec false, .dec false, .dec false, .dec false, .sum [1, 2, 3] [0] (.exit 0) [(1, .op 0 1 0 0), (2, .v (.bool false))] [.box 31 (c31 a1) false], .sum [1, 2, 4] [0] (.exit 2) [(1, .op 0 1 0 0), (2, .v (.bool false))] [.box 31 (c31 a1) false], .sum [1, 2, 5] [0] .ret [(2, .v (.bool true))] []] (by kernel_rfl) (pc (h2) <| pc (h3) <| pc (h4) <| pc (h5) <| pc (h6) <| pc (h7) <| pc (h8) <| pc (h9) <| pc (k_palinglaw15_Great_L1 _ _ h15) <| pc (k_palinglaw15_Great_L2 _ _ h22) <| pc (k_palinglaw15_Great_L3 _ _ h29) <| pn)
                      · obtain ⟨r40, h39, h⟩ := bind_out h
                        rcases r40 with _ | _
                        · injection h with h; subst h; exact rf Tryz.func9 rfl none [.dec false, .dec false, .dec false, .dec false, .dec false, .dec false, .dec false, .dec false, .sum [1, 2, 3] [0] (.exit 0) [(1, .op 0 1 0 0), (2, .v (.bool false))] [.box 31 (c31 a1) false], .sum [1, 2, 4] [0] (.exit 2) [(1, .op 0 1 0 0), (2, .v (.bool false))] [.box 31 (c31 a1) false], .sum [1, 2, 5] [0] (.exit 4) [(1, .op 0 1 0 0), (2, .v (.bool false))] [.box 31 (c31 a1) false], .sum [1, 2, 6] [0] .ret [(2, .v (.bool true))] []] (by kernel_rfl) (pc (h2) <| pc (h3) <| pc (h4) <| pc (h5) <| pc (h6) <| pc (h7) <| pc (h8) <| pc (h9) <| pc (k_palinglaw15_Great_L1 _ _ h15) <| pc (k_palinglaw15_Great_L2 _ _ h22) <| pc (k_palinglaw15_Great_L3 _ _ h29) <| pc (k_palinglaw15_Great_L4 _ _ h39) <| pn)
                        · injection h with h; subst h; exact rf Tryz.func9 rfl none [.dec false, .dec false, .dec false, .dec false, .dec false, .dec false, .dec false, .dec false, .sum [1, 2, 3] [0] (.exit 0) [(1, .op 0 1 0 0), (2, .v (.bool false))] [.box 31 (c31 a1) false], .sum [1, 2, 4] [0] (.exit 2) [(1, .op 0 1 0 0), (2, .v (.bool false))] [.box 31 (c31 a1) false], .sum [1, 2, 5] [0] (.exit 4) [(1, .op 0 1 0 0), (2, .v (.bool false))] [.box 31 (c31 a1) false], .sum [1, 2, 6] [0] (.exit 6) [(2, .v (.bool false))] []] (by kernel_rfl) (pc (h2) <| pc (h3) <| pc (h4) <| pc (h5) <| pc (h6) <| pc (h7) <| pc (h8) <| pc (h9) <| pc (k_palinglaw15_Great_L1 _ _ h15) <| pc (k_palinglaw15_Great_L2 _ _ h22) <| pc (k_palinglaw15_Great_L3 _ _ h29) <| pc (k_palinglaw15_Great_L4 _ _ h39) <| pn)

theorem k_palinglaw12_Great_L2 {a1 : List Api_Line} {v4 : Int} {x6 : Api_Line} {x8 : Api_Line} {x10 : Api_Line} {x12 : Api_Line} {x14 : Api_Line} {x16 : Api_Line} {x18 : Api_Line} {x20 : Api_Line} {x22 : Api_Line} : LoopOK Tryz.prog UU 0 84 (subC (codeOf Tryz.f10) [1, 1, 1, 0, 1, 0, 0, 1, 0, 0, 1, 0, 0]) (fun s : Int × Int => match s with | (v24, v25) => palinglaw12_Great_L2 a1 v4 x6 x8 x10 x12 x14 x16 x18 x20 x22 v24 v25)
    (fun s : Int × Int => (match s with | (v24, v25) => [(0, .sl 37 a1), (2, .v (.bool false)), (3, .j v24), (4, .j v4), (70, .sl 3 [((x6.dev.size : Int) : Int), ((x8.port.size : Int) : Int), ((x10.peer.size : Int) : Int), ((x12.far.size : Int) : Int), ((x14.name.size : Int) : Int), ((x16.tagged.length : Int) : Int), ((x18.imports.length : Int) : Int), ((x20.exports.length : Int) : Int), ((x22.addrs.length : Int) : Int)]), (71, .j ([((x6.dev.size : Int) : Int), ((x8.port.size : Int) : Int), ((x10.peer.size : Int) : Int), ((x12.far.size : Int) : Int), ((x14.name.size : Int) : Int), ((x16.tagged.length : Int) : Int), ((x18.imports.length : Int) : Int), ((x20.exports.length : Int) : Int), ((x22.addrs.length : Int) : Int)].length : Int)), (72, .j v25)] : Fr DD)) (fun s : Int × Int => (match s with | (v24, v25) => [] : Heap DD)) (fun r => match r with | Sum.inl _ => .ret | Sum.inr v31 => .exit 2) (fun r => match r with | Sum.inl _ => [(2, .v (.bool true))] | Sum.inr v31 => [(0, .sl 37 a1), (2, .v (.bool false)), (3, .j v31), (4, .j v4)]) (fun r => match r with | Sum.inl _ => [] | Sum.inr v31 => []) := by
  refine loop_sound3 (fun s q h => ?_) (fun r => ?_)
  · obtain ⟨v24, v25⟩ := s; replace h : palinglaw12_Great_L2 a1 v4 x6 x8 x10 x12 x14 x16 x18 x20 x22 v24 v25 = some q := h
    unfold palinglaw12_Great_L2 at h
    rcases ite_out h with ⟨h26, h⟩ | ⟨h26, h⟩
    · obtain ⟨x27, h28, h⟩ := bind_out h
      rcases ite_out h with ⟨h29, h⟩ | ⟨h29, h⟩
      · injection h with h; subst h; exact rl [2] [] [.dec true, .row (c3 x27), .dec true] (by kernel_rfl) (pc (h26) <| pc (ob3 h28) <| pc (h29) <| pn)
      · injection h with h; subst h; exact rl [0, 2, 3, 4, 70, 71, 72] [] [.dec true, .row (c3 x27), .dec false] (by kernel_rfl) (pc (h26) <| pc (ob3 h28) <| pc (h29) <| pn)
    · injection h with h; subst h; exact rl [0, 2, 3, 4] [] [.dec false] (by kernel_rfl) (pc (h26) <| pn)
  · rcases r with _ | _ <;> exact Ex.noConfusion

theorem k_palinglaw12_Great_L1 {a1 : List Api_Line} : LoopOK Tryz.prog UU 0 84 (subC (codeOf Tryz.f10) [1, 1, 1, 0, 1, 0, 0]) (fun s : Int × Int => match s with | (v3, v4) => palinglaw12_Great_L1 a1 v3 v4)
    (fun s : Int × Int => (match s with | (v3, v4) => [(0, .sl 37 a1), (2, .v (.bool false)), (3, .j v3), (4, .j v4)] : Fr DD)) (fun s : Int × Int => (match s with | (v3, v4) => [] : Heap DD)) (fun r => match r with | Sum.inl _ => .ret | Sum.inr v35 => .exit 0) (fun r => match r with | Sum.inl _ => [(2, .v (.bool true))] | Sum.inr v35 => [(2, .v (.bool false)), (3, .j v35)]) (fun r => match r with | Sum.inl _ => [] | Sum.inr v35 => []) := by
  refine loop_sound3 (fun s q h => ?_) (fun r => ?_)
  · obtain ⟨v3, v4⟩ := s; replace h : palinglaw12_Great_L1 a1 v3 v4 = some q := h
    unfold palinglaw12_Great_L1 at h
    rcases ite_out h with ⟨h5, h⟩ | ⟨h5, h⟩
    · obtain ⟨x6, h7, h⟩ := bind_out h
      obtain ⟨x8, h9, h⟩ := bind_out h
      obtain ⟨x10, h11, h⟩ := bind_out h
      obtain ⟨x12, h13, h⟩ := bind_out h
      obtain ⟨x14, h15, h⟩ := bind_out h
      obtain ⟨x16, h17, h⟩ := bind_out h
      obtain ⟨x18, h19, h⟩ := bind_out h
      obtain ⟨x20, h21, h⟩ := bind_out h
      obtain ⟨x22, h23, h⟩ := bind_out h
      obtain ⟨r33, h32, h⟩ := bind_out h
      rcases r33 with _ | v31
      · injection h with h; subst h; exact rl [2] [] [.dec true, .row (c37 x6), .row (c37 x8), .row (c37 x10), .row (c37 x12), .row (c37 x14), .row (c37 x16), .row (c37 x18), .row (c37 x20), .row (c37 x22), .obj [] (.arr 3 [((x6.dev.size : Int) : Int), ((x8.port.size : Int) : Int), ((x10.peer.size : Int) : Int), ((x12.far.size : Int) : Int), ((x14.name.size : Int) : Int), ((x16.tagged.length : Int) : Int), ((x18.imports.length : Int) : Int), ((x20.exports.length : Int) : Int), ((x22.addrs.length : Int) : Int)] (List.length [((x6.dev.size : Int) : Int), ((x8.port.size : Int) : Int), ((x10.peer.size : Int) : Int), ((x12.far.size : Int) : Int), ((x14.name.size : Int) : Int), ((x16.tagged.length : Int) : Int), ((x18.imports.length : Int) : Int), ((x20.exports.length : Int) : Int), ((x22.addrs.length : Int) : Int)]) false), .sum [0, 2, 3, 4, 70, 71, 72] [] .ret [(2, .v (.bool true))] []] (by kernel_rfl) (pc (h5) <| pc (ob37 h7) <| pc (ob37 h9) <| pc (ob37 h11) <| pc (ob37 h13) <| pc (ob37 h15) <| pc (ob37 h17) <| pc (ob37 h19) <| pc (ob37 h21) <| pc (ob37 h23) <| pc (bs_ob 3 [((x6.dev.size : Int) : Int), ((x8.port.size : Int) : Int), ((x10.peer.size : Int) : Int), ((x12.far.size : Int) : Int), ((x14.name.size : Int) : Int), ((x16.tagged.length : Int) : Int), ((x18.imports.length : Int) : Int), ((x20.exports.length : Int) : Int), ((x22.addrs.length : Int) : Int)]) <| pc (k_palinglaw12_Great_L2 _ _ h32) <| pn)
      · injection h with h; subst h; exact rl [0, 2, 3, 4] [] [.dec true, .row (c37 x6), .row (c37 x8), .row (c37 x10), .row (c37 x12), .row (c37 x14), .row (c37 x16), .row (c37 x18), .row (c37 x20), .row (c37 x22), .obj [] (.arr 3 [((x6.dev.size : Int) : Int), ((x8.port.size : Int) : Int), ((x10.peer.size : Int) : Int), ((x12.far.size : Int) : Int), ((x14.name.size : Int) : Int), ((x16.tagged.length : Int) : Int), ((x18.imports.length : Int) : Int), ((x20.exports.length : Int) : Int), ((x22.addrs.length : Int) : Int)] (List.length [((x6.dev.size : Int) : Int), ((x8.port.size : Int) : Int), ((x10.peer.size : Int) : Int), ((x12.far.size : Int) : Int), ((x14.name.size : Int) : Int), ((x16.tagged.length : Int) : Int), ((x18.imports.length : Int) : Int), ((x20.exports.length : Int) : Int), ((x22.addrs.length : Int) : Int)]) false), .sum [0, 2, 3, 4, 70, 71, 72] [] (.exit 2) [(0, .sl 37 a1), (2, .v (.bool false)), (3, .j v31), (4, .j v4)] []] (by kernel_rfl) (pc (h5) <| pc (ob37 h7) <| pc (ob37 h9) <| pc (ob37 h11) <| pc (ob37 h13) <| pc (ob37 h15) <| pc (ob37 h17) <| pc (ob37 h19) <| pc (ob37 h21) <| pc (ob37 h23) <| pc (bs_ob 3 [((x6.dev.size : Int) : Int), ((x8.port.size : Int) : Int), ((x10.peer.size : Int) : Int), ((x12.far.size : Int) : Int), ((x14.name.size : Int) : Int), ((x16.tagged.length : Int) : Int), ((x18.imports.length : Int) : Int), ((x20.exports.length : Int) : Int), ((x22.addrs.length : Int) : Int)]) <| pc (k_palinglaw12_Great_L2 _ _ h32) <| pn)
    · injection h with h; subst h; exact rl [2, 3] [] [.dec false] (by kernel_rfl) (pc (h5) <| pn)
  · rcases r with _ | _ <;> exact Ex.noConfusion

theorem k_palinglaw12_Great {a1 : List Api_Line} {r : Bool} (h : palinglaw12_Great a1 = some r) :
    CallsOK Tryz.prog UU 10 [.sl 37 a1] [] (.v (.bool r)) [] := by
  unfold palinglaw12_Great at h
  rcases ite_out h with ⟨h2, h⟩ | ⟨h2, h⟩
  · injection h with h; subst h; exact rf Tryz.func10 rfl none [.dec true] (by kernel_rfl) (pc (h2) <| pn)
  · obtain ⟨r37, h36, h⟩ := bind_out h
    rcases r37 with _ | v35
    · injection h with h; subst h; exact rf Tryz.func10 rfl none [.dec false, .sum [0, 2, 3, 4] [] .ret [(2, .v (.bool true))] []] (by kernel_rfl) (pc (h2) <| pc (k_palinglaw12_Great_L1 _ _ h36) <| pn)
    · injection h with h; subst h; exact rf Tryz.func10 rfl none [.dec false, .sum [0, 2, 3, 4] [] (.exit 0) [(2, .v (.bool false)), (3, .j v35)] []] (by kernel_rfl) (pc (h2) <| pc (k_palinglaw12_Great_L1 _ _ h36) <| pn)

theorem k_palinglaw16_Great {a1 : Api_Net} {a2 : Api_Line} {r : Bool} (h : palinglaw16_Great a1 a2 = some r) :
    CallsOK Tryz.prog UU 4 [.agg (c31 a1), .agg (c37 a2)] [] (.v (.bool r)) [] := by
  unfold palinglaw16_Great at h
  obtain ⟨r3, h4, h⟩ := bind_out h
  rcases ite_out h with ⟨h5, h⟩ | ⟨h5, h⟩
  · injection h with h; subst h; exact rf Tryz.func4 rfl none [.callv (.v (.bool r3)), .dec true] (by kernel_rfl) (pc (k_palinglaw15_Great h4) <| pc (h5) <| pn)
  · obtain ⟨r6, h7, h⟩ := bind_out h
    injection h with h; subst h; exact rf Tryz.func4 rfl none [.callv (.v (.bool r3)), .dec false, .obj [] (.arr 37 [a2] (List.length [a2]) false), .callv (.v (.bool r6))] (by kernel_rfl) (pc (k_palinglaw15_Great h4) <| pc (h5) <| pc (bs_ob 37 [a2]) <| pc (k_palinglaw12_Great h7) <| pc ((rn (List.length [a2]))) <| pn)

theorem k_names_judge_few {a1 : Names_judge} {r : Bool} (h : names_judge_few a1 = some r) :
    CallsOK Tryz.prog UU 30 [.agg (c81 a1)] [] (.v (.bool r)) [] := by
  unfold names_judge_few at h
  rcases ite_out h with ⟨h2, h⟩ | ⟨h2, h⟩
  · rcases ite_out h with ⟨h3, h⟩ | ⟨h3, h⟩
    · rcases ite_out h with ⟨h4, h⟩ | ⟨h4, h⟩
      · rcases ite_out h with ⟨h5, h⟩ | ⟨h5, h⟩
        · rcases ite_out h with ⟨h6, h⟩ | ⟨h6, h⟩
          · rcases ite_out h with ⟨h7, h⟩ | ⟨h7, h⟩
            · rcases ite_out h with ⟨h8, h⟩ | ⟨h8, h⟩
              · injection h with h; subst h; exact rf Tryz.func30 rfl none [.dec true, .dec true, .dec true, .dec true, .dec true, .dec true, .dec true] (by kernel_rfl) (pc (h2) <| pc (h3) <| pc (h4) <| pc (h5) <| pc (h6) <| pc (h7) <| pc (h8) <| pn)
              · injection h with h; subst h; exact rf Tryz.func30 rfl none [.dec true, .dec true, .dec true, .dec true, .dec true, .dec true, .dec false] (by kernel_rfl) (pc (h2) <| pc (h3) <| pc (h4) <| pc (h5) <| pc (h6) <| pc (h7) <| pc (h8) <| pn)
            · injection h with h; subst h; exact rf Tryz.func30 rfl none [.dec true, .dec true, .dec true, .dec true, .dec true, .dec false] (by kernel_rfl) (pc (h2) <| pc (h3) <| pc (h4) <| pc (h5) <| pc (h6) <| pc (h7) <| pn)
          · injection h with h; subst h; exact rf Tryz.func30 rfl none [.dec true, .dec true, .dec true, .dec true, .dec false] (by kernel_rfl) (pc (h2) <| pc (h3) <| pc (h4) <| pc (h5) <| pc (h6) <| pn)
        · injection h with h; subst h; exact rf Tryz.func30 rfl none [.dec true, .dec true, .dec true, .dec false] (by kernel_rfl) (pc (h2) <| pc (h3) <| pc (h4) <| pc (h5) <| pn)
      · injection h with h; subst h; exact rf Tryz.func30 rfl none [.dec true, .dec true, .dec false] (by kernel_rfl) (pc (h2) <| pc (h3) <| pc (h4) <| pn)
    · injection h with h; subst h; exact rf Tryz.func30 rfl none [.dec true, .dec false] (by kernel_rfl) (pc (h2) <| pc (h3) <| pn)
  · injection h with h; subst h; exact rf Tryz.func30 rfl none [.dec false] (by kernel_rfl) (pc (h2) <| pn)

theorem k_names_place_Device {a1 : List Api_Device} {a2 : Int} {r : Bool} (h : names_place_Device a1 a2 = some r) :
    CallsOK Tryz.prog UU 42 [.sl 50 a1, .j a2] [] (.v (.bool r)) [] := by
  unfold names_place_Device at h
  rcases ite_out h with ⟨h3, h⟩ | ⟨h3, h⟩
  · injection h with h; subst h; exact rf Tryz.func42 rfl none [.dec true] (by kernel_rfl) (pc (h3) <| pn)
  · injection h with h; subst h; exact rf Tryz.func42 rfl none [.dec false] (by kernel_rfl) (pc (h3) <| pn)

theorem k_names_judge_domain_1 {a1 : Api_Domain} {a2 : Int} {a3 : Int} {r : Bool} (h : names_judge_domain_1 a1 a2 a3 = some r) :
    CallsOK Tryz.prog UU 101 [.agg (c56 a1), .rp (c3 a2) 0, .rp (c3 a3) 0] [] (.v (.bool r)) [] := by
  unfold names_judge_domain_1 at h
  rcases ite_out h with ⟨h4, h⟩ | ⟨h4, h⟩
  · injection h with h; subst h; exact rf Tryz.func101 rfl none [.dec true] (by kernel_rfl) (pc (h4) <| pn)
  · injection h with h; subst h; exact rf Tryz.func101 rfl none [.dec false] (by kernel_rfl) (pc (h4) <| pn)

theorem k_slices_IndexFunc_Domain_judge_domain_1_L1 {a1 : List Api_Domain} {a2 : Int} {a3 : Int} : LoopOK Tryz.prog UU 0 19 (subC (codeOf Tryz.f96) [1, 0, 1, 0, 0]) (ρ := Int ⊕ Unit) (slices_IndexFunc_Domain_judge_domain_1_L1 a1 a2 a3)
    (fun v4 : Int => ([(0, .sl 56 a1), (1, .fn (.func 101) [] [.rp (c3 a2) 0, .rp (c3 a3) 0]), (4, .z), (7, .j (a1.length : Int)), (8, .j v4)] : Fr DD)) (fun v4 : Int => ([] : Heap DD)) (fun r => match r with | Sum.inl v12 => .ret | Sum.inr _ => .exit 0) (fun r => match r with | Sum.inl v12 => [(4, .j v12)] | Sum.inr _ => [(4, .z)]) (fun r => match r with | Sum.inl v12 => [] | Sum.inr _ => []) := by
  refine loop_sound3 (fun s q h => ?_) (fun r => ?_)
  · replace h : slices_IndexFunc_Domain_judge_domain_1_L1 a1 a2 a3 s = some q := h; revert h; revert s; intro v4 h
    unfold slices_IndexFunc_Domain_judge_domain_1_L1 at h
    rcases ite_out h with ⟨h5, h⟩ | ⟨h5, h⟩
    · obtain ⟨x6, h7, h⟩ := bind_out h
      obtain ⟨r8, h9, h⟩ := bind_out h
      rcases ite_out h with ⟨h10, h⟩ | ⟨h10, h⟩
      · injection h with h; subst h; exact rl [4] [] [.dec true, .row (c56 x6), .callv (.v (.bool r8)), .dec true] (by kernel_rfl) (pc (h5) <| pc (ob56 h7) <| pc (k_names_judge_domain_1 h9) <| pc (h10) <| pn)
      · injection h with h; subst h; exact rl [0, 1, 4, 7, 8] [] [.dec true, .row (c56 x6), .callv (.v (.bool r8)), .dec false] (by kernel_rfl) (pc (h5) <| pc (ob56 h7) <| pc (k_names_judge_domain_1 h9) <| pc (h10) <| pn)
    · injection h with h; subst h; exact rl [4] [] [.dec false] (by kernel_rfl) (pc (h5) <| pn)
  · rcases r with _ | _ <;> exact Ex.noConfusion

theorem k_slices_IndexFunc_Domain_judge_domain_1 {a1 : List Api_Domain} {a2 : Int} {a3 : Int} {r : Int} (h : slices_IndexFunc_Domain_judge_domain_1 a1 a2 a3 = some r) :
    CallsOK Tryz.prog UU 96 [.sl 56 a1, .fn (.func 101) [] [.rp (c3 a2) 0, .rp (c3 a3) 0]] [] (.j r) [] := by
  unfold slices_IndexFunc_Domain_judge_domain_1 at h
  obtain ⟨r14, h13, h⟩ := bind_out h
  rcases r14 with v12 | _
  · injection h with h; subst h; exact rf Tryz.func96 rfl none [.sum [0, 1, 4, 7, 8] [] .ret [(4, .j v12)] []] (by kernel_rfl) (pc (k_slices_IndexFunc_Domain_judge_domain_1_L1 _ _ h13) <| pn)
  · injection h with h; subst h; exact rf Tryz.func96 rfl none [.sum [0, 1, 4, 7, 8] [] (.exit 0) [(4, .z)] []] (by kernel_rfl) (pc (k_slices_IndexFunc_Domain_judge_domain_1_L1 _ _ h13) <| pn)

theorem k_names_judge_domain {a1 : Names_judge} {a2 : Int} {a3 : Int} {r : Int} (h : names_judge_domain a1 a2 a3 = some r) :
    CallsOK Tryz.prog UU 76 [.agg (c81 a1), .j a2, .j a3] [] (.j r) [] := by
  unfold names_judge_domain at h
  obtain ⟨r4, h5, h⟩ := bind_out h
  injection h with h; subst h; exact rf Tryz.func76 rfl none [.callv (.j r4)] (by kernel_rfl) (pc (k_slices_IndexFunc_Domain_judge_domain_1 h5) <| pn)

theorem k_names_place_Irb {a1 : List Api_Irb} {a2 : Int} {r : Bool} (h : names_place_Irb a1 a2 = some r) :
    CallsOK Tryz.prog UU 75 [.sl 101 a1, .j a2] [] (.v (.bool r)) [] := by
  unfold names_place_Irb at h
  rcases ite_out h with ⟨h3, h⟩ | ⟨h3, h⟩
  · injection h with h; subst h; exact rf Tryz.func75 rfl none [.dec true] (by kernel_rfl) (pc (h3) <| pn)
  · injection h with h; subst h; exact rf Tryz.func75 rfl none [.dec false] (by kernel_rfl) (pc (h3) <| pn)

theorem k_names_judge_bare {a1 : Names_judge} {a2 : Int} {a3 : Api_Domain} {r : Bool} (h : names_judge_bare a1 a2 a3 = some r) :
    CallsOK Tryz.prog UU 32 [.agg (c81 a1), .j a2, .agg (c56 a3)] [] (.v (.bool r)) [] := by
  unfold names_judge_bare at h
  obtain ⟨r4, h5, h⟩ := bind_out h
  rcases ite_out h with ⟨h6, h⟩ | ⟨h6, h⟩
  · rcases ite_out h with ⟨h7, h⟩ | ⟨h7, h⟩
    · rcases ite_out h with ⟨h8, h⟩ | ⟨h8, h⟩
      · rcases ite_out h with ⟨h9, h⟩ | ⟨h9, h⟩
        · rcases ite_out h with ⟨h10, h⟩ | ⟨h10, h⟩
          · rcases ite_out h with ⟨h11, h⟩ | ⟨h11, h⟩
            · obtain ⟨r12, h13, h⟩ := bind_out h
              injection h with h; subst h; exact rf Tryz.func32 rfl none [.callv (.v (.bool r4)), .dec true, .dec true, .dec true, .dec true, .dec true, .dec true, .callv (.j r12)] (by kernel_rfl) (pc (k_names_place_Device h5) <| pc (h6) <| pc (h7) <| pc (h8) <| pc (h9) <| pc (h10) <| pc (h11) <| pc (k_names_judge_domain h13) <| pn)
            · obtain ⟨r14, h15, h⟩ := bind_out h
              rcases ite_out h with ⟨h16, h⟩ | ⟨h16, h⟩
              · obtain ⟨x17, h18, h⟩ := bind_out h
                rcases ite_out h with ⟨h19, h⟩ | ⟨h19, h⟩
                · obtain ⟨r20, h21, h⟩ := bind_out h
                  injection h with h; subst h; exact rf Tryz.func32 rfl none [.callv (.v (.bool r4)), .dec true, .dec true, .dec true, .dec true, .dec true, .dec false, .callv (.v (.bool r14)), .dec true, .row (c101 x17), .dec true, .callv (.j r20)] (by kernel_rfl) (pc (k_names_place_Device h5) <| pc (h6) <| pc (h7) <| pc (h8) <| pc (h9) <| pc (h10) <| pc (h11) <| pc (k_names_place_Irb h15) <| pc (h16) <| pc (ob101 h18) <| pc (h19) <| pc (k_names_judge_domain h21) <| pn)
                · injection h with h; subst h; exact rf Tryz.func32 rfl none [.callv (.v (.bool r4)), .dec true, .dec true, .dec true, .dec true, .dec true, .dec false, .callv (.v (.bool r14)), .dec true, .row (c101 x17), .dec false] (by kernel_rfl) (pc (k_names_place_Device h5) <| pc (h6) <| pc (h7) <| pc (h8) <| pc (h9) <| pc (h10) <| pc (h11) <| pc (k_names_place_Irb h15) <| pc (h16) <| pc (ob101 h18) <| pc (h19) <| pn)
              · injection h with h; subst h; exact rf Tryz.func32 rfl none [.callv (.v (.bool r4)), .dec true, .dec true, .dec true, .dec true, .dec true, .dec false, .callv (.v (.bool r14)), .dec false] (by kernel_rfl) (pc (k_names_place_Device h5) <| pc (h6) <| pc (h7) <| pc (h8) <| pc (h9) <| pc (h10) <| pc (h11) <| pc (k_names_place_Irb h15) <| pc (h16) <| pn)
          · injection h with h; subst h; exact rf Tryz.func32 rfl none [.callv (.v (.bool r4)), .dec true, .dec true, .dec true, .dec true, .dec false] (by kernel_rfl) (pc (k_names_place_Device h5) <| pc (h6) <| pc (h7) <| pc (h8) <| pc (h9) <| pc (h10) <| pn)
        · injection h with h; subst h; exact rf Tryz.func32 rfl none [.callv (.v (.bool r4)), .dec true, .dec true, .dec true, .dec false] (by kernel_rfl) (pc (k_names_place_Device h5) <| pc (h6) <| pc (h7) <| pc (h8) <| pc (h9) <| pn)
      · injection h with h; subst h; exact rf Tryz.func32 rfl none [.callv (.v (.bool r4)), .dec true, .dec true, .dec false] (by kernel_rfl) (pc (k_names_place_Device h5) <| pc (h6) <| pc (h7) <| pc (h8) <| pn)
    · injection h with h; subst h; exact rf Tryz.func32 rfl none [.callv (.v (.bool r4)), .dec true, .dec false] (by kernel_rfl) (pc (k_names_place_Device h5) <| pc (h6) <| pc (h7) <| pn)
  · injection h with h; subst h; exact rf Tryz.func32 rfl none [.callv (.v (.bool r4)), .dec false] (by kernel_rfl) (pc (k_names_place_Device h5) <| pc (h6) <| pn)

theorem k_names_all_Domain_judge_bare_L1 {a1 : List Api_Domain} {a2 : Names_judge} : LoopOK Tryz.prog UU 0 20 (subC (codeOf Tryz.f31) [1, 0, 1, 0, 0]) (ρ := Unit ⊕ Unit) (names_all_Domain_judge_bare_L1 a1 a2)
    (fun v3 : Int => ([(1, .fn (.func 32) [.agg (c81 a2)] []), (4, .v (.bool false)), (7, .sl 56 a1), (8, .j (a1.length : Int)), (9, .j v3)] : Fr DD)) (fun v3 : Int => ([] : Heap DD)) (fun r => match r with | Sum.inl _ => .ret | Sum.inr _ => .exit 0) (fun r => match r with | Sum.inl _ => [(4, .v (.bool false))] | Sum.inr _ => [(4, .v (.bool false))]) (fun r => match r with | Sum.inl _ => [] | Sum.inr _ => []) := by
  refine loop_sound3 (fun s q h => ?_) (fun r => ?_)
  · replace h : names_all_Domain_judge_bare_L1 a1 a2 s = some q := h; revert h; revert s; intro v3 h
    unfold names_all_Domain_judge_bare_L1 at h
    rcases ite_out h with ⟨h4, h⟩ | ⟨h4, h⟩
    · obtain ⟨x5, h6, h⟩ := bind_out h
      obtain ⟨r7, h8, h⟩ := bind_out h
      rcases ite_out h with ⟨h9, h⟩ | ⟨h9, h⟩
      · injection h with h; subst h; exact rl [4] [] [.dec true, .row (c56 x5), .callv (.v (.bool r7)), .dec true] (by kernel_rfl) (pc (h4) <| pc (ob56 h6) <| pc (k_names_judge_bare h8) <| pc (h9) <| pn)
      · injection h with h; subst h; exact rl [1, 4, 7, 8, 9] [] [.dec true, .row (c56 x5), .callv (.v (.bool r7)), .dec false] (by kernel_rfl) (pc (h4) <| pc (ob56 h6) <| pc (k_names_judge_bare h8) <| pc (h9) <| pn)
    · injection h with h; subst h; exact rl [4] [] [.dec false] (by kernel_rfl) (pc (h4) <| pn)
  · rcases r with _ | _ <;> exact Ex.noConfusion

theorem k_names_all_Domain_judge_bare {a1 : List Api_Domain} {a2 : Names_judge} {r : Bool} (h : names_all_Domain_judge_bare a1 a2 = some r) :
    CallsOK Tryz.prog UU 31 [.sl 56 a1, .fn (.func 32) [.agg (c81 a2)] []] [] (.v (.bool r)) [] := by
  unfold names_all_Domain_judge_bare at h
  obtain ⟨r11, h10, h⟩ := bind_out h
  rcases r11 with _ | _
  · injection h with h; subst h; exact rf Tryz.func31 rfl none [.sum [1, 4, 7, 8, 9] [] .ret [(4, .v (.bool false))] []] (by kernel_rfl) (pc (k_names_all_Domain_judge_bare_L1 _ _ h10) <| pn)
  · injection h with h; subst h; exact rf Tryz.func31 rfl none [.sum [1, 4, 7, 8, 9] [] (.exit 0) [(4, .v (.bool false))] []] (by kernel_rfl) (pc (k_names_all_Domain_judge_bare_L1 _ _ h10) <| pn)

theorem k_names_place_Domain {a1 : List Api_Domain} {a2 : Int} {r : Bool} (h : names_place_Domain a1 a2 = some r) :
    CallsOK Tryz.prog UU 82 [.sl 56 a1, .j a2] [] (.v (.bool r)) [] := by
  unfold names_place_Domain at h
  rcases ite_out h with ⟨h3, h⟩ | ⟨h3, h⟩
  · injection h with h; subst h; exact rf Tryz.func82 rfl none [.dec true] (by kernel_rfl) (pc (h3) <| pn)
  · injection h with h; subst h; exact rf Tryz.func82 rfl none [.dec false] (by kernel_rfl) (pc (h3) <| pn)

theorem k_names_judge_vtep {a1 : Names_judge} {a2 : Api_Domain} {r : Bool} (h : names_judge_vtep a1 a2 = some r) :
    CallsOK Tryz.prog UU 102 [.agg (c81 a1), .agg (c56 a2)] [] (.v (.bool r)) [] := by
  unfold names_judge_vtep at h
  obtain ⟨x3, h4, h⟩ := bind_out h
  injection h with h; subst h; exact rf Tryz.func102 rfl none [.row (c50 x3)] (by kernel_rfl) (pc (ob50 h4) <| pn)

theorem k_slices_Index_int_L1 {a1 : List Int} {a2 : Int} : LoopOK Tryz.prog UU 0 19 (subC (codeOf Tryz.f64) [1, 0, 1, 0, 0]) (ρ := Int ⊕ Unit) (slices_Index_int_L1 a1 a2)
    (fun v3 : Int => ([(0, .sl 3 a1), (1, .j a2), (4, .z), (7, .j (a1.length : Int)), (8, .j v3)] : Fr DD)) (fun v3 : Int => ([] : Heap DD)) (fun r => match r with | Sum.inl v9 => .ret | Sum.inr _ => .exit 0) (fun r => match r with | Sum.inl v9 => [(4, .j v9)] | Sum.inr _ => [(4, .z)]) (fun r => match r with | Sum.inl v9 => [] | Sum.inr _ => []) := by
  refine loop_sound3 (fun s q h => ?_) (fun r => ?_)
  · replace h : slices_Index_int_L1 a1 a2 s = some q := h; revert h; revert s; intro v3 h
    unfold slices_Index_int_L1 at h
    rcases ite_out h with ⟨h4, h⟩ | ⟨h4, h⟩
    · obtain ⟨x5, h6, h⟩ := bind_out h
      rcases ite_out h with ⟨h7, h⟩ | ⟨h7, h⟩
      · injection h with h; subst h; exact rl [4] [] [.dec true, .row (c3 x5), .dec true] (by kernel_rfl) (pc (h4) <| pc (ob3 h6) <| pc (h7) <| pn)
      · injection h with h; subst h; exact rl [0, 1, 4, 7, 8] [] [.dec true, .row (c3 x5), .dec false] (by kernel_rfl) (pc (h4) <| pc (ob3 h6) <| pc (h7) <| pn)
    · injection h with h; subst h; exact rl [4] [] [.dec false] (by kernel_rfl) (pc (h4) <| pn)
  · rcases r with _ | _ <;> exact Ex.noConfusion

theorem k_slices_Index_int {a1 : List Int} {a2 : Int} {r : Int} (h : slices_Index_int a1 a2 = some r) :
    CallsOK Tryz.prog UU 64 [.sl 3 a1, .j a2] [] (.j r) [] := by
  unfold slices_Index_int at h
  obtain ⟨r11, h10, h⟩ := bind_out h
  rcases r11 with v9 | _
  · injection h with h; subst h; exact rf Tryz.func64 rfl none [.sum [0, 1, 4, 7, 8] [] .ret [(4, .j v9)] []] (by kernel_rfl) (pc (k_slices_Index_int_L1 _ _ h10) <| pn)
  · injection h with h; subst h; exact rf Tryz.func64 rfl none [.sum [0, 1, 4, 7, 8] [] (.exit 0) [(4, .z)] []] (by kernel_rfl) (pc (k_slices_Index_int_L1 _ _ h10) <| pn)

theorem k_slices_Contains_int {a1 : List Int} {a2 : Int} {r : Bool} (h : slices_Contains_int a1 a2 = some r) :
    CallsOK Tryz.prog UU 25 [.sl 3 a1, .j a2] [] (.v (.bool r)) [] := by
  unfold slices_Contains_int at h
  obtain ⟨r3, h4, h⟩ := bind_out h
  injection h with h; subst h; exact rf Tryz.func25 rfl none [.callv (.j r3)] (by kernel_rfl) (pc (k_slices_Index_int h4) <| pn)

theorem k_names_judge_peer {a1 : Names_judge} {a2 : Int} {a3 : Api_Domain} {a4 : Int} {r : Bool} (h : names_judge_peer a1 a2 a3 a4 = some r) :
    CallsOK Tryz.prog UU 79 [.agg (c81 a1), .j a2, .agg (c56 a3), .j a4] [] (.v (.bool r)) [] := by
  unfold names_judge_peer at h
  obtain ⟨r5, h6, h⟩ := bind_out h
  rcases ite_out h with ⟨h7, h⟩ | ⟨h7, h⟩
  · injection h with h; subst h; exact rf Tryz.func79 rfl none [.callv (.v (.bool r5)), .dec true] (by kernel_rfl) (pc (k_names_place_Domain h6) <| pc (h7) <| pn)
  · rcases ite_out h with ⟨h8, h⟩ | ⟨h8, h⟩
    · injection h with h; subst h; exact rf Tryz.func79 rfl none [.callv (.v (.bool r5)), .dec false, .dec true] (by kernel_rfl) (pc (k_names_place_Domain h6) <| pc (h7) <| pc (h8) <| pn)
    · obtain ⟨x9, h10, h⟩ := bind_out h
      obtain ⟨r11, h12, h⟩ := bind_out h
      rcases ite_out h with ⟨h13, h⟩ | ⟨h13, h⟩
      · rcases ite_out h with ⟨h14, h⟩ | ⟨h14, h⟩
        · rcases ite_out h with ⟨h15, h⟩ | ⟨h15, h⟩
          · rcases ite_out h with ⟨h16, h⟩ | ⟨h16, h⟩
            · obtain ⟨r17, h18, h⟩ := bind_out h
              rcases ite_out h with ⟨h19, h⟩ | ⟨h19, h⟩
              · obtain ⟨r20, h21, h⟩ := bind_out h
                rcases ite_out h with ⟨h22, h⟩ | ⟨h22, h⟩
                · obtain ⟨r23, h24, h⟩ := bind_out h
                  injection h with h; subst h; exact rf Tryz.func79 rfl none [.callv (.v (.bool r5)), .dec false, .dec false, .row (c56 x9), .callv (.v (.bool r11)), .dec true, .dec true, .dec true, .dec true, .callv (.v (.bool r17)), .dec true, .callv (.v (.bool r20)), .dec true, .callv (.v (.bool r23))] (by kernel_rfl) (pc (k_names_place_Domain h6) <| pc (h7) <| pc (h8) <| pc (ob56 h10) <| pc (k_names_place_Device h12) <| pc (h13) <| pc (h14) <| pc (h15) <| pc (h16) <| pc (k_names_judge_vtep h18) <| pc (h19) <| pc (k_names_judge_vtep h21) <| pc (h22) <| pc (k_slices_Contains_int h24) <| pn)
                · injection h with h; subst h; exact rf Tryz.func79 rfl none [.callv (.v (.bool r5)), .dec false, .dec false, .row (c56 x9), .callv (.v (.bool r11)), .dec true, .dec true, .dec true, .dec true, .callv (.v (.bool r17)), .dec true, .callv (.v (.bool r20)), .dec false] (by kernel_rfl) (pc (k_names_place_Domain h6) <| pc (h7) <| pc (h8) <| pc (ob56 h10) <| pc (k_names_place_Device h12) <| pc (h13) <| pc (h14) <| pc (h15) <| pc (h16) <| pc (k_names_judge_vtep h18) <| pc (h19) <| pc (k_names_judge_vtep h21) <| pc (h22) <| pn)
              · injection h with h; subst h; exact rf Tryz.func79 rfl none [.callv (.v (.bool r5)), .dec false, .dec false, .row (c56 x9), .callv (.v (.bool r11)), .dec true, .dec true, .dec true, .dec true, .callv (.v (.bool r17)), .dec false] (by kernel_rfl) (pc (k_names_place_Domain h6) <| pc (h7) <| pc (h8) <| pc (ob56 h10) <| pc (k_names_place_Device h12) <| pc (h13) <| pc (h14) <| pc (h15) <| pc (h16) <| pc (k_names_judge_vtep h18) <| pc (h19) <| pn)
            · injection h with h; subst h; exact rf Tryz.func79 rfl none [.callv (.v (.bool r5)), .dec false, .dec false, .row (c56 x9), .callv (.v (.bool r11)), .dec true, .dec true, .dec true, .dec false] (by kernel_rfl) (pc (k_names_place_Domain h6) <| pc (h7) <| pc (h8) <| pc (ob56 h10) <| pc (k_names_place_Device h12) <| pc (h13) <| pc (h14) <| pc (h15) <| pc (h16) <| pn)
          · injection h with h; subst h; exact rf Tryz.func79 rfl none [.callv (.v (.bool r5)), .dec false, .dec false, .row (c56 x9), .callv (.v (.bool r11)), .dec true, .dec true, .dec false] (by kernel_rfl) (pc (k_names_place_Domain h6) <| pc (h7) <| pc (h8) <| pc (ob56 h10) <| pc (k_names_place_Device h12) <| pc (h13) <| pc (h14) <| pc (h15) <| pn)
        · injection h with h; subst h; exact rf Tryz.func79 rfl none [.callv (.v (.bool r5)), .dec false, .dec false, .row (c56 x9), .callv (.v (.bool r11)), .dec true, .dec false] (by kernel_rfl) (pc (k_names_place_Domain h6) <| pc (h7) <| pc (h8) <| pc (ob56 h10) <| pc (k_names_place_Device h12) <| pc (h13) <| pc (h14) <| pn)
      · injection h with h; subst h; exact rf Tryz.func79 rfl none [.callv (.v (.bool r5)), .dec false, .dec false, .row (c56 x9), .callv (.v (.bool r11)), .dec false] (by kernel_rfl) (pc (k_names_place_Domain h6) <| pc (h7) <| pc (h8) <| pc (ob56 h10) <| pc (k_names_place_Device h12) <| pc (h13) <| pn)

theorem k_names_judge_peers_1 {a1 : Int} {a2 : Int} {a3 : Names_judge} {a4 : Int} {a5 : Api_Domain} {r : Bool} (h : names_judge_peers_1 a1 a2 a3 a4 a5 = some r) :
    CallsOK Tryz.prog UU 78 [.j a1, .j a2, .rp (c81 a3) 0, .rp (c3 a4) 0, .rp (c56 a5) 0] [] (.v (.bool r)) [] := by
  unfold names_judge_peers_1 at h
  obtain ⟨r6, h7, h⟩ := bind_out h
  rcases ite_out h with ⟨h8, h⟩ | ⟨h8, h⟩
  · obtain ⟨r9, h10, h⟩ := bind_out h
    injection h with h; subst h; exact rf Tryz.func78 rfl none [.callv (.v (.bool r6)), .dec true, .callv (.j r9)] (by kernel_rfl) (pc (k_names_judge_peer h7) <| pc (h8) <| pc (k_slices_Index_int h10) <| pn)
  · injection h with h; subst h; exact rf Tryz.func78 rfl none [.callv (.v (.bool r6)), .dec false] (by kernel_rfl) (pc (k_names_judge_peer h7) <| pc (h8) <| pn)

theorem k_names_all_int_judge_peers_1_L1 {a1 : List Int} {a2 : Names_judge} {a3 : Int} {a4 : Api_Domain} : LoopOK Tryz.prog UU 0 20 (subC (codeOf Tryz.f77) [1, 0, 1, 0, 0]) (ρ := Unit ⊕ Unit) (names_all_int_judge_peers_1_L1 a1 a2 a3 a4)
    (fun v5 : Int => ([(1, .fn (.func 78) [] [.rp (c81 a2) 0, .rp (c3 a3) 0, .rp (c56 a4) 0]), (4, .v (.bool false)), (7, .sl 3 a1), (8, .j (a1.length : Int)), (9, .j v5)] : Fr DD)) (fun v5 : Int => ([] : Heap DD)) (fun r => match r with | Sum.inl _ => .ret | Sum.inr _ => .exit 0) (fun r => match r with | Sum.inl _ => [(4, .v (.bool false))] | Sum.inr _ => [(4, .v (.bool false))]) (fun r => match r with | Sum.inl _ => [] | Sum.inr _ => []) := by
  refine loop_sound3 (fun s q h => ?_) (fun r => ?_)
  · replace h : names_all_int_judge_peers_1_L1 a1 a2 a3 a4 s = some q := h; revert h; revert s; intro v5 h
    unfold names_all_int_judge_peers_1_L1 at h
    rcases ite_out h with ⟨h6, h⟩ | ⟨h6, h⟩
    · obtain ⟨x7, h8, h⟩ := bind_out h
      obtain ⟨r9, h10, h⟩ := bind_out h
      rcases ite_out h with ⟨h11, h⟩ | ⟨h11, h⟩
      · injection h with h; subst h; exact rl [4] [] [.dec true, .row (c3 x7), .callv (.v (.bool r9)), .dec true] (by kernel_rfl) (pc (h6) <| pc (ob3 h8) <| pc (k_names_judge_peers_1 h10) <| pc (h11) <| pn)
      · injection h with h; subst h; exact rl [1, 4, 7, 8, 9] [] [.dec true, .row (c3 x7), .callv (.v (.bool r9)), .dec false] (by kernel_rfl) (pc (h6) <| pc (ob3 h8) <| pc (k_names_judge_peers_1 h10) <| pc (h11) <| pn)
    · injection h with h; subst h; exact rl [4] [] [.dec false] (by kernel_rfl) (pc (h6) <| pn)
  · rcases r with _ | _ <;> exact Ex.noConfusion

theorem k_names_all_int_judge_peers_1 {a1 : List Int} {a2 : Names_judge} {a3 : Int} {a4 : Api_Domain} {r : Bool} (h : names_all_int_judge_peers_1 a1 a2 a3 a4 = some r) :
    CallsOK Tryz.prog UU 77 [.sl 3 a1, .fn (.func 78) [] [.rp (c81 a2) 0, .rp (c3 a3) 0, .rp (c56 a4) 0]] [] (.v (.bool r)) [] := by
  unfold names_all_int_judge_peers_1 at h
  obtain ⟨r13, h12, h⟩ := bind_out h
  rcases r13 with _ | _
  · injection h with h; subst h; exact rf Tryz.func77 rfl none [.sum [1, 4, 7, 8, 9] [] .ret [(4, .v (.bool false))] []] (by kernel_rfl) (pc (k_names_all_int_judge_peers_1_L1 _ _ h12) <| pn)
  · injection h with h; subst h; exact rf Tryz.func77 rfl none [.sum [1, 4, 7, 8, 9] [] (.exit 0) [(4, .v (.bool false))] []] (by kernel_rfl) (pc (k_names_all_int_judge_peers_1_L1 _ _ h12) <| pn)

theorem k_names_judge_peers {a1 : Names_judge} {a2 : Int} {a3 : Api_Domain} {r : Bool} (h : names_judge_peers a1 a2 a3 = some r) :
    CallsOK Tryz.prog UU 33 [.agg (c81 a1), .j a2, .agg (c56 a3)] [] (.v (.bool r)) [] := by
  unfold names_judge_peers at h
  obtain ⟨r4, h5, h⟩ := bind_out h
  injection h with h; subst h; exact rf Tryz.func33 rfl none [.callv (.v (.bool r4))] (by kernel_rfl) (pc (k_names_all_int_judge_peers_1 h5) <| pn)

theorem k_names_all_Domain_judge_peers_L1 {a1 : List Api_Domain} {a2 : Names_judge} : LoopOK Tryz.prog UU 0 20 (subC (codeOf Tryz.f31) [1, 0, 1, 0, 0]) (ρ := Unit ⊕ Unit) (names_all_Domain_judge_peers_L1 a1 a2)
    (fun v3 : Int => ([(1, .fn (.func 33) [.agg (c81 a2)] []), (4, .v (.bool false)), (7, .sl 56 a1), (8, .j (a1.length : Int)), (9, .j v3)] : Fr DD)) (fun v3 : Int => ([] : Heap DD)) (fun r => match r with | Sum.inl _ => .ret | Sum.inr _ => .exit 0) (fun r => match r with | Sum.inl _ => [(4, .v (.bool false))] | Sum.inr _ => [(4, .v (.bool false))]) (fun r => match r with | Sum.inl _ => [] | Sum.inr _ => []) := by
  refine loop_sound3 (fun s q h => ?_) (fun r => ?_)
  · replace h : names_all_Domain_judge_peers_L1 a1 a2 s = some q := h; revert h; revert s; intro v3 h
    unfold names_all_Domain_judge_peers_L1 at h
    rcases ite_out h with ⟨h4, h⟩ | ⟨h4, h⟩
    · obtain ⟨x5, h6, h⟩ := bind_out h
      obtain ⟨r7, h8, h⟩ := bind_out h
      rcases ite_out h with ⟨h9, h⟩ | ⟨h9, h⟩
      · injection h with h; subst h; exact rl [4] [] [.dec true, .row (c56 x5), .callv (.v (.bool r7)), .dec true] (by kernel_rfl) (pc (h4) <| pc (ob56 h6) <| pc (k_names_judge_peers h8) <| pc (h9) <| pn)
      · injection h with h; subst h; exact rl [1, 4, 7, 8, 9] [] [.dec true, .row (c56 x5), .callv (.v (.bool r7)), .dec false] (by kernel_rfl) (pc (h4) <| pc (ob56 h6) <| pc (k_names_judge_peers h8) <| pc (h9) <| pn)
    · injection h with h; subst h; exact rl [4] [] [.dec false] (by kernel_rfl) (pc (h4) <| pn)
  · rcases r with _ | _ <;> exact Ex.noConfusion

theorem k_names_all_Domain_judge_peers {a1 : List Api_Domain} {a2 : Names_judge} {r : Bool} (h : names_all_Domain_judge_peers a1 a2 = some r) :
    CallsOK Tryz.prog UU 31 [.sl 56 a1, .fn (.func 33) [.agg (c81 a2)] []] [] (.v (.bool r)) [] := by
  unfold names_all_Domain_judge_peers at h
  obtain ⟨r11, h10, h⟩ := bind_out h
  rcases r11 with _ | _
  · injection h with h; subst h; exact rf Tryz.func31 rfl none [.sum [1, 4, 7, 8, 9] [] .ret [(4, .v (.bool false))] []] (by kernel_rfl) (pc (k_names_all_Domain_judge_peers_L1 _ _ h10) <| pn)
  · injection h with h; subst h; exact rf Tryz.func31 rfl none [.sum [1, 4, 7, 8, 9] [] (.exit 0) [(4, .v (.bool false))] []] (by kernel_rfl) (pc (k_names_all_Domain_judge_peers_L1 _ _ h10) <| pn)

theorem k_num_Rising_L1 {a1 : List Int} {a2 : Int} {a3 : Int} : LoopOK Tryz.prog UU 0 46 (subC (codeOf Tryz.f83) [1, 0, 1, 0, 0]) (ρ := Unit ⊕ Unit) (num_Rising_L1 a1 a2 a3)
    (fun v4 : Int => ([(0, .sl 3 a1), (1, .j a2), (2, .j a3), (6, .v (.bool false)), (9, .sl 3 a1), (10, .j (a1.length : Int)), (11, .j v4)] : Fr DD)) (fun v4 : Int => ([] : Heap DD)) (fun r => match r with | Sum.inl _ => .ret | Sum.inr _ => .exit 0) (fun r => match r with | Sum.inl _ => [(6, .v (.bool false))] | Sum.inr _ => [(0, .sl 3 a1), (6, .v (.bool false))]) (fun r => match r with | Sum.inl _ => [] | Sum.inr _ => []) := by
  refine loop_sound3 (fun s q h => ?_) (fun r => ?_)
  · replace h : num_Rising_L1 a1 a2 a3 s = some q := h; revert h; revert s; intro v4 h
    unfold num_Rising_L1 at h
    rcases ite_out h with ⟨h5, h⟩ | ⟨h5, h⟩
    · obtain ⟨x6, h7, h⟩ := bind_out h
      rcases ite_out h with ⟨h8, h⟩ | ⟨h8, h⟩
      · injection h with h; subst h; exact rl [6] [] [.dec true, .row (c3 x6), .dec true] (by kernel_rfl) (pc (h5) <| pc (ob3 h7) <| pc (h8) <| pn)
      · rcases ite_out h with ⟨h9, h⟩ | ⟨h9, h⟩
        · injection h with h; subst h; exact rl [6] [] [.dec true, .row (c3 x6), .dec false, .dec true] (by kernel_rfl) (pc (h5) <| pc (ob3 h7) <| pc (h8) <| pc (h9) <| pn)
        · rcases ite_out h with ⟨h10, h⟩ | ⟨h10, h⟩
          · obtain ⟨x11, h12, h⟩ := bind_out h
            rcases ite_out h with ⟨h13, h⟩ | ⟨h13, h⟩
            · injection h with h; subst h; exact rl [6] [] [.dec true, .row (c3 x6), .dec false, .dec false, .dec true, .row (c3 x11), .dec true] (by kernel_rfl) (pc (h5) <| pc (ob3 h7) <| pc (h8) <| pc (h9) <| pc (h10) <| pc (ob3 h12) <| pc (h13) <| pn)
            · injection h with h; subst h; exact rl [0, 1, 2, 6, 9, 10, 11] [] [.dec true, .row (c3 x6), .dec false, .dec false, .dec true, .row (c3 x11), .dec false] (by kernel_rfl) (pc (h5) <| pc (ob3 h7) <| pc (h8) <| pc (h9) <| pc (h10) <| pc (ob3 h12) <| pc (h13) <| pn)
          · injection h with h; subst h; exact rl [0, 1, 2, 6, 9, 10, 11] [] [.dec true, .row (c3 x6), .dec false, .dec false, .dec false] (by kernel_rfl) (pc (h5) <| pc (ob3 h7) <| pc (h8) <| pc (h9) <| pc (h10) <| pn)
    · injection h with h; subst h; exact rl [0, 6] [] [.dec false] (by kernel_rfl) (pc (h5) <| pn)
  · rcases r with _ | _ <;> exact Ex.noConfusion

theorem k_num_Rising {a1 : List Int} {a2 : Int} {a3 : Int} {r : Bool} (h : num_Rising a1 a2 a3 = some r) :
    CallsOK Tryz.prog UU 83 [.sl 3 a1, .j a2, .j a3] [] (.v (.bool r)) [] := by
  unfold num_Rising at h
  obtain ⟨r15, h14, h⟩ := bind_out h
  rcases r15 with _ | _
  · injection h with h; subst h; exact rf Tryz.func83 rfl none [.sum [0, 1, 2, 6, 9, 10, 11] [] .ret [(6, .v (.bool false))] []] (by kernel_rfl) (pc (k_num_Rising_L1 _ _ h14) <| pn)
  · rcases ite_out h with ⟨h16, h⟩ | ⟨h16, h⟩
    · injection h with h; subst h; exact rf Tryz.func83 rfl none [.sum [0, 1, 2, 6, 9, 10, 11] [] (.exit 0) [(0, .sl 3 a1), (6, .v (.bool false))] [], .dec true] (by kernel_rfl) (pc (k_num_Rising_L1 _ _ h14) <| pc (h16) <| pn)
    · injection h with h; subst h; exact rf Tryz.func83 rfl none [.sum [0, 1, 2, 6, 9, 10, 11] [] (.exit 0) [(0, .sl 3 a1), (6, .v (.bool false))] [], .dec false] (by kernel_rfl) (pc (k_num_Rising_L1 _ _ h14) <| pc (h16) <| pn)

theorem k_names_rising {a1 : List Int} {a2 : Int} {r : Bool} (h : names_rising a1 a2 = some r) :
    CallsOK Tryz.prog UU 45 [.sl 3 a1, .j a2] [] (.v (.bool r)) [] := by
  unfold names_rising at h
  rcases ite_out h with ⟨h3, h⟩ | ⟨h3, h⟩
  · injection h with h; subst h; exact rf Tryz.func45 rfl none [.dec true] (by kernel_rfl) (pc (h3) <| pn)
  · obtain ⟨r4, h5, h⟩ := bind_out h
    injection h with h; subst h; exact rf Tryz.func45 rfl none [.dec false, .callv (.v (.bool r4))] (by kernel_rfl) (pc (h3) <| pc (k_num_Rising h5) <| pn)

theorem k_names_place_Link {a1 : List Api_Link} {a2 : Int} {r : Bool} (h : names_place_Link a1 a2 = some r) :
    CallsOK Tryz.prog UU 80 [.sl 54 a1, .j a2] [] (.v (.bool r)) [] := by
  unfold names_place_Link at h
  rcases ite_out h with ⟨h3, h⟩ | ⟨h3, h⟩
  · injection h with h; subst h; exact rf Tryz.func80 rfl none [.dec true] (by kernel_rfl) (pc (h3) <| pn)
  · injection h with h; subst h; exact rf Tryz.func80 rfl none [.dec false] (by kernel_rfl) (pc (h3) <| pn)

theorem k_names_judge_port_J1 {a1 : Names_judge} {a2 : Int} {a3 : Api_Port} {r : Unit ⊕ Unit} (h : names_judge_port_J1 a1 a2 a3 = some r) :
    ExecOK Tryz.prog UU 0 111 (subC (codeOf Tryz.f35) [1, 0]) [(1, .j a2), (3, .op 0 1 0 0), (5, .op 1 1 0 0), (6, .v (.bool false))] [.box 81 (c81 a1) false, .box 52 (c52 a3) false] ((fun r => match r with | Sum.inl _ => .ret | Sum.inr _ => .nor) r) ((fun r => match r with | Sum.inl _ => [(6, .v (.bool false))] | Sum.inr _ => [(1, .j a2), (3, .op 0 1 0 0), (5, .op 1 1 0 0), (6, .v (.bool false))]) r) ((fun r => match r with | Sum.inl _ => [] | Sum.inr _ => [.box 81 (c81 a1) false, .box 52 (c52 a3) false]) r) := by
  unfold names_judge_port_J1 at h
  obtain ⟨r4, h5, h⟩ := bind_out h
  rcases ite_out h with ⟨h6, h⟩ | ⟨h6, h⟩
  · injection h with h; subst h; exact rl [6] [] [.callv (.v (.bool r4)), .dec true] (by kernel_rfl) (pc (k_names_place_Device h5) <| pc (h6) <| pn)
  · rcases ite_out h with ⟨h7, h⟩ | ⟨h7, h⟩
    · injection h with h; subst h; exact rl [6] [] [.callv (.v (.bool r4)), .dec false, .dec true] (by kernel_rfl) (pc (k_names_place_Device h5) <| pc (h6) <| pc (h7) <| pn)
    · rcases ite_out h with ⟨h8, h⟩ | ⟨h8, h⟩
      · injection h with h; subst h; exact rl [6] [] [.callv (.v (.bool r4)), .dec false, .dec false, .dec true] (by kernel_rfl) (pc (k_names_place_Device h5) <| pc (h6) <| pc (h7) <| pc (h8) <| pn)
      · obtain ⟨r9, h10, h⟩ := bind_out h
        rcases ite_out h with ⟨h11, h⟩ | ⟨h11, h⟩
        · injection h with h; subst h; exact rl [6] [] [.callv (.v (.bool r4)), .dec false, .dec false, .dec false, .callv (.v (.bool r9)), .dec true] (by kernel_rfl) (pc (k_names_place_Device h5) <| pc (h6) <| pc (h7) <| pc (h8) <| pc (k_names_rising h10) <| pc (h11) <| pn)
        · obtain ⟨r12, h13, h⟩ := bind_out h
          rcases ite_out h with ⟨h14, h⟩ | ⟨h14, h⟩
          · injection h with h; subst h; exact rl [6] [] [.callv (.v (.bool r4)), .dec false, .dec false, .dec false, .callv (.v (.bool r9)), .dec false, .callv (.v (.bool r12)), .dec true] (by kernel_rfl) (pc (k_names_place_Device h5) <| pc (h6) <| pc (h7) <| pc (h8) <| pc (k_names_rising h10) <| pc (h11) <| pc (k_slices_Contains_int h13) <| pc (h14) <| pn)
          · rcases ite_out h with ⟨h15, h⟩ | ⟨h15, h⟩
            · rcases ite_out h with ⟨h16, h⟩ | ⟨h16, h⟩
              · injection h with h; subst h; exact rl [6] [] [.callv (.v (.bool r4)), .dec false, .dec false, .dec false, .callv (.v (.bool r9)), .dec false, .callv (.v (.bool r12)), .dec false, .dec true, .dec true] (by kernel_rfl) (pc (k_names_place_Device h5) <| pc (h6) <| pc (h7) <| pc (h8) <| pc (k_names_rising h10) <| pc (h11) <| pc (k_slices_Contains_int h13) <| pc (h14) <| pc (h15) <| pc (h16) <| pn)
              · injection h with h; subst h; exact rl [1, 3, 5, 6] [0, 1] [.callv (.v (.bool r4)), .dec false, .dec false, .dec false, .callv (.v (.bool r9)), .dec false, .callv (.v (.bool r12)), .dec false, .dec true, .dec false] (by kernel_rfl) (pc (k_names_place_Device h5) <| pc (h6) <| pc (h7) <| pc (h8) <| pc (k_names_rising h10) <| pc (h11) <| pc (k_slices_Contains_int h13) <| pc (h14) <| pc (h15) <| pc (h16) <| pn)
            · injection h with h; subst h; exact rl [1, 3, 5, 6] [0, 1] [.callv (.v (.bool r4)), .dec false, .dec false, .dec false, .callv (.v (.bool r9)), .dec false, .callv (.v (.bool r12)), .dec false, .dec false] (by kernel_rfl) (pc (k_names_place_Device h5) <| pc (h6) <| pc (h7) <| pc (h8) <| pc (k_names_rising h10) <| pc (h11) <| pc (k_slices_Contains_int h13) <| pc (h14) <| pc (h15) <| pn)

theorem k_names_judge_port_L2 {a1 : Names_judge} {a2 : Int} {a3 : Api_Port} : LoopOK Tryz.prog UU 0 111 (subC (codeOf Tryz.f35) [1, 1, 0, 1, 0, 0]) (ρ := Unit ⊕ Unit) (names_judge_port_L2 a1 a2 a3)
    (fun v19 : Int => ([(1, .j a2), (3, .op 0 1 0 0), (5, .op 1 1 0 0), (6, .v (.bool false)), (51, .sl 3 a3.tagged), (52, .j (a3.tagged.length : Int)), (53, .j v19)] : Fr DD)) (fun v19 : Int => ([.box 81 (c81 a1) false, .box 52 (c52 a3) false] : Heap DD)) (fun r => match r with | Sum.inl _ => .ret | Sum.inr _ => .exit 0) (fun r => match r with | Sum.inl _ => [(6, .v (.bool false))] | Sum.inr _ => [(1, .j a2), (3, .op 0 1 0 0), (5, .op 1 1 0 0), (6, .v (.bool false))]) (fun r => match r with | Sum.inl _ => [] | Sum.inr _ => [.box 81 (c81 a1) false, .box 52 (c52 a3) false]) := by
  refine loop_sound3 (fun s q h => ?_) (fun r => ?_)
  · replace h : names_judge_port_L2 a1 a2 a3 s = some q := h; revert h; revert s; intro v19 h
    unfold names_judge_port_L2 at h
    rcases ite_out h with ⟨h20, h⟩ | ⟨h20, h⟩
    · obtain ⟨x21, h22, h⟩ := bind_out h
      obtain ⟨r23, h24, h⟩ := bind_out h
      rcases ite_out h with ⟨h25, h⟩ | ⟨h25, h⟩
      · injection h with h; subst h; exact rl [6] [] [.dec true, .row (c3 x21), .callv (.j r23), .dec true] (by kernel_rfl) (pc (h20) <| pc (ob3 h22) <| pc (k_names_judge_domain h24) <| pc (h25) <| pn)
      · injection h with h; subst h; exact rl [1, 3, 5, 6, 51, 52, 53] [0, 1] [.dec true, .row (c3 x21), .callv (.j r23), .dec false] (by kernel_rfl) (pc (h20) <| pc (ob3 h22) <| pc (k_names_judge_domain h24) <| pc (h25) <| pn)
    · injection h with h; subst h; exact rl [1, 3, 5, 6] [0, 1] [.dec false] (by kernel_rfl) (pc (h20) <| pn)
  · rcases r with _ | _ <;> exact Ex.noConfusion

theorem k_names_judge_port_J3 {a1 : Names_judge} {a2 : Int} {a3 : Api_Port} {r : Unit ⊕ Unit} (h : names_judge_port_J3 a1 a2 a3 = some r) :
    ExecOK Tryz.prog UU 0 111 (subC (codeOf Tryz.f35) [1, 1, 1, 0]) [(1, .j a2), (3, .op 0 1 0 0), (5, .op 1 1 0 0), (6, .v (.bool false))] [.box 81 (c81 a1) false, .box 52 (c52 a3) false] ((fun r => match r with | Sum.inl _ => .ret | Sum.inr _ => .nor) r) ((fun r => match r with | Sum.inl _ => [(6, .v (.bool false))] | Sum.inr _ => [(1, .j a2), (3, .op 0 1 0 0), (5, .op 1 1 0 0), (6, .v (.bool false))]) r) ((fun r => match r with | Sum.inl _ => [] | Sum.inr _ => [.box 81 (c81 a1) false, .box 52 (c52 a3) false]) r) := by
  unfold names_judge_port_J3 at h
  rcases ite_out h with ⟨h28, h⟩ | ⟨h28, h⟩
  · obtain ⟨r29, h30, h⟩ := bind_out h
    rcases ite_out h with ⟨h31, h⟩ | ⟨h31, h⟩
    · injection h with h; subst h; exact rl [6] [] [.dec true, .callv (.j r29), .dec true] (by kernel_rfl) (pc (h28) <| pc (k_names_judge_domain h30) <| pc (h31) <| pn)
    · injection h with h; subst h; exact rl [1, 3, 5, 6] [0, 1] [.dec true, .callv (.j r29), .dec false] (by kernel_rfl) (pc (h28) <| pc (k_names_judge_domain h30) <| pc (h31) <| pn)
  · injection h with h; subst h; exact rl [1, 3, 5, 6] [0, 1] [.dec false] (by kernel_rfl) (pc (h28) <| pn)

theorem k_names_judge_port {a1 : Names_judge} {a2 : Int} {a3 : Api_Port} {r : Bool} (h : names_judge_port a1 a2 a3 = some r) :
    CallsOK Tryz.prog UU 35 [.agg (c81 a1), .j a2, .agg (c52 a3)] [] (.v (.bool r)) [] := by
  unfold names_judge_port at h
  obtain ⟨r18, h17, h⟩ := bind_out h
  rcases r18 with _ | _
  · injection h with h; subst h; exact rf Tryz.func35 rfl none [.skp, .cut [1, 3, 5, 6] [0, 1] .ret [(6, .v (.bool false))] []] (by kernel_rfl) (pc (k_names_judge_port_J1 h17) <| pn)
  · obtain ⟨r27, h26, h⟩ := bind_out h
    rcases r27 with _ | _
    · injection h with h; subst h; exact rf Tryz.func35 rfl none [.skp, .cut [1, 3, 5, 6] [0, 1] .nor [(1, .j a2), (3, .op 0 1 0 0), (5, .op 1 1 0 0), (6, .v (.bool false))] [.box 81 (c81 a1) false, .box 52 (c52 a3) false], .sum [1, 3, 5, 6, 51, 52, 53] [0, 1] .ret [(6, .v (.bool false))] []] (by kernel_rfl) (pc (k_names_judge_port_J1 h17) <| pc (k_names_judge_port_L2 _ _ h26) <| pn)
    · obtain ⟨r33, h32, h⟩ := bind_out h
      rcases r33 with _ | _
      · injection h with h; subst h; exact rf Tryz.func35 rfl none [.skp, .cut [1, 3, 5, 6] [0, 1] .nor [(1, .j a2), (3, .op 0 1 0 0), (5, .op 1 1 0 0), (6, .v (.bool false))] [.box 81 (c81 a1) false, .box 52 (c52 a3) false], .sum [1, 3, 5, 6, 51, 52, 53] [0, 1] (.exit 0) [(1, .j a2), (3, .op 0 1 0 0), (5, .op 1 1 0 0), (6, .v (.bool false))] [.box 81 (c81 a1) false, .box 52 (c52 a3) false], .cut [1, 3, 5, 6] [0, 1] .ret [(6, .v (.bool false))] []] (by kernel_rfl) (pc (k_names_judge_port_J1 h17) <| pc (k_names_judge_port_L2 _ _ h26) <| pc (k_names_judge_port_J3 h32) <| pn)
      · rcases ite_out h with ⟨h34, h⟩ | ⟨h34, h⟩
        · injection h with h; subst h; exact rf Tryz.func35 rfl none [.skp, .cut [1, 3, 5, 6] [0, 1] .nor [(1, .j a2), (3, .op 0 1 0 0), (5, .op 1 1 0 0), (6, .v (.bool false))] [.box 81 (c81 a1) false, .box 52 (c52 a3) false], .sum [1, 3, 5, 6, 51, 52, 53] [0, 1] (.exit 0) [(1, .j a2), (3, .op 0 1 0 0), (5, .op 1 1 0 0), (6, .v (.bool false))] [.box 81 (c81 a1) false, .box 52 (c52 a3) false], .cut [1, 3, 5, 6] [0, 1] .nor [(1, .j a2), (3, .op 0 1 0 0), (5, .op 1 1 0 0), (6, .v (.bool false))] [.box 81 (c81 a1) false, .box 52 (c52 a3) false], .dec true] (by kernel_rfl) (pc (k_names_judge_port_J1 h17) <| pc (k_names_judge_port_L2 _ _ h26) <| pc (k_names_judge_port_J3 h32) <| pc (h34) <| pn)
        · obtain ⟨r35, h36, h⟩ := bind_out h
          rcases ite_out h with ⟨h37, h⟩ | ⟨h37, h⟩
          · obtain ⟨x38, h39, h⟩ := bind_out h
            rcases ite_out h with ⟨h40, h⟩ | ⟨h40, h⟩
            · injection h with h; subst h; exact rf Tryz.func35 rfl none [.skp, .cut [1, 3, 5, 6] [0, 1] .nor [(1, .j a2), (3, .op 0 1 0 0), (5, .op 1 1 0 0), (6, .v (.bool false))] [.box 81 (c81 a1) false, .box 52 (c52 a3) false], .sum [1, 3, 5, 6, 51, 52, 53] [0, 1] (.exit 0) [(1, .j a2), (3, .op 0 1 0 0), (5, .op 1 1 0 0), (6, .v (.bool false))] [.box 81 (c81 a1) false, .box 52 (c52 a3) false], .cut [1, 3, 5, 6] [0, 1] .nor [(1, .j a2), (3, .op 0 1 0 0), (5, .op 1 1 0 0), (6, .v (.bool false))] [.box 81 (c81 a1) false, .box 52 (c52 a3) false], .dec false, .callv (.v (.bool r35)), .dec true, .row (c54 x38), .dec true] (by kernel_rfl) (pc (k_names_judge_port_J1 h17) <| pc (k_names_judge_port_L2 _ _ h26) <| pc (k_names_judge_port_J3 h32) <| pc (h34) <| pc (k_names_place_Link h36) <| pc (h37) <| pc (ob54 h39) <| pc (h40) <| pn)
            · obtain ⟨x41, h42, h⟩ := bind_out h
              injection h with h; subst h; exact rf Tryz.func35 rfl none [.skp, .cut [1, 3, 5, 6] [0, 1] .nor [(1, .j a2), (3, .op 0 1 0 0), (5, .op 1 1 0 0), (6, .v (.bool false))] [.box 81 (c81 a1) false, .box 52 (c52 a3) false], .sum [1, 3, 5, 6, 51, 52, 53] [0, 1] (.exit 0) [(1, .j a2), (3, .op 0 1 0 0), (5, .op 1 1 0 0), (6, .v (.bool false))] [.box 81 (c81 a1) false, .box 52 (c52 a3) false], .cut [1, 3, 5, 6] [0, 1] .nor [(1, .j a2), (3, .op 0 1 0 0), (5, .op 1 1 0 0), (6, .v (.bool false))] [.box 81 (c81 a1) false, .box 52 (c52 a3) false], .dec false, .callv (.v (.bool r35)), .dec true, .row (c54 x38), .dec false, .row (c54 x41)] (by kernel_rfl) (pc (k_names_judge_port_J1 h17) <| pc (k_names_judge_port_L2 _ _ h26) <| pc (k_names_judge_port_J3 h32) <| pc (h34) <| pc (k_names_place_Link h36) <| pc (h37) <| pc (ob54 h39) <| pc (h40) <| pc (ob54 h42) <| pn)
          · injection h with h; subst h; exact rf Tryz.func35 rfl none [.skp, .cut [1, 3, 5, 6] [0, 1] .nor [(1, .j a2), (3, .op 0 1 0 0), (5, .op 1 1 0 0), (6, .v (.bool false))] [.box 81 (c81 a1) false, .box 52 (c52 a3) false], .sum [1, 3, 5, 6, 51, 52, 53] [0, 1] (.exit 0) [(1, .j a2), (3, .op 0 1 0 0), (5, .op 1 1 0 0), (6, .v (.bool false))] [.box 81 (c81 a1) false, .box 52 (c52 a3) false], .cut [1, 3, 5, 6] [0, 1] .nor [(1, .j a2), (3, .op 0 1 0 0), (5, .op 1 1 0 0), (6, .v (.bool false))] [.box 81 (c81 a1) false, .box 52 (c52 a3) false], .dec false, .callv (.v (.bool r35)), .dec false] (by kernel_rfl) (pc (k_names_judge_port_J1 h17) <| pc (k_names_judge_port_L2 _ _ h26) <| pc (k_names_judge_port_J3 h32) <| pc (h34) <| pc (k_names_place_Link h36) <| pc (h37) <| pn)

theorem k_names_all_Port_judge_port_L1 {a1 : List Api_Port} {a2 : Names_judge} : LoopOK Tryz.prog UU 0 20 (subC (codeOf Tryz.f34) [1, 0, 1, 0, 0]) (ρ := Unit ⊕ Unit) (names_all_Port_judge_port_L1 a1 a2)
    (fun v3 : Int => ([(1, .fn (.func 35) [.agg (c81 a2)] []), (4, .v (.bool false)), (7, .sl 52 a1), (8, .j (a1.length : Int)), (9, .j v3)] : Fr DD)) (fun v3 : Int => ([] : Heap DD)) (fun r => match r with | Sum.inl _ => .ret | Sum.inr _ => .exit 0) (fun r => match r with | Sum.inl _ => [(4, .v (.bool false))] | Sum.inr _ => [(4, .v (.bool false))]) (fun r => match r with | Sum.inl _ => [] | Sum.inr _ => []) := by
  refine loop_sound3 (fun s q h => ?_) (fun r => ?_)
  · replace h : names_all_Port_judge_port_L1 a1 a2 s = some q := h; revert h; revert s; intro v3 h
    unfold names_all_Port_judge_port_L1 at h
    rcases ite_out h with ⟨h4, h⟩ | ⟨h4, h⟩
    · obtain ⟨x5, h6, h⟩ := bind_out h
      obtain ⟨r7, h8, h⟩ := bind_out h
      rcases ite_out h with ⟨h9, h⟩ | ⟨h9, h⟩
      · injection h with h; subst h; exact rl [4] [] [.dec true, .row (c52 x5), .callv (.v (.bool r7)), .dec true] (by kernel_rfl) (pc (h4) <| pc (ob52 h6) <| pc (k_names_judge_port h8) <| pc (h9) <| pn)
      · injection h with h; subst h; exact rl [1, 4, 7, 8, 9] [] [.dec true, .row (c52 x5), .callv (.v (.bool r7)), .dec false] (by kernel_rfl) (pc (h4) <| pc (ob52 h6) <| pc (k_names_judge_port h8) <| pc (h9) <| pn)
    · injection h with h; subst h; exact rl [4] [] [.dec false] (by kernel_rfl) (pc (h4) <| pn)
  · rcases r with _ | _ <;> exact Ex.noConfusion

theorem k_names_all_Port_judge_port {a1 : List Api_Port} {a2 : Names_judge} {r : Bool} (h : names_all_Port_judge_port a1 a2 = some r) :
    CallsOK Tryz.prog UU 34 [.sl 52 a1, .fn (.func 35) [.agg (c81 a2)] []] [] (.v (.bool r)) [] := by
  unfold names_all_Port_judge_port at h
  obtain ⟨r11, h10, h⟩ := bind_out h
  rcases r11 with _ | _
  · injection h with h; subst h; exact rf Tryz.func34 rfl none [.sum [1, 4, 7, 8, 9] [] .ret [(4, .v (.bool false))] []] (by kernel_rfl) (pc (k_names_all_Port_judge_port_L1 _ _ h10) <| pn)
  · injection h with h; subst h; exact rf Tryz.func34 rfl none [.sum [1, 4, 7, 8, 9] [] (.exit 0) [(4, .v (.bool false))] []] (by kernel_rfl) (pc (k_names_all_Port_judge_port_L1 _ _ h10) <| pn)

theorem k_names_place_Port {a1 : List Api_Port} {a2 : Int} {r : Bool} (h : names_place_Port a1 a2 = some r) :
    CallsOK Tryz.prog UU 81 [.sl 52 a1, .j a2] [] (.v (.bool r)) [] := by
  unfold names_place_Port at h
  rcases ite_out h with ⟨h3, h⟩ | ⟨h3, h⟩
  · injection h with h; subst h; exact rf Tryz.func81 rfl none [.dec true] (by kernel_rfl) (pc (h3) <| pn)
  · injection h with h; subst h; exact rf Tryz.func81 rfl none [.dec false] (by kernel_rfl) (pc (h3) <| pn)

theorem k_names_judge_link {a1 : Names_judge} {a2 : Int} {a3 : Api_Link} {r : Bool} (h : names_judge_link a1 a2 a3 = some r) :
    CallsOK Tryz.prog UU 37 [.agg (c81 a1), .j a2, .agg (c54 a3)] [] (.v (.bool r)) [] := by
  unfold names_judge_link at h
  obtain ⟨r4, h5, h⟩ := bind_out h
  rcases ite_out h with ⟨h6, h⟩ | ⟨h6, h⟩
  · injection h with h; subst h; exact rf Tryz.func37 rfl none [.callv (.v (.bool r4)), .dec true] (by kernel_rfl) (pc (k_names_place_Port h5) <| pc (h6) <| pn)
  · obtain ⟨r7, h8, h⟩ := bind_out h
    rcases ite_out h with ⟨h9, h⟩ | ⟨h9, h⟩
    · injection h with h; subst h; exact rf Tryz.func37 rfl none [.callv (.v (.bool r4)), .dec false, .callv (.v (.bool r7)), .dec true] (by kernel_rfl) (pc (k_names_place_Port h5) <| pc (h6) <| pc (k_names_place_Port h8) <| pc (h9) <| pn)
    · obtain ⟨x10, h11, h⟩ := bind_out h
      obtain ⟨x12, h13, h⟩ := bind_out h
      rcases ite_out h with ⟨h14, h⟩ | ⟨h14, h⟩
      · rcases ite_out h with ⟨h15, h⟩ | ⟨h15, h⟩
        · injection h with h; subst h; exact rf Tryz.func37 rfl none [.callv (.v (.bool r4)), .dec false, .callv (.v (.bool r7)), .dec false, .row (c52 x10), .row (c52 x12), .dec true, .dec true] (by kernel_rfl) (pc (k_names_place_Port h5) <| pc (h6) <| pc (k_names_place_Port h8) <| pc (h9) <| pc (ob52 h11) <| pc (ob52 h13) <| pc (h14) <| pc (h15) <| pn)
        · injection h with h; subst h; exact rf Tryz.func37 rfl none [.callv (.v (.bool r4)), .dec false, .callv (.v (.bool r7)), .dec false, .row (c52 x10), .row (c52 x12), .dec true, .dec false] (by kernel_rfl) (pc (k_names_place_Port h5) <| pc (h6) <| pc (k_names_place_Port h8) <| pc (h9) <| pc (ob52 h11) <| pc (ob52 h13) <| pc (h14) <| pc (h15) <| pn)
      · injection h with h; subst h; exact rf Tryz.func37 rfl none [.callv (.v (.bool r4)), .dec false, .callv (.v (.bool r7)), .dec false, .row (c52 x10), .row (c52 x12), .dec false] (by kernel_rfl) (pc (k_names_place_Port h5) <| pc (h6) <| pc (k_names_place_Port h8) <| pc (h9) <| pc (ob52 h11) <| pc (ob52 h13) <| pc (h14) <| pn)

theorem k_names_all_Link_judge_link_L1 {a1 : List Api_Link} {a2 : Names_judge} : LoopOK Tryz.prog UU 0 20 (subC (codeOf Tryz.f36) [1, 0, 1, 0, 0]) (ρ := Unit ⊕ Unit) (names_all_Link_judge_link_L1 a1 a2)
    (fun v3 : Int => ([(1, .fn (.func 37) [.agg (c81 a2)] []), (4, .v (.bool false)), (7, .sl 54 a1), (8, .j (a1.length : Int)), (9, .j v3)] : Fr DD)) (fun v3 : Int => ([] : Heap DD)) (fun r => match r with | Sum.inl _ => .ret | Sum.inr _ => .exit 0) (fun r => match r with | Sum.inl _ => [(4, .v (.bool false))] | Sum.inr _ => [(4, .v (.bool false))]) (fun r => match r with | Sum.inl _ => [] | Sum.inr _ => []) := by
  refine loop_sound3 (fun s q h => ?_) (fun r => ?_)
  · replace h : names_all_Link_judge_link_L1 a1 a2 s = some q := h; revert h; revert s; intro v3 h
    unfold names_all_Link_judge_link_L1 at h
    rcases ite_out h with ⟨h4, h⟩ | ⟨h4, h⟩
    · obtain ⟨x5, h6, h⟩ := bind_out h
      obtain ⟨r7, h8, h⟩ := bind_out h
      rcases ite_out h with ⟨h9, h⟩ | ⟨h9, h⟩
      · injection h with h; subst h; exact rl [4] [] [.dec true, .row (c54 x5), .callv (.v (.bool r7)), .dec true] (by kernel_rfl) (pc (h4) <| pc (ob54 h6) <| pc (k_names_judge_link h8) <| pc (h9) <| pn)
      · injection h with h; subst h; exact rl [1, 4, 7, 8, 9] [] [.dec true, .row (c54 x5), .callv (.v (.bool r7)), .dec false] (by kernel_rfl) (pc (h4) <| pc (ob54 h6) <| pc (k_names_judge_link h8) <| pc (h9) <| pn)
    · injection h with h; subst h; exact rl [4] [] [.dec false] (by kernel_rfl) (pc (h4) <| pn)
  · rcases r with _ | _ <;> exact Ex.noConfusion

theorem k_names_all_Link_judge_link {a1 : List Api_Link} {a2 : Names_judge} {r : Bool} (h : names_all_Link_judge_link a1 a2 = some r) :
    CallsOK Tryz.prog UU 36 [.sl 54 a1, .fn (.func 37) [.agg (c81 a2)] []] [] (.v (.bool r)) [] := by
  unfold names_all_Link_judge_link at h
  obtain ⟨r11, h10, h⟩ := bind_out h
  rcases r11 with _ | _
  · injection h with h; subst h; exact rf Tryz.func36 rfl none [.sum [1, 4, 7, 8, 9] [] .ret [(4, .v (.bool false))] []] (by kernel_rfl) (pc (k_names_all_Link_judge_link_L1 _ _ h10) <| pn)
  · injection h with h; subst h; exact rf Tryz.func36 rfl none [.sum [1, 4, 7, 8, 9] [] (.exit 0) [(4, .v (.bool false))] []] (by kernel_rfl) (pc (k_names_all_Link_judge_link_L1 _ _ h10) <| pn)

theorem k_names_Member {a1 : Api_Port} {a2 : Int} {r : Bool} (h : names_Member a1 a2 = some r) :
    CallsOK Tryz.prog UU 24 [.agg (c52 a1), .j a2] [] (.v (.bool r)) [] := by
  unfold names_Member at h
  rcases ite_out h with ⟨h3, h⟩ | ⟨h3, h⟩
  · rcases ite_out h with ⟨h4, h⟩ | ⟨h4, h⟩
    · injection h with h; subst h; exact rf Tryz.func24 rfl none [.dec true, .dec true] (by kernel_rfl) (pc (h3) <| pc (h4) <| pn)
    · obtain ⟨r5, h6, h⟩ := bind_out h
      injection h with h; subst h; exact rf Tryz.func24 rfl none [.dec true, .dec false, .callv (.v (.bool r5))] (by kernel_rfl) (pc (h3) <| pc (h4) <| pc (k_slices_Contains_int h6) <| pn)
  · injection h with h; subst h; exact rf Tryz.func24 rfl none [.dec false] (by kernel_rfl) (pc (h3) <| pn)

theorem k_names_judge_static {a1 : Names_judge} {a2 : Int} {a3 : Api_Static} {r : Bool} (h : names_judge_static a1 a2 a3 = some r) :
    CallsOK Tryz.prog UU 39 [.agg (c81 a1), .j a2, .agg (c90 a3)] [] (.v (.bool r)) [] := by
  unfold names_judge_static at h
  obtain ⟨r4, h5, h⟩ := bind_out h
  rcases ite_out h with ⟨h6, h⟩ | ⟨h6, h⟩
  · injection h with h; subst h; exact rf Tryz.func39 rfl none [.callv (.v (.bool r4)), .dec true] (by kernel_rfl) (pc (k_names_place_Domain h5) <| pc (h6) <| pn)
  · obtain ⟨r7, h8, h⟩ := bind_out h
    rcases ite_out h with ⟨h9, h⟩ | ⟨h9, h⟩
    · injection h with h; subst h; exact rf Tryz.func39 rfl none [.callv (.v (.bool r4)), .dec false, .callv (.v (.bool r7)), .dec true] (by kernel_rfl) (pc (k_names_place_Domain h5) <| pc (h6) <| pc (k_names_place_Port h8) <| pc (h9) <| pn)
    · obtain ⟨x10, h11, h⟩ := bind_out h
      obtain ⟨x12, h13, h⟩ := bind_out h
      rcases ite_out h with ⟨h14, h⟩ | ⟨h14, h⟩
      · obtain ⟨r15, h16, h⟩ := bind_out h
        injection h with h; subst h; exact rf Tryz.func39 rfl none [.callv (.v (.bool r4)), .dec false, .callv (.v (.bool r7)), .dec false, .row (c52 x10), .row (c56 x12), .dec true, .callv (.v (.bool r15))] (by kernel_rfl) (pc (k_names_place_Domain h5) <| pc (h6) <| pc (k_names_place_Port h8) <| pc (h9) <| pc (ob52 h11) <| pc (ob56 h13) <| pc (h14) <| pc (k_names_Member h16) <| pn)
      · injection h with h; subst h; exact rf Tryz.func39 rfl none [.callv (.v (.bool r4)), .dec false, .callv (.v (.bool r7)), .dec false, .row (c52 x10), .row (c56 x12), .dec false] (by kernel_rfl) (pc (k_names_place_Domain h5) <| pc (h6) <| pc (k_names_place_Port h8) <| pc (h9) <| pc (ob52 h11) <| pc (ob56 h13) <| pc (h14) <| pn)

theorem k_names_all_Static_judge_static_L1 {a1 : List Api_Static} {a2 : Names_judge} : LoopOK Tryz.prog UU 0 20 (subC (codeOf Tryz.f38) [1, 0, 1, 0, 0]) (ρ := Unit ⊕ Unit) (names_all_Static_judge_static_L1 a1 a2)
    (fun v3 : Int => ([(1, .fn (.func 39) [.agg (c81 a2)] []), (4, .v (.bool false)), (7, .sl 90 a1), (8, .j (a1.length : Int)), (9, .j v3)] : Fr DD)) (fun v3 : Int => ([] : Heap DD)) (fun r => match r with | Sum.inl _ => .ret | Sum.inr _ => .exit 0) (fun r => match r with | Sum.inl _ => [(4, .v (.bool false))] | Sum.inr _ => [(4, .v (.bool false))]) (fun r => match r with | Sum.inl _ => [] | Sum.inr _ => []) := by
  refine loop_sound3 (fun s q h => ?_) (fun r => ?_)
  · replace h : names_all_Static_judge_static_L1 a1 a2 s = some q := h; revert h; revert s; intro v3 h
    unfold names_all_Static_judge_static_L1 at h
    rcases ite_out h with ⟨h4, h⟩ | ⟨h4, h⟩
    · obtain ⟨x5, h6, h⟩ := bind_out h
      obtain ⟨r7, h8, h⟩ := bind_out h
      rcases ite_out h with ⟨h9, h⟩ | ⟨h9, h⟩
      · injection h with h; subst h; exact rl [4] [] [.dec true, .row (c90 x5), .callv (.v (.bool r7)), .dec true] (by kernel_rfl) (pc (h4) <| pc (ob90 h6) <| pc (k_names_judge_static h8) <| pc (h9) <| pn)
      · injection h with h; subst h; exact rl [1, 4, 7, 8, 9] [] [.dec true, .row (c90 x5), .callv (.v (.bool r7)), .dec false] (by kernel_rfl) (pc (h4) <| pc (ob90 h6) <| pc (k_names_judge_static h8) <| pc (h9) <| pn)
    · injection h with h; subst h; exact rl [4] [] [.dec false] (by kernel_rfl) (pc (h4) <| pn)
  · rcases r with _ | _ <;> exact Ex.noConfusion

theorem k_names_all_Static_judge_static {a1 : List Api_Static} {a2 : Names_judge} {r : Bool} (h : names_all_Static_judge_static a1 a2 = some r) :
    CallsOK Tryz.prog UU 38 [.sl 90 a1, .fn (.func 39) [.agg (c81 a2)] []] [] (.v (.bool r)) [] := by
  unfold names_all_Static_judge_static at h
  obtain ⟨r11, h10, h⟩ := bind_out h
  rcases r11 with _ | _
  · injection h with h; subst h; exact rf Tryz.func38 rfl none [.sum [1, 4, 7, 8, 9] [] .ret [(4, .v (.bool false))] []] (by kernel_rfl) (pc (k_names_all_Static_judge_static_L1 _ _ h10) <| pn)
  · injection h with h; subst h; exact rf Tryz.func38 rfl none [.sum [1, 4, 7, 8, 9] [] (.exit 0) [(4, .v (.bool false))] []] (by kernel_rfl) (pc (k_names_all_Static_judge_static_L1 _ _ h10) <| pn)

theorem k_names_Right_1 {a1 : Int} {a2 : Api_Flood} {a3 : Api_Net} {r : Bool} (h : names_Right_1 a1 a2 a3 = some r) :
    CallsOK Tryz.prog UU 41 [.j a1, .agg (c69 a2), .rp (c31 a3) 0] [] (.v (.bool r)) [] := by
  unfold names_Right_1 at h
  obtain ⟨r4, h5, h⟩ := bind_out h
  rcases ite_out h with ⟨h6, h⟩ | ⟨h6, h⟩
  · injection h with h; subst h; exact rf Tryz.func41 rfl none [.callv (.v (.bool r4)), .dec true] (by kernel_rfl) (pc (k_names_place_Device h5) <| pc (h6) <| pn)
  · injection h with h; subst h; exact rf Tryz.func41 rfl none [.callv (.v (.bool r4)), .dec false] (by kernel_rfl) (pc (k_names_place_Device h5) <| pc (h6) <| pn)

theorem k_names_all_Flood_Right_1_L1 {a1 : List Api_Flood} {a2 : Api_Net} : LoopOK Tryz.prog UU 0 20 (subC (codeOf Tryz.f40) [1, 0, 1, 0, 0]) (ρ := Unit ⊕ Unit) (names_all_Flood_Right_1_L1 a1 a2)
    (fun v3 : Int => ([(1, .fn (.func 41) [] [.rp (c31 a2) 0]), (4, .v (.bool false)), (7, .sl 69 a1), (8, .j (a1.length : Int)), (9, .j v3)] : Fr DD)) (fun v3 : Int => ([] : Heap DD)) (fun r => match r with | Sum.inl _ => .ret | Sum.inr _ => .exit 0) (fun r => match r with | Sum.inl _ => [(4, .v (.bool false))] | Sum.inr _ => [(4, .v (.bool false))]) (fun r => match r with | Sum.inl _ => [] | Sum.inr _ => []) := by
  refine loop_sound3 (fun s q h => ?_) (fun r => ?_)
  · replace h : names_all_Flood_Right_1_L1 a1 a2 s = some q := h; revert h; revert s; intro v3 h
    unfold names_all_Flood_Right_1_L1 at h
    rcases ite_out h with ⟨h4, h⟩ | ⟨h4, h⟩
    · obtain ⟨x5, h6, h⟩ := bind_out h
      obtain ⟨r7, h8, h⟩ := bind_out h
      rcases ite_out h with ⟨h9, h⟩ | ⟨h9, h⟩
      · injection h with h; subst h; exact rl [4] [] [.dec true, .row (c69 x5), .callv (.v (.bool r7)), .dec true] (by kernel_rfl) (pc (h4) <| pc (ob69 h6) <| pc (k_names_Right_1 h8) <| pc (h9) <| pn)
      · injection h with h; subst h; exact rl [1, 4, 7, 8, 9] [] [.dec true, .row (c69 x5), .callv (.v (.bool r7)), .dec false] (by kernel_rfl) (pc (h4) <| pc (ob69 h6) <| pc (k_names_Right_1 h8) <| pc (h9) <| pn)
    · injection h with h; subst h; exact rl [4] [] [.dec false] (by kernel_rfl) (pc (h4) <| pn)
  · rcases r with _ | _ <;> exact Ex.noConfusion

theorem k_names_all_Flood_Right_1 {a1 : List Api_Flood} {a2 : Api_Net} {r : Bool} (h : names_all_Flood_Right_1 a1 a2 = some r) :
    CallsOK Tryz.prog UU 40 [.sl 69 a1, .fn (.func 41) [] [.rp (c31 a2) 0]] [] (.v (.bool r)) [] := by
  unfold names_all_Flood_Right_1 at h
  obtain ⟨r11, h10, h⟩ := bind_out h
  rcases r11 with _ | _
  · injection h with h; subst h; exact rf Tryz.func40 rfl none [.sum [1, 4, 7, 8, 9] [] .ret [(4, .v (.bool false))] []] (by kernel_rfl) (pc (k_names_all_Flood_Right_1_L1 _ _ h10) <| pn)
  · injection h with h; subst h; exact rf Tryz.func40 rfl none [.sum [1, 4, 7, 8, 9] [] (.exit 0) [(4, .v (.bool false))] []] (by kernel_rfl) (pc (k_names_all_Flood_Right_1_L1 _ _ h10) <| pn)

theorem k_names_Right_2 {a1 : Int} {a2 : Api_Vrf} {a3 : Api_Net} {r : Bool} (h : names_Right_2 a1 a2 a3 = some r) :
    CallsOK Tryz.prog UU 44 [.j a1, .agg (c72 a2), .rp (c31 a3) 0] [] (.v (.bool r)) [] := by
  unfold names_Right_2 at h
  obtain ⟨r4, h5, h⟩ := bind_out h
  rcases ite_out h with ⟨h6, h⟩ | ⟨h6, h⟩
  · obtain ⟨r7, h8, h⟩ := bind_out h
    rcases ite_out h with ⟨h9, h⟩ | ⟨h9, h⟩
    · obtain ⟨r10, h11, h⟩ := bind_out h
      injection h with h; subst h; exact rf Tryz.func44 rfl none [.callv (.v (.bool r4)), .dec true, .callv (.v (.bool r7)), .dec true, .callv (.v (.bool r10))] (by kernel_rfl) (pc (k_names_place_Device h5) <| pc (h6) <| pc (k_names_rising h8) <| pc (h9) <| pc (k_names_rising h11) <| pn)
    · injection h with h; subst h; exact rf Tryz.func44 rfl none [.callv (.v (.bool r4)), .dec true, .callv (.v (.bool r7)), .dec false] (by kernel_rfl) (pc (k_names_place_Device h5) <| pc (h6) <| pc (k_names_rising h8) <| pc (h9) <| pn)
  · injection h with h; subst h; exact rf Tryz.func44 rfl none [.callv (.v (.bool r4)), .dec false] (by kernel_rfl) (pc (k_names_place_Device h5) <| pc (h6) <| pn)

theorem k_names_all_Vrf_Right_2_L1 {a1 : List Api_Vrf} {a2 : Api_Net} : LoopOK Tryz.prog UU 0 20 (subC (codeOf Tryz.f43) [1, 0, 1, 0, 0]) (ρ := Unit ⊕ Unit) (names_all_Vrf_Right_2_L1 a1 a2)
    (fun v3 : Int => ([(1, .fn (.func 44) [] [.rp (c31 a2) 0]), (4, .v (.bool false)), (7, .sl 72 a1), (8, .j (a1.length : Int)), (9, .j v3)] : Fr DD)) (fun v3 : Int => ([] : Heap DD)) (fun r => match r with | Sum.inl _ => .ret | Sum.inr _ => .exit 0) (fun r => match r with | Sum.inl _ => [(4, .v (.bool false))] | Sum.inr _ => [(4, .v (.bool false))]) (fun r => match r with | Sum.inl _ => [] | Sum.inr _ => []) := by
  refine loop_sound3 (fun s q h => ?_) (fun r => ?_)
  · replace h : names_all_Vrf_Right_2_L1 a1 a2 s = some q := h; revert h; revert s; intro v3 h
    unfold names_all_Vrf_Right_2_L1 at h
    rcases ite_out h with ⟨h4, h⟩ | ⟨h4, h⟩
    · obtain ⟨x5, h6, h⟩ := bind_out h
      obtain ⟨r7, h8, h⟩ := bind_out h
      rcases ite_out h with ⟨h9, h⟩ | ⟨h9, h⟩
      · injection h with h; subst h; exact rl [4] [] [.dec true, .row (c72 x5), .callv (.v (.bool r7)), .dec true] (by kernel_rfl) (pc (h4) <| pc (ob72 h6) <| pc (k_names_Right_2 h8) <| pc (h9) <| pn)
      · injection h with h; subst h; exact rl [1, 4, 7, 8, 9] [] [.dec true, .row (c72 x5), .callv (.v (.bool r7)), .dec false] (by kernel_rfl) (pc (h4) <| pc (ob72 h6) <| pc (k_names_Right_2 h8) <| pc (h9) <| pn)
    · injection h with h; subst h; exact rl [4] [] [.dec false] (by kernel_rfl) (pc (h4) <| pn)
  · rcases r with _ | _ <;> exact Ex.noConfusion

theorem k_names_all_Vrf_Right_2 {a1 : List Api_Vrf} {a2 : Api_Net} {r : Bool} (h : names_all_Vrf_Right_2 a1 a2 = some r) :
    CallsOK Tryz.prog UU 43 [.sl 72 a1, .fn (.func 44) [] [.rp (c31 a2) 0]] [] (.v (.bool r)) [] := by
  unfold names_all_Vrf_Right_2 at h
  obtain ⟨r11, h10, h⟩ := bind_out h
  rcases r11 with _ | _
  · injection h with h; subst h; exact rf Tryz.func43 rfl none [.sum [1, 4, 7, 8, 9] [] .ret [(4, .v (.bool false))] []] (by kernel_rfl) (pc (k_names_all_Vrf_Right_2_L1 _ _ h10) <| pn)
  · injection h with h; subst h; exact rf Tryz.func43 rfl none [.sum [1, 4, 7, 8, 9] [] (.exit 0) [(4, .v (.bool false))] []] (by kernel_rfl) (pc (k_names_all_Vrf_Right_2_L1 _ _ h10) <| pn)

theorem k_names_place_Vrf {a1 : List Api_Vrf} {a2 : Int} {r : Bool} (h : names_place_Vrf a1 a2 = some r) :
    CallsOK Tryz.prog UU 84 [.sl 72 a1, .j a2] [] (.v (.bool r)) [] := by
  unfold names_place_Vrf at h
  rcases ite_out h with ⟨h3, h⟩ | ⟨h3, h⟩
  · injection h with h; subst h; exact rf Tryz.func84 rfl none [.dec true] (by kernel_rfl) (pc (h3) <| pn)
  · injection h with h; subst h; exact rf Tryz.func84 rfl none [.dec false] (by kernel_rfl) (pc (h3) <| pn)

theorem k_names_judge_irb {a1 : Names_judge} {a2 : Int} {a3 : Api_Irb} {r : Bool} (h : names_judge_irb a1 a2 a3 = some r) :
    CallsOK Tryz.prog UU 47 [.agg (c81 a1), .j a2, .agg (c101 a3)] [] (.v (.bool r)) [] := by
  unfold names_judge_irb at h
  obtain ⟨r4, h5, h⟩ := bind_out h
  rcases ite_out h with ⟨h6, h⟩ | ⟨h6, h⟩
  · obtain ⟨r7, h8, h⟩ := bind_out h
    rcases ite_out h with ⟨h9, h⟩ | ⟨h9, h⟩
    · obtain ⟨x10, h11, h⟩ := bind_out h
      obtain ⟨x12, h13, h⟩ := bind_out h
      rcases ite_out h with ⟨h14, h⟩ | ⟨h14, h⟩
      · obtain ⟨x15, h16, h⟩ := bind_out h
        rcases ite_out h with ⟨h17, h⟩ | ⟨h17, h⟩
        · rcases ite_out h with ⟨h18, h⟩ | ⟨h18, h⟩
          · injection h with h; subst h; exact rf Tryz.func47 rfl none [.callv (.v (.bool r4)), .dec true, .callv (.v (.bool r7)), .dec true, .row (c56 x10), .row (c72 x12), .dec true, .row (c56 x15), .dec true, .dec true] (by kernel_rfl) (pc (k_names_place_Domain h5) <| pc (h6) <| pc (k_names_place_Vrf h8) <| pc (h9) <| pc (ob56 h11) <| pc (ob72 h13) <| pc (h14) <| pc (ob56 h16) <| pc (h17) <| pc (h18) <| pn)
          · injection h with h; subst h; exact rf Tryz.func47 rfl none [.callv (.v (.bool r4)), .dec true, .callv (.v (.bool r7)), .dec true, .row (c56 x10), .row (c72 x12), .dec true, .row (c56 x15), .dec true, .dec false] (by kernel_rfl) (pc (k_names_place_Domain h5) <| pc (h6) <| pc (k_names_place_Vrf h8) <| pc (h9) <| pc (ob56 h11) <| pc (ob72 h13) <| pc (h14) <| pc (ob56 h16) <| pc (h17) <| pc (h18) <| pn)
        · injection h with h; subst h; exact rf Tryz.func47 rfl none [.callv (.v (.bool r4)), .dec true, .callv (.v (.bool r7)), .dec true, .row (c56 x10), .row (c72 x12), .dec true, .row (c56 x15), .dec false] (by kernel_rfl) (pc (k_names_place_Domain h5) <| pc (h6) <| pc (k_names_place_Vrf h8) <| pc (h9) <| pc (ob56 h11) <| pc (ob72 h13) <| pc (h14) <| pc (ob56 h16) <| pc (h17) <| pn)
      · injection h with h; subst h; exact rf Tryz.func47 rfl none [.callv (.v (.bool r4)), .dec true, .callv (.v (.bool r7)), .dec true, .row (c56 x10), .row (c72 x12), .dec false] (by kernel_rfl) (pc (k_names_place_Domain h5) <| pc (h6) <| pc (k_names_place_Vrf h8) <| pc (h9) <| pc (ob56 h11) <| pc (ob72 h13) <| pc (h14) <| pn)
    · injection h with h; subst h; exact rf Tryz.func47 rfl none [.callv (.v (.bool r4)), .dec true, .callv (.v (.bool r7)), .dec false] (by kernel_rfl) (pc (k_names_place_Domain h5) <| pc (h6) <| pc (k_names_place_Vrf h8) <| pc (h9) <| pn)
  · injection h with h; subst h; exact rf Tryz.func47 rfl none [.callv (.v (.bool r4)), .dec false] (by kernel_rfl) (pc (k_names_place_Domain h5) <| pc (h6) <| pn)

theorem k_names_all_Irb_judge_irb_L1 {a1 : List Api_Irb} {a2 : Names_judge} : LoopOK Tryz.prog UU 0 20 (subC (codeOf Tryz.f46) [1, 0, 1, 0, 0]) (ρ := Unit ⊕ Unit) (names_all_Irb_judge_irb_L1 a1 a2)
    (fun v3 : Int => ([(1, .fn (.func 47) [.agg (c81 a2)] []), (4, .v (.bool false)), (7, .sl 101 a1), (8, .j (a1.length : Int)), (9, .j v3)] : Fr DD)) (fun v3 : Int => ([] : Heap DD)) (fun r => match r with | Sum.inl _ => .ret | Sum.inr _ => .exit 0) (fun r => match r with | Sum.inl _ => [(4, .v (.bool false))] | Sum.inr _ => [(4, .v (.bool false))]) (fun r => match r with | Sum.inl _ => [] | Sum.inr _ => []) := by
  refine loop_sound3 (fun s q h => ?_) (fun r => ?_)
  · replace h : names_all_Irb_judge_irb_L1 a1 a2 s = some q := h; revert h; revert s; intro v3 h
    unfold names_all_Irb_judge_irb_L1 at h
    rcases ite_out h with ⟨h4, h⟩ | ⟨h4, h⟩
    · obtain ⟨x5, h6, h⟩ := bind_out h
      obtain ⟨r7, h8, h⟩ := bind_out h
      rcases ite_out h with ⟨h9, h⟩ | ⟨h9, h⟩
      · injection h with h; subst h; exact rl [4] [] [.dec true, .row (c101 x5), .callv (.v (.bool r7)), .dec true] (by kernel_rfl) (pc (h4) <| pc (ob101 h6) <| pc (k_names_judge_irb h8) <| pc (h9) <| pn)
      · injection h with h; subst h; exact rl [1, 4, 7, 8, 9] [] [.dec true, .row (c101 x5), .callv (.v (.bool r7)), .dec false] (by kernel_rfl) (pc (h4) <| pc (ob101 h6) <| pc (k_names_judge_irb h8) <| pc (h9) <| pn)
    · injection h with h; subst h; exact rl [4] [] [.dec false] (by kernel_rfl) (pc (h4) <| pn)
  · rcases r with _ | _ <;> exact Ex.noConfusion

theorem k_names_all_Irb_judge_irb {a1 : List Api_Irb} {a2 : Names_judge} {r : Bool} (h : names_all_Irb_judge_irb a1 a2 = some r) :
    CallsOK Tryz.prog UU 46 [.sl 101 a1, .fn (.func 47) [.agg (c81 a2)] []] [] (.v (.bool r)) [] := by
  unfold names_all_Irb_judge_irb at h
  obtain ⟨r11, h10, h⟩ := bind_out h
  rcases r11 with _ | _
  · injection h with h; subst h; exact rf Tryz.func46 rfl none [.sum [1, 4, 7, 8, 9] [] .ret [(4, .v (.bool false))] []] (by kernel_rfl) (pc (k_names_all_Irb_judge_irb_L1 _ _ h10) <| pn)
  · injection h with h; subst h; exact rf Tryz.func46 rfl none [.sum [1, 4, 7, 8, 9] [] (.exit 0) [(4, .v (.bool false))] []] (by kernel_rfl) (pc (k_names_all_Irb_judge_irb_L1 _ _ h10) <| pn)

theorem k_names_Right {a1 : Api_Net} {r : Bool} (h : names_Right a1 = some r) :
    CallsOK Tryz.prog UU 15 [.agg (c31 a1)] [] (.v (.bool r)) [] := by
  unfold names_Right at h
  obtain ⟨r2, h3, h⟩ := bind_out h
  rcases ite_out h with ⟨h4, h⟩ | ⟨h4, h⟩
  · obtain ⟨r5, h6, h⟩ := bind_out h
    rcases ite_out h with ⟨h7, h⟩ | ⟨h7, h⟩
    · obtain ⟨r8, h9, h⟩ := bind_out h
      rcases ite_out h with ⟨h10, h⟩ | ⟨h10, h⟩
      · obtain ⟨r11, h12, h⟩ := bind_out h
        rcases ite_out h with ⟨h13, h⟩ | ⟨h13, h⟩
        · obtain ⟨r14, h15, h⟩ := bind_out h
          rcases ite_out h with ⟨h16, h⟩ | ⟨h16, h⟩
          · obtain ⟨r17, h18, h⟩ := bind_out h
            rcases ite_out h with ⟨h19, h⟩ | ⟨h19, h⟩
            · obtain ⟨r20, h21, h⟩ := bind_out h
              rcases ite_out h with ⟨h22, h⟩ | ⟨h22, h⟩
              · obtain ⟨r23, h24, h⟩ := bind_out h
                rcases ite_out h with ⟨h25, h⟩ | ⟨h25, h⟩
                · obtain ⟨r26, h27, h⟩ := bind_out h
                  injection h with h; subst h; exact rf Tryz.func15 rfl none [.callv (.v (.bool r2)), .dec true, .callv (.v (.bool r5)), .dec true, .callv (.v (.bool r8)), .dec true, .callv (.v (.bool r11)), .dec true, .callv (.v (.bool r14)), .dec true, .callv (.v (.bool r17)), .dec true, .callv (.v (.bool r20)), .dec true, .callv (.v (.bool r23)), .dec true, .callv (.v (.bool r26))] (by kernel_rfl) (pc (k_names_judge_few h3) <| pc (h4) <| pc (k_names_all_Domain_judge_bare h6) <| pc (h7) <| pc (k_names_all_Domain_judge_peers h9) <| pc (h10) <| pc (k_names_all_Port_judge_port h12) <| pc (h13) <| pc (k_names_all_Link_judge_link h15) <| pc (h16) <| pc (k_names_all_Static_judge_static h18) <| pc (h19) <| pc (k_names_all_Flood_Right_1 h21) <| pc (h22) <| pc (k_names_all_Vrf_Right_2 h24) <| pc (h25) <| pc (k_names_all_Irb_judge_irb h27) <| pn)
                · injection h with h; subst h; exact rf Tryz.func15 rfl none [.callv (.v (.bool r2)), .dec true, .callv (.v (.bool r5)), .dec true, .callv (.v (.bool r8)), .dec true, .callv (.v (.bool r11)), .dec true, .callv (.v (.bool r14)), .dec true, .callv (.v (.bool r17)), .dec true, .callv (.v (.bool r20)), .dec true, .callv (.v (.bool r23)), .dec false] (by kernel_rfl) (pc (k_names_judge_few h3) <| pc (h4) <| pc (k_names_all_Domain_judge_bare h6) <| pc (h7) <| pc (k_names_all_Domain_judge_peers h9) <| pc (h10) <| pc (k_names_all_Port_judge_port h12) <| pc (h13) <| pc (k_names_all_Link_judge_link h15) <| pc (h16) <| pc (k_names_all_Static_judge_static h18) <| pc (h19) <| pc (k_names_all_Flood_Right_1 h21) <| pc (h22) <| pc (k_names_all_Vrf_Right_2 h24) <| pc (h25) <| pn)
              · injection h with h; subst h; exact rf Tryz.func15 rfl none [.callv (.v (.bool r2)), .dec true, .callv (.v (.bool r5)), .dec true, .callv (.v (.bool r8)), .dec true, .callv (.v (.bool r11)), .dec true, .callv (.v (.bool r14)), .dec true, .callv (.v (.bool r17)), .dec true, .callv (.v (.bool r20)), .dec false] (by kernel_rfl) (pc (k_names_judge_few h3) <| pc (h4) <| pc (k_names_all_Domain_judge_bare h6) <| pc (h7) <| pc (k_names_all_Domain_judge_peers h9) <| pc (h10) <| pc (k_names_all_Port_judge_port h12) <| pc (h13) <| pc (k_names_all_Link_judge_link h15) <| pc (h16) <| pc (k_names_all_Static_judge_static h18) <| pc (h19) <| pc (k_names_all_Flood_Right_1 h21) <| pc (h22) <| pn)
            · injection h with h; subst h; exact rf Tryz.func15 rfl none [.callv (.v (.bool r2)), .dec true, .callv (.v (.bool r5)), .dec true, .callv (.v (.bool r8)), .dec true, .callv (.v (.bool r11)), .dec true, .callv (.v (.bool r14)), .dec true, .callv (.v (.bool r17)), .dec false] (by kernel_rfl) (pc (k_names_judge_few h3) <| pc (h4) <| pc (k_names_all_Domain_judge_bare h6) <| pc (h7) <| pc (k_names_all_Domain_judge_peers h9) <| pc (h10) <| pc (k_names_all_Port_judge_port h12) <| pc (h13) <| pc (k_names_all_Link_judge_link h15) <| pc (h16) <| pc (k_names_all_Static_judge_static h18) <| pc (h19) <| pn)
          · injection h with h; subst h; exact rf Tryz.func15 rfl none [.callv (.v (.bool r2)), .dec true, .callv (.v (.bool r5)), .dec true, .callv (.v (.bool r8)), .dec true, .callv (.v (.bool r11)), .dec true, .callv (.v (.bool r14)), .dec false] (by kernel_rfl) (pc (k_names_judge_few h3) <| pc (h4) <| pc (k_names_all_Domain_judge_bare h6) <| pc (h7) <| pc (k_names_all_Domain_judge_peers h9) <| pc (h10) <| pc (k_names_all_Port_judge_port h12) <| pc (h13) <| pc (k_names_all_Link_judge_link h15) <| pc (h16) <| pn)
        · injection h with h; subst h; exact rf Tryz.func15 rfl none [.callv (.v (.bool r2)), .dec true, .callv (.v (.bool r5)), .dec true, .callv (.v (.bool r8)), .dec true, .callv (.v (.bool r11)), .dec false] (by kernel_rfl) (pc (k_names_judge_few h3) <| pc (h4) <| pc (k_names_all_Domain_judge_bare h6) <| pc (h7) <| pc (k_names_all_Domain_judge_peers h9) <| pc (h10) <| pc (k_names_all_Port_judge_port h12) <| pc (h13) <| pn)
      · injection h with h; subst h; exact rf Tryz.func15 rfl none [.callv (.v (.bool r2)), .dec true, .callv (.v (.bool r5)), .dec true, .callv (.v (.bool r8)), .dec false] (by kernel_rfl) (pc (k_names_judge_few h3) <| pc (h4) <| pc (k_names_all_Domain_judge_bare h6) <| pc (h7) <| pc (k_names_all_Domain_judge_peers h9) <| pc (h10) <| pn)
    · injection h with h; subst h; exact rf Tryz.func15 rfl none [.callv (.v (.bool r2)), .dec true, .callv (.v (.bool r5)), .dec false] (by kernel_rfl) (pc (k_names_judge_few h3) <| pc (h4) <| pc (k_names_all_Domain_judge_bare h6) <| pc (h7) <| pn)
  · injection h with h; subst h; exact rf Tryz.func15 rfl none [.callv (.v (.bool r2)), .dec false] (by kernel_rfl) (pc (k_names_judge_few h3) <| pc (h4) <| pn)

theorem k_links_Other {a1 : Api_Net} {a2 : Int} {r : Int} (h : links_Other a1 a2 = some r) :
    CallsOK Tryz.prog UU 13 [.agg (c31 a1), .j a2] [] (.j r) [] := by
  unfold links_Other at h
  rcases ite_out h with ⟨h3, h⟩ | ⟨h3, h⟩
  · injection h with h; subst h; exact rf Tryz.func13 rfl none [.dec true] (by kernel_rfl) (pc (h3) <| pn)
  · rcases ite_out h with ⟨h4, h⟩ | ⟨h4, h⟩
    · injection h with h; subst h; exact rf Tryz.func13 rfl none [.dec false, .dec true] (by kernel_rfl) (pc (h3) <| pc (h4) <| pn)
    · obtain ⟨x5, h6, h⟩ := bind_out h
      rcases ite_out h with ⟨h7, h⟩ | ⟨h7, h⟩
      · injection h with h; subst h; exact rf Tryz.func13 rfl none [.dec false, .dec false, .row (c52 x5), .dec true] (by kernel_rfl) (pc (h3) <| pc (h4) <| pc (ob52 h6) <| pc (h7) <| pn)
      · obtain ⟨r8, h9, h⟩ := bind_out h
        rcases ite_out h with ⟨h10, h⟩ | ⟨h10, h⟩
        · injection h with h; subst h; exact rf Tryz.func13 rfl none [.dec false, .dec false, .row (c52 x5), .dec false, .callv (.v (.bool r8)), .dec true] (by kernel_rfl) (pc (h3) <| pc (h4) <| pc (ob52 h6) <| pc (h7) <| pc (k_names_Right h9) <| pc (h10) <| pn)
        · obtain ⟨x11, h12, h⟩ := bind_out h
          obtain ⟨x13, h14, h⟩ := bind_out h
          rcases ite_out h with ⟨h15, h⟩ | ⟨h15, h⟩
          · injection h with h; subst h; exact rf Tryz.func13 rfl none [.dec false, .dec false, .row (c52 x5), .dec false, .callv (.v (.bool r8)), .dec false, .row (c52 x11), .row (c54 x13), .dec true] (by kernel_rfl) (pc (h3) <| pc (h4) <| pc (ob52 h6) <| pc (h7) <| pc (k_names_Right h9) <| pc (h10) <| pc (ob52 h12) <| pc (ob54 h14) <| pc (h15) <| pn)
          · injection h with h; subst h; exact rf Tryz.func13 rfl none [.dec false, .dec false, .row (c52 x5), .dec false, .callv (.v (.bool r8)), .dec false, .row (c52 x11), .row (c54 x13), .dec false] (by kernel_rfl) (pc (h3) <| pc (h4) <| pc (ob52 h6) <| pc (h7) <| pc (k_names_Right h9) <| pc (h10) <| pc (ob52 h12) <| pc (ob54 h14) <| pc (h15) <| pn)

theorem k_links_Cross {a1 : Api_Net} {a2 : Int} {a3 : Int} {r : Int × Int × Bool} (h : links_Cross a1 a2 a3 = some r) :
    CallsOK Tryz.prog UU 11 [.agg (c31 a1), .j a2, .j a3] [] (.tup [.v (.int .i64 r.1), .v (.int .i64 r.2.1), .v (.bool r.2.2)]) [] := by
  unfold links_Cross at h
  obtain ⟨r4, h5, h⟩ := bind_out h
  rcases ite_out h with ⟨h6, h⟩ | ⟨h6, h⟩
  · injection h with h; subst h; exact rf Tryz.func11 rfl none [.callv (.j r4), .dec true] (by kernel_rfl) (pc (k_links_Other h5) <| pc (h6) <| pn)
  · obtain ⟨x7, h8, h⟩ := bind_out h
    obtain ⟨r9, h10, h⟩ := bind_out h
    rcases ite_out h with ⟨h11, h⟩ | ⟨h11, h⟩
    · injection h with h; subst h; exact rf Tryz.func11 rfl none [.callv (.j r4), .dec false, .row (c52 x7), .callv (.v (.bool r9)), .dec true] (by kernel_rfl) (pc (k_links_Other h5) <| pc (h6) <| pc (ob52 h8) <| pc (k_names_Member h10) <| pc (h11) <| pn)
    · obtain ⟨x12, h13, h⟩ := bind_out h
      obtain ⟨x14, h15, h⟩ := bind_out h
      rcases ite_out h with ⟨h16, h⟩ | ⟨h16, h⟩
      · rcases ite_out h with ⟨h17, h⟩ | ⟨h17, h⟩
        · injection h with h; subst h; exact rf Tryz.func11 rfl none [.callv (.j r4), .dec false, .row (c52 x7), .callv (.v (.bool r9)), .dec false, .row (c52 x12), .row (c52 x14), .dec true, .dec true] (by kernel_rfl) (pc (k_links_Other h5) <| pc (h6) <| pc (ob52 h8) <| pc (k_names_Member h10) <| pc (h11) <| pc (ob52 h13) <| pc (ob52 h15) <| pc (h16) <| pc (h17) <| pn)
        · injection h with h; subst h; exact rf Tryz.func11 rfl none [.callv (.j r4), .dec false, .row (c52 x7), .callv (.v (.bool r9)), .dec false, .row (c52 x12), .row (c52 x14), .dec true, .dec false] (by kernel_rfl) (pc (k_links_Other h5) <| pc (h6) <| pc (ob52 h8) <| pc (k_names_Member h10) <| pc (h11) <| pc (ob52 h13) <| pc (ob52 h15) <| pc (h16) <| pc (h17) <| pn)
      · obtain ⟨r18, h19, h⟩ := bind_out h
        rcases ite_out h with ⟨h20, h⟩ | ⟨h20, h⟩
        · rcases ite_out h with ⟨h21, h⟩ | ⟨h21, h⟩
          · injection h with h; subst h; exact rf Tryz.func11 rfl none [.callv (.j r4), .dec false, .row (c52 x7), .callv (.v (.bool r9)), .dec false, .row (c52 x12), .row (c52 x14), .dec false, .callv (.v (.bool r18)), .dec true, .dec true] (by kernel_rfl) (pc (k_links_Other h5) <| pc (h6) <| pc (ob52 h8) <| pc (k_names_Member h10) <| pc (h11) <| pc (ob52 h13) <| pc (ob52 h15) <| pc (h16) <| pc (k_slices_Contains_int h19) <| pc (h20) <| pc (h21) <| pn)
          · injection h with h; subst h; exact rf Tryz.func11 rfl none [.callv (.j r4), .dec false, .row (c52 x7), .callv (.v (.bool r9)), .dec false, .row (c52 x12), .row (c52 x14), .dec false, .callv (.v (.bool r18)), .dec true, .dec false] (by kernel_rfl) (pc (k_links_Other h5) <| pc (h6) <| pc (ob52 h8) <| pc (k_names_Member h10) <| pc (h11) <| pc (ob52 h13) <| pc (ob52 h15) <| pc (h16) <| pc (k_slices_Contains_int h19) <| pc (h20) <| pc (h21) <| pn)
        · rcases ite_out h with ⟨h22, h⟩ | ⟨h22, h⟩
          · injection h with h; subst h; exact rf Tryz.func11 rfl none [.callv (.j r4), .dec false, .row (c52 x7), .callv (.v (.bool r9)), .dec false, .row (c52 x12), .row (c52 x14), .dec false, .callv (.v (.bool r18)), .dec false, .dec true] (by kernel_rfl) (pc (k_links_Other h5) <| pc (h6) <| pc (ob52 h8) <| pc (k_names_Member h10) <| pc (h11) <| pc (ob52 h13) <| pc (ob52 h15) <| pc (h16) <| pc (k_slices_Contains_int h19) <| pc (h20) <| pc (h22) <| pn)
          · injection h with h; subst h; exact rf Tryz.func11 rfl none [.callv (.j r4), .dec false, .row (c52 x7), .callv (.v (.bool r9)), .dec false, .row (c52 x12), .row (c52 x14), .dec false, .callv (.v (.bool r18)), .dec false, .dec false] (by kernel_rfl) (pc (k_links_Other h5) <| pc (h6) <| pc (ob52 h8) <| pc (k_names_Member h10) <| pc (h11) <| pc (ob52 h13) <| pc (ob52 h15) <| pc (h16) <| pc (k_slices_Contains_int h19) <| pc (h20) <| pc (h22) <| pn)

theorem k_names_Domain_1 {a1 : Api_Domain} {a2 : Int} {a3 : Int} {r : Bool} (h : names_Domain_1 a1 a2 a3 = some r) :
    CallsOK Tryz.prog UU 66 [.agg (c56 a1), .rp (c3 a2) 0, .rp (c3 a3) 0] [] (.v (.bool r)) [] := by
  unfold names_Domain_1 at h
  rcases ite_out h with ⟨h4, h⟩ | ⟨h4, h⟩
  · injection h with h; subst h; exact rf Tryz.func66 rfl none [.dec true] (by kernel_rfl) (pc (h4) <| pn)
  · injection h with h; subst h; exact rf Tryz.func66 rfl none [.dec false] (by kernel_rfl) (pc (h4) <| pn)

theorem k_slices_IndexFunc_Domain_Domain_1_L1 {a1 : List Api_Domain} {a2 : Int} {a3 : Int} : LoopOK Tryz.prog UU 0 19 (subC (codeOf Tryz.f96) [1, 0, 1, 0, 0]) (ρ := Int ⊕ Unit) (slices_IndexFunc_Domain_Domain_1_L1 a1 a2 a3)
    (fun v4 : Int => ([(0, .sl 56 a1), (1, .fn (.func 66) [] [.rp (c3 a2) 0, .rp (c3 a3) 0]), (4, .z), (7, .j (a1.length : Int)), (8, .j v4)] : Fr DD)) (fun v4 : Int => ([] : Heap DD)) (fun r => match r with | Sum.inl v12 => .ret | Sum.inr _ => .exit 0) (fun r => match r with | Sum.inl v12 => [(4, .j v12)] | Sum.inr _ => [(4, .z)]) (fun r => match r with | Sum.inl v12 => [] | Sum.inr _ => []) := by
  refine loop_sound3 (fun s q h => ?_) (fun r => ?_)
  · replace h : slices_IndexFunc_Domain_Domain_1_L1 a1 a2 a3 s = some q := h; revert h; revert s; intro v4 h
    unfold slices_IndexFunc_Domain_Domain_1_L1 at h
    rcases ite_out h with ⟨h5, h⟩ | ⟨h5, h⟩
    · obtain ⟨x6, h7, h⟩ := bind_out h
      obtain ⟨r8, h9, h⟩ := bind_out h
      rcases ite_out h with ⟨h10, h⟩ | ⟨h10, h⟩
      · injection h with h; subst h; exact rl [4] [] [.dec true, .row (c56 x6), .callv (.v (.bool r8)), .dec true] (by kernel_rfl) (pc (h5) <| pc (ob56 h7) <| pc (k_names_Domain_1 h9) <| pc (h10) <| pn)
      · injection h with h; subst h; exact rl [0, 1, 4, 7, 8] [] [.dec true, .row (c56 x6), .callv (.v (.bool r8)), .dec false] (by kernel_rfl) (pc (h5) <| pc (ob56 h7) <| pc (k_names_Domain_1 h9) <| pc (h10) <| pn)
    · injection h with h; subst h; exact rl [4] [] [.dec false] (by kernel_rfl) (pc (h5) <| pn)
  · rcases r with _ | _ <;> exact Ex.noConfusion

theorem k_slices_IndexFunc_Domain_Domain_1 {a1 : List Api_Domain} {a2 : Int} {a3 : Int} {r : Int} (h : slices_IndexFunc_Domain_Domain_1 a1 a2 a3 = some r) :
    CallsOK Tryz.prog UU 96 [.sl 56 a1, .fn (.func 66) [] [.rp (c3 a2) 0, .rp (c3 a3) 0]] [] (.j r) [] := by
  unfold slices_IndexFunc_Domain_Domain_1 at h
  obtain ⟨r14, h13, h⟩ := bind_out h
  rcases r14 with v12 | _
  · injection h with h; subst h; exact rf Tryz.func96 rfl none [.sum [0, 1, 4, 7, 8] [] .ret [(4, .j v12)] []] (by kernel_rfl) (pc (k_slices_IndexFunc_Domain_Domain_1_L1 _ _ h13) <| pn)
  · injection h with h; subst h; exact rf Tryz.func96 rfl none [.sum [0, 1, 4, 7, 8] [] (.exit 0) [(4, .z)] []] (by kernel_rfl) (pc (k_slices_IndexFunc_Domain_Domain_1_L1 _ _ h13) <| pn)

theorem k_names_find_Domain_Domain_1 {a1 : Api_Net} {a2 : List Api_Domain} {a3 : Int} {a4 : Int} {r : Int} (h : names_find_Domain_Domain_1 a1 a2 a3 a4 = some r) :
    CallsOK Tryz.prog UU 65 [.agg (c31 a1), .sl 56 a2, .fn (.func 66) [] [.rp (c3 a3) 0, .rp (c3 a4) 0]] [] (.j r) [] := by
  unfold names_find_Domain_Domain_1 at h
  obtain ⟨r5, h6, h⟩ := bind_out h
  rcases ite_out h with ⟨h7, h⟩ | ⟨h7, h⟩
  · injection h with h; subst h; exact rf Tryz.func65 rfl none [.callv (.v (.bool r5)), .dec true] (by kernel_rfl) (pc (k_names_Right h6) <| pc (h7) <| pn)
  · obtain ⟨r8, h9, h⟩ := bind_out h
    injection h with h; subst h; exact rf Tryz.func65 rfl none [.callv (.v (.bool r5)), .dec false, .callv (.j r8)] (by kernel_rfl) (pc (k_names_Right h6) <| pc (h7) <| pc (k_slices_IndexFunc_Domain_Domain_1 h9) <| pn)

theorem k_names_Domain {a1 : Api_Net} {a2 : Int} {a3 : Int} {r : Int} (h : names_Domain a1 a2 a3 = some r) :
    CallsOK Tryz.prog UU 26 [.agg (c31 a1), .j a2, .j a3] [] (.j r) [] := by
  unfold names_Domain at h
  obtain ⟨r4, h5, h⟩ := bind_out h
  injection h with h; subst h; exact rf Tryz.func26 rfl none [.callv (.j r4)] (by kernel_rfl) (pc (k_names_find_Domain_Domain_1 h5) <| pn)

theorem k_links_Domain {a1 : Api_Net} {a2 : Int} {a3 : Int} {r : Int × Bool} (h : links_Domain a1 a2 a3 = some r) :
    CallsOK Tryz.prog UU 12 [.agg (c31 a1), .j a2, .j a3] [] (.tup [.v (.int .i64 r.1), .v (.bool r.2)]) [] := by
  unfold links_Domain at h
  obtain ⟨r4, h5, h⟩ := bind_out h
  rcases ite_out h with ⟨h6, h⟩ | ⟨h6, h⟩
  · injection h with h; subst h; exact rf Tryz.func12 rfl none [.callv (.tup [.v (.int .i64 r4.1), .v (.int .i64 r4.2.1), .v (.bool r4.2.2)]), .dec true] (by kernel_rfl) (pc (k_links_Cross h5) <| pc (h6) <| pn)
  · obtain ⟨x7, h8, h⟩ := bind_out h
    obtain ⟨r9, h10, h⟩ := bind_out h
    injection h with h; subst h; exact rf Tryz.func12 rfl none [.callv (.tup [.v (.int .i64 r4.1), .v (.int .i64 r4.2.1), .v (.bool r4.2.2)]), .dec false, .row (c52 x7), .callv (.j r9)] (by kernel_rfl) (pc (k_links_Cross h5) <| pc (h6) <| pc (ob52 h8) <| pc (k_names_Domain h10) <| pn)

end Go.Eng
