/- Part of the proof of DomainsTells: printed mirrors of the functions, or their contracts. No conditions. -/
import Derived.Test.YtngflgclljfmjaaGreatMAK4
set_option linter.unusedVariables false
set_option maxRecDepth 100000
namespace Go.Eng
open Go Go.Proofs
theorem k_palinglaw18_works {r : Bool} (h : palinglaw18_works = some r) :
    CallsOK Tryz.prog UU 11 [] [] (.v (.bool r)) [] := by
  have hr : some true = some r := (by kernel_rfl : palinglaw18_works = some true).symm.trans h
  unfold palinglaw18_works at h
  obtain ⟨r1, h2, h⟩ := bo h
  obtain ⟨l3, l4, l5, l6, l7, l8, l9, l10, n11, n12, n13, n14, v15⟩ := r1
  obtain ⟨r16, h17, h⟩ := bo h
  obtain ⟨l18, l19, l20, l21, l22, l23, l24, l25, n26, n27, n28, n29, v30⟩ := r16
  obtain ⟨h31, h⟩|⟨h31, h⟩ := ite_out h
  · obtain ⟨r32, h33, h⟩ := bo h
    obtain ⟨h34, h⟩|⟨h34, h⟩ := ite_out h
    · obtain ⟨r35, h36, h⟩ := bo h
      obtain ⟨h37, h⟩|⟨h37, h⟩ := ite_out h
      · obtain ⟨r38, h39, h⟩ := bo h
        obtain ⟨h40, h⟩|⟨h40, h⟩ := ite_out h
        · obtain ⟨r41, h42, h⟩ := bo h
          obtain ⟨h43, h⟩|⟨h43, h⟩ := ite_out h
          · injection h with h; subst h; exact rf Tryz.func11 none [.obj [] (.arr 91 [(⟨0, 0, (⟨#[97]⟩ : ByteArray), 0, 0⟩ : Api_Device)] (List.length [(⟨0, 0, (⟨#[97]⟩ : ByteArray), 0, 0⟩ : Api_Device)]) false), .obj [] (.arr 56 [(⟨0, 0, 10, 0, (-1), (⟨#[112]⟩ : ByteArray), []⟩ : Api_Port)] (List.length [(⟨0, 0, 10, 0, (-1), (⟨#[112]⟩ : ByteArray), []⟩ : Api_Port)]) false), .obj [] (.arr 93 [(⟨0, 10, 0, (-1), 0, []⟩ : Api_Domain)] (List.length [(⟨0, 10, 0, (-1), 0, []⟩ : Api_Domain)]) false), .frz [0, 1, 12, 2, 13, 14, 15, 16], .callm [] (.tup [.agg [.os 0 l3.length, .os 1 n11, .os 2 l5.length, .os 3 n12, .os 4 l7.length, .os 5 n13, .os 6 n14, .os 7 l10.length], .j v15]) [.arr 91 l3 l3.length false, .arr 56 l4 n11 false, .arr 112 l5 l5.length false, .arr 93 l6 n12 false, .arr 97 l7 l7.length false, .arr 100 l8 n13 false, .arr 103 l9 n14 false, .arr 118 l10 l10.length false], .frz [17, 18, 19, 20, 21, 22, 23, 24], .callm [] (.tup [.agg [.os 0 l18.length, .os 1 n26, .os 2 l20.length, .os 3 n27, .os 4 l22.length, .os 5 n28, .os 6 n29, .os 7 l25.length], .j v30]) [.arr 91 l18 l18.length false, .arr 56 l19 n26 false, .arr 112 l20 l20.length false, .arr 93 l21 n27 false, .arr 97 l22 l22.length false, .arr 100 l23 n28 false, .arr 103 l24 n29 false, .arr 118 l25 l25.length false], .t, .callv (.j r32), .t, .callv (.j r35), .t, .callv (.v (.string r38)), .t, .callf [0, 1, 12, 2, 13, 14, 15, 16] (.sl 3 r41), .t] (pc (bs_ob 91 [(⟨0, 0, (⟨#[97]⟩ : ByteArray), 0, 0⟩ : Api_Device)])<|pc (bs_ob 56 [(⟨0, 0, 10, 0, (-1), (⟨#[112]⟩ : ByteArray), []⟩ : Api_Port)])<|pc (bs_ob 93 [(⟨0, 10, 0, (-1), 0, []⟩ : Api_Domain)])<|pc ((rn (List.length [(⟨0, 0, (⟨#[97]⟩ : ByteArray), 0, 0⟩ : Api_Device)])))<|pc ((rn (List.length [(⟨0, 0, 10, 0, (-1), (⟨#[112]⟩ : ByteArray), []⟩ : Api_Port)])))<|pc (rn 0)<|pc ((rn (List.length [(⟨0, 10, 0, (-1), 0, []⟩ : Api_Domain)])))<|pc (rn 0)<|pc (rn 0)<|pc (rn 0)<|pc (rn 0)<|pc (k_domains_Static h2)<|pc (rn l3.length)<|pc (rn n11)<|pc (rn l5.length)<|pc (rn n12)<|pc (rn l7.length)<|pc (rn n13)<|pc (rn n14)<|pc (rn l10.length)<|pc (k_domains_Static h17)<|pc h31<|pc (k_domains_Lookup h33)<|pc (rn l3.length)<|pc (rn n11)<|pc (rn l5.length)<|pc (rn n12)<|pc (rn l7.length)<|pc (rn n13)<|pc (rn n14)<|pc (rn l10.length)<|pc h34<|pc (k_domains_Lookup h36)<|pc ((rn (List.length [(⟨0, 0, (⟨#[97]⟩ : ByteArray), 0, 0⟩ : Api_Device)])))<|pc ((rn (List.length [(⟨0, 0, 10, 0, (-1), (⟨#[112]⟩ : ByteArray), []⟩ : Api_Port)])))<|pc (rn 0)<|pc ((rn (List.length [(⟨0, 10, 0, (-1), 0, []⟩ : Api_Domain)])))<|pc (rn 0)<|pc (rn 0)<|pc (rn 0)<|pc (rn 0)<|pc h37<|pc (k_domains_Text h39)<|pc ((rn (List.length [(⟨0, 0, (⟨#[97]⟩ : ByteArray), 0, 0⟩ : Api_Device)])))<|pc ((rn (List.length [(⟨0, 0, 10, 0, (-1), (⟨#[112]⟩ : ByteArray), []⟩ : Api_Port)])))<|pc (rn 0)<|pc ((rn (List.length [(⟨0, 10, 0, (-1), 0, []⟩ : Api_Domain)])))<|pc (rn 0)<|pc (rn 0)<|pc (rn 0)<|pc (rn 0)<|pc h40<|pc (k_domains_Hosts h42)<|pc ((rn (List.length [(⟨0, 0, (⟨#[97]⟩ : ByteArray), 0, 0⟩ : Api_Device)])))<|pc ((rn (List.length [(⟨0, 0, 10, 0, (-1), (⟨#[112]⟩ : ByteArray), []⟩ : Api_Port)])))<|pc (rn 0)<|pc ((rn (List.length [(⟨0, 10, 0, (-1), 0, []⟩ : Api_Domain)])))<|pc (rn 0)<|pc (rn 0)<|pc (rn 0)<|pc (rn 0)<|pc h43<|pn)
          · exact absurd (hr.trans h.symm) (by decide)
        · exact absurd (hr.trans h.symm) (by decide)
      · exact absurd (hr.trans h.symm) (by decide)
    · exact absurd (hr.trans h.symm) (by decide)
  · exact absurd (hr.trans h.symm) (by decide)

theorem k_palingref15_Place {a1 : Int} {a2 : Int} {r : Bool} (h : palingref15_Place a1 a2 = some r) :
    CallsOK Tryz.prog UU 67 [.j a1, .j a2] [] (.v (.bool r)) [] := by
  unfold palingref15_Place at h
  obtain ⟨h3, h⟩|⟨h3, h⟩ := ite_out h
  · injection h with h; subst h; exact rf Tryz.func67 none [.t] (pc h3<|pn)
  · injection h with h; subst h; exact rf Tryz.func67 none [.f] (pc h3<|pn)

theorem k_palingref15_At_L1 {a1 : Api_Net} {a2 : Int} {a3 : Int} : LoopOK Tryz.prog UU 0 34 (subC (codeOf Tryz.f53) [1, 0, 1, 0, 0]) (ρ := Int ⊕ Unit) (palingref15_At_L1 a1 a2 a3)
    (fun v4 : Int => ([(1, .j a2), (2, .j a3), (3, .op 0 1 0 0), (6, .z), (7, .j v4)] : Fr DD)) (fun v4 : Int => ([.box 31 (c31 a1) false] : Heap DD)) (fun r => match r with | Sum.inl v13 => .ret | Sum.inr _ => .exit 0) (fun r => match r with | Sum.inl v13 => [(6, .j v13)] | Sum.inr _ => [(6, .z)]) (fun r => match r with | Sum.inl v13 => [] | Sum.inr _ => []) := by
  refine loop_sound3 (fun s q h => ?_) (fun r => ?_)
  · replace h : palingref15_At_L1 a1 a2 a3 s = some q := h; revert h; revert s; intro v4 h
    unfold palingref15_At_L1 at h
    obtain ⟨h5, h⟩|⟨h5, h⟩ := ite_out h
    · obtain ⟨x6, h7, h⟩ := bo h
      obtain ⟨h8, h⟩|⟨h8, h⟩ := ite_out h
      · obtain ⟨x9, h10, h⟩ := bo h
        obtain ⟨h11, h⟩|⟨h11, h⟩ := ite_out h
        · injection h with h; subst h; exact rl [6] [] [.t, .row (c93 x6), .t, .row (c93 x9), .t] (pc h5<|pc (ob93 h7)<|pc h8<|pc (ob93 h10)<|pc h11<|pn)
        · injection h with h; subst h; exact rl [1, 2, 3, 6, 7] [0] [.t, .row (c93 x6), .t, .row (c93 x9), .f] (pc h5<|pc (ob93 h7)<|pc h8<|pc (ob93 h10)<|pc h11<|pn)
      · injection h with h; subst h; exact rl [1, 2, 3, 6, 7] [0] [.t, .row (c93 x6), .f] (pc h5<|pc (ob93 h7)<|pc h8<|pn)
    · injection h with h; subst h; exact rl [6] [] [.f] (pc h5<|pn)
  · rcases r with _ | _ <;> exact Ex.noConfusion

theorem k_palingref15_At {a1 : Api_Net} {a2 : Int} {a3 : Int} {r : Int} (h : palingref15_At a1 a2 a3 = some r) :
    CallsOK Tryz.prog UU 53 [.agg (c31 a1), .j a2, .j a3] [] (.j r) [] := by
  unfold palingref15_At at h
  obtain ⟨r15, h14, h⟩ := bo h
  rcases r15 with v13 | _
  · injection h with h; subst h; exact rf Tryz.func53 none [.sum [1, 2, 3, 6, 7] [0] .ret [(6, .j v13)] []] (pc (k_palingref15_At_L1 _ _ h14)<|pn)
  · injection h with h; subst h; exact rf Tryz.func53 none [.sum [1, 2, 3, 6, 7] [0] (.exit 0) [(6, .z)] []] (pc (k_palingref15_At_L1 _ _ h14)<|pn)

theorem k_palingref15_In_L1 {a1 : List Int} {a2 : Int} : LoopOK Tryz.prog UU 0 18 (subC (codeOf Tryz.f154) [1, 0, 1, 0, 0]) (ρ := Unit ⊕ Unit) (palingref15_In_L1 a1 a2)
    (fun v3 : Int => ([(0, .sl 3 a1), (1, .j a2), (4, .v (.bool false)), (5, .j v3)] : Fr DD)) (fun v3 : Int => ([] : Heap DD)) (fun r => match r with | Sum.inl _ => .ret | Sum.inr _ => .exit 0) (fun r => match r with | Sum.inl _ => [(4, .v (.bool true))] | Sum.inr _ => [(4, .v (.bool false))]) (fun r => match r with | Sum.inl _ => [] | Sum.inr _ => []) := by
  refine loop_sound3 (fun s q h => ?_) (fun r => ?_)
  · replace h : palingref15_In_L1 a1 a2 s = some q := h; revert h; revert s; intro v3 h
    unfold palingref15_In_L1 at h
    obtain ⟨h4, h⟩|⟨h4, h⟩ := ite_out h
    · obtain ⟨x5, h6, h⟩ := bo h
      obtain ⟨h7, h⟩|⟨h7, h⟩ := ite_out h
      · injection h with h; subst h; exact rl [4] [] [.t, .row (c3 x5), .t] (pc h4<|pc (ob3 h6)<|pc h7<|pn)
      · injection h with h; subst h; exact rl [0, 1, 4, 5] [] [.t, .row (c3 x5), .f] (pc h4<|pc (ob3 h6)<|pc h7<|pn)
    · injection h with h; subst h; exact rl [4] [] [.f] (pc h4<|pn)
  · rcases r with _ | _ <;> exact Ex.noConfusion

theorem k_palingref15_In {a1 : List Int} {a2 : Int} {r : Bool} (h : palingref15_In a1 a2 = some r) :
    CallsOK Tryz.prog UU 154 [.sl 3 a1, .j a2] [] (.v (.bool r)) [] := by
  unfold palingref15_In at h
  obtain ⟨r9, h8, h⟩ := bo h
  rcases r9 with _ | _
  · injection h with h; subst h; exact rf Tryz.func154 none [.sum [0, 1, 4, 5] [] .ret [(4, .v (.bool true))] []] (pc (k_palingref15_In_L1 _ _ h8)<|pn)
  · injection h with h; subst h; exact rf Tryz.func154 none [.sum [0, 1, 4, 5] [] (.exit 0) [(4, .v (.bool false))] []] (pc (k_palingref15_In_L1 _ _ h8)<|pn)

theorem k_palingref15_peer {a1 : Api_Net} {a2 : Int} {a3 : Int} {r : Bool} (h : palingref15_peer a1 a2 a3 = some r) :
    CallsOK Tryz.prog UU 158 [.agg (c31 a1), .j a2, .j a3] [] (.v (.bool r)) [] := by
  unfold palingref15_peer at h
  obtain ⟨r4, h5, h⟩ := bo h
  obtain ⟨h6, h⟩|⟨h6, h⟩ := ite_out h
  · injection h with h; subst h; exact rf Tryz.func158 none [.b r4, .t] (pc (k_palingref15_Place h5)<|pc h6<|pn)
  · obtain ⟨h7, h⟩|⟨h7, h⟩ := ite_out h
    · injection h with h; subst h; exact rf Tryz.func158 none [.b r4, .f, .t] (pc (k_palingref15_Place h5)<|pc h6<|pc h7<|pn)
    · obtain ⟨x8, h9, h⟩ := bo h
      obtain ⟨x10, h11, h⟩ := bo h
      obtain ⟨h12, h⟩|⟨h12, h⟩ := ite_out h
      · obtain ⟨h13, h⟩|⟨h13, h⟩ := ite_out h
        · obtain ⟨h14, h⟩|⟨h14, h⟩ := ite_out h
          · obtain ⟨x15, h16, h⟩ := bo h
            obtain ⟨h17, h⟩|⟨h17, h⟩ := ite_out h
            · obtain ⟨x18, h19, h⟩ := bo h
              obtain ⟨h20, h⟩|⟨h20, h⟩ := ite_out h
              · obtain ⟨r21, h22, h⟩ := bo h
                injection h with h; subst h; exact rf Tryz.func158 none [.b r4, .f, .f, .row (c93 x8), .row (c93 x10), .t, .t, .t, .row (c91 x15), .t, .row (c91 x18), .t, .b r21] (pc (k_palingref15_Place h5)<|pc h6<|pc h7<|pc (ob93 h9)<|pc (ob93 h11)<|pc h12<|pc h13<|pc h14<|pc (ob91 h16)<|pc h17<|pc (ob91 h19)<|pc h20<|pc (k_palingref15_In h22)<|pn)
              · injection h with h; subst h; exact rf Tryz.func158 none [.b r4, .f, .f, .row (c93 x8), .row (c93 x10), .t, .t, .t, .row (c91 x15), .t, .row (c91 x18), .f] (pc (k_palingref15_Place h5)<|pc h6<|pc h7<|pc (ob93 h9)<|pc (ob93 h11)<|pc h12<|pc h13<|pc h14<|pc (ob91 h16)<|pc h17<|pc (ob91 h19)<|pc h20<|pn)
            · injection h with h; subst h; exact rf Tryz.func158 none [.b r4, .f, .f, .row (c93 x8), .row (c93 x10), .t, .t, .t, .row (c91 x15), .f] (pc (k_palingref15_Place h5)<|pc h6<|pc h7<|pc (ob93 h9)<|pc (ob93 h11)<|pc h12<|pc h13<|pc h14<|pc (ob91 h16)<|pc h17<|pn)
          · injection h with h; subst h; exact rf Tryz.func158 none [.b r4, .f, .f, .row (c93 x8), .row (c93 x10), .t, .t, .f] (pc (k_palingref15_Place h5)<|pc h6<|pc h7<|pc (ob93 h9)<|pc (ob93 h11)<|pc h12<|pc h13<|pc h14<|pn)
        · injection h with h; subst h; exact rf Tryz.func158 none [.b r4, .f, .f, .row (c93 x8), .row (c93 x10), .t, .f] (pc (k_palingref15_Place h5)<|pc h6<|pc h7<|pc (ob93 h9)<|pc (ob93 h11)<|pc h12<|pc h13<|pn)
      · injection h with h; subst h; exact rf Tryz.func158 none [.b r4, .f, .f, .row (c93 x8), .row (c93 x10), .f] (pc (k_palingref15_Place h5)<|pc h6<|pc h7<|pc (ob93 h9)<|pc (ob93 h11)<|pc h12<|pn)

theorem k_palingref15_domains_L1 {a1 : Api_Net} : LoopOK Tryz.prog UU 0 120 (subC (codeOf Tryz.f62) [1, 0, 1, 0, 0]) (ρ := Unit ⊕ Unit) (palingref15_domains_L1 a1)
    (fun v2 : Int => ([(1, .op 0 1 0 0), (2, .v (.bool false)), (3, .j v2)] : Fr DD)) (fun v2 : Int => ([.box 31 (c31 a1) false] : Heap DD)) (fun r => match r with | Sum.inl _ => .ret | Sum.inr _ => .exit 0) (fun r => match r with | Sum.inl _ => [(2, .v (.bool false))] | Sum.inr _ => [(1, .op 0 1 0 0), (2, .v (.bool false))]) (fun r => match r with | Sum.inl _ => [] | Sum.inr _ => [.box 31 (c31 a1) false]) := by
  refine loop_sound3 (fun s q h => ?_) (fun r => ?_)
  · replace h : palingref15_domains_L1 a1 s = some q := h; revert h; revert s; intro v2 h
    unfold palingref15_domains_L1 at h
    obtain ⟨h3, h⟩|⟨h3, h⟩ := ite_out h
    · obtain ⟨x4, h5, h⟩ := bo h
      obtain ⟨r6, h7, h⟩ := bo h
      obtain ⟨h8, h⟩|⟨h8, h⟩ := ite_out h
      · injection h with h; subst h; exact rl [2] [] [.t, .row (c93 x4), .b r6, .t] (pc h3<|pc (ob93 h5)<|pc (k_palingref15_Place h7)<|pc h8<|pn)
      · obtain ⟨h9, h⟩|⟨h9, h⟩ := ite_out h
        · injection h with h; subst h; exact rl [2] [] [.t, .row (c93 x4), .b r6, .f, .t] (pc h3<|pc (ob93 h5)<|pc (k_palingref15_Place h7)<|pc h8<|pc h9<|pn)
        · obtain ⟨h10, h⟩|⟨h10, h⟩ := ite_out h
          · injection h with h; subst h; exact rl [2] [] [.t, .row (c93 x4), .b r6, .f, .f, .t] (pc h3<|pc (ob93 h5)<|pc (k_palingref15_Place h7)<|pc h8<|pc h9<|pc h10<|pn)
          · obtain ⟨h11, h⟩|⟨h11, h⟩ := ite_out h
            · injection h with h; subst h; exact rl [2] [] [.t, .row (c93 x4), .b r6, .f, .f, .f, .t] (pc h3<|pc (ob93 h5)<|pc (k_palingref15_Place h7)<|pc h8<|pc h9<|pc h10<|pc h11<|pn)
            · obtain ⟨h12, h⟩|⟨h12, h⟩ := ite_out h
              · injection h with h; subst h; exact rl [2] [] [.t, .row (c93 x4), .b r6, .f, .f, .f, .f, .t] (pc h3<|pc (ob93 h5)<|pc (k_palingref15_Place h7)<|pc h8<|pc h9<|pc h10<|pc h11<|pc h12<|pn)
              · obtain ⟨r13, h14, h⟩ := bo h
                obtain ⟨h15, h⟩|⟨h15, h⟩ := ite_out h
                · injection h with h; subst h; exact rl [2] [] [.t, .row (c93 x4), .b r6, .f, .f, .f, .f, .f, .callv (.j r13), .t] (pc h3<|pc (ob93 h5)<|pc (k_palingref15_Place h7)<|pc h8<|pc h9<|pc h10<|pc h11<|pc h12<|pc (k_palingref15_At h14)<|pc h15<|pn)
                · obtain ⟨h16, h⟩|⟨h16, h⟩ := ite_out h
                  · obtain ⟨r17, h18, h⟩ := bo h
                    obtain ⟨h19, h⟩|⟨h19, h⟩ := ite_out h
                    · injection h with h; subst h; exact rl [2] [] [.t, .row (c93 x4), .b r6, .f, .f, .f, .f, .f, .callv (.j r13), .f, .t, .b r17, .t] (pc h3<|pc (ob93 h5)<|pc (k_palingref15_Place h7)<|pc h8<|pc h9<|pc h10<|pc h11<|pc h12<|pc (k_palingref15_At h14)<|pc h15<|pc h16<|pc (k_palingref15_Place h18)<|pc h19<|pn)
                    · obtain ⟨x20, h21, h⟩ := bo h
                      obtain ⟨h22, h⟩|⟨h22, h⟩ := ite_out h
                      · injection h with h; subst h; exact rl [2] [] [.t, .row (c93 x4), .b r6, .f, .f, .f, .f, .f, .callv (.j r13), .f, .t, .b r17, .f, .row (c118 x20), .t] (pc h3<|pc (ob93 h5)<|pc (k_palingref15_Place h7)<|pc h8<|pc h9<|pc h10<|pc h11<|pc h12<|pc (k_palingref15_At h14)<|pc h15<|pc h16<|pc (k_palingref15_Place h18)<|pc h19<|pc (ob118 h21)<|pc h22<|pn)
                      · injection h with h; subst h; exact rl [1, 2, 3] [0] [.t, .row (c93 x4), .b r6, .f, .f, .f, .f, .f, .callv (.j r13), .f, .t, .b r17, .f, .row (c118 x20), .f] (pc h3<|pc (ob93 h5)<|pc (k_palingref15_Place h7)<|pc h8<|pc h9<|pc h10<|pc h11<|pc h12<|pc (k_palingref15_At h14)<|pc h15<|pc h16<|pc (k_palingref15_Place h18)<|pc h19<|pc (ob118 h21)<|pc h22<|pn)
                  · injection h with h; subst h; exact rl [1, 2, 3] [0] [.t, .row (c93 x4), .b r6, .f, .f, .f, .f, .f, .callv (.j r13), .f, .f] (pc h3<|pc (ob93 h5)<|pc (k_palingref15_Place h7)<|pc h8<|pc h9<|pc h10<|pc h11<|pc h12<|pc (k_palingref15_At h14)<|pc h15<|pc h16<|pn)
    · injection h with h; subst h; exact rl [1, 2] [0] [.f] (pc h3<|pn)
  · rcases r with _ | _ <;> exact Ex.noConfusion

theorem k_palingref15_domains_L3 {a1 : Api_Net} {v25 : Int} {x27 : Api_Domain} : LoopOK Tryz.prog UU 0 120 (subC (codeOf Tryz.f62) [1, 1, 0, 1, 0, 0, 1, 0, 0, 1, 1, 0, 0]) (ρ := Unit ⊕ Unit) (palingref15_domains_L3 a1 v25 x27)
    (fun v29 : Int => ([(1, .op 0 1 0 0), (2, .v (.bool false)), (5, .j v25), (6, .op 1 1 0 0), (7, .j v29)] : Fr DD)) (fun v29 : Int => ([.box 31 (c31 a1) false, .box 93 (c93 x27) false] : Heap DD)) (fun r => match r with | Sum.inl _ => .ret | Sum.inr _ => .exit 4) (fun r => match r with | Sum.inl _ => [(2, .v (.bool false))] | Sum.inr _ => [(1, .op 0 1 0 0), (2, .v (.bool false)), (5, .j v25)]) (fun r => match r with | Sum.inl _ => [] | Sum.inr _ => [.box 31 (c31 a1) false]) := by
  refine loop_sound3 (fun s q h => ?_) (fun r => ?_)
  · replace h : palingref15_domains_L3 a1 v25 x27 s = some q := h; revert h; revert s; intro v29 h
    unfold palingref15_domains_L3 at h
    obtain ⟨h30, h⟩|⟨h30, h⟩ := ite_out h
    · obtain ⟨x31, h32, h⟩ := bo h
      obtain ⟨r33, h34, h⟩ := bo h
      obtain ⟨h35, h⟩|⟨h35, h⟩ := ite_out h
      · injection h with h; subst h; exact rl [2] [] [.t, .row (c3 x31), .b r33, .t] (pc h30<|pc (ob3 h32)<|pc (k_palingref15_peer h34)<|pc h35<|pn)
      · obtain ⟨h36, h⟩|⟨h36, h⟩ := ite_out h
        · obtain ⟨x37, h38, h⟩ := bo h
          obtain ⟨r39, h40, h⟩ := bo h
          obtain ⟨h41, h⟩|⟨h41, h⟩ := ite_out h
          · injection h with h; subst h; exact rl [2] [] [.t, .row (c3 x31), .b r33, .f, .row (c3 x37), .b r39, .t] (pc h30<|pc (ob3 h32)<|pc (k_palingref15_peer h34)<|pc h35<|pc (sl_ob h36)<|pc (ob3 h38)<|pc (k_palingref15_In h40)<|pc h41<|pn)
          · injection h with h; subst h; exact rl [1, 2, 5, 6, 7] [0, 1] [.t, .row (c3 x31), .b r33, .f, .row (c3 x37), .b r39, .f] (pc h30<|pc (ob3 h32)<|pc (k_palingref15_peer h34)<|pc h35<|pc (sl_ob h36)<|pc (ob3 h38)<|pc (k_palingref15_In h40)<|pc h41<|pn)
        · cases h
    · injection h with h; subst h; exact rl [1, 2, 5] [0] [.f] (pc h30<|pn)
  · rcases r with _ | _ <;> exact Ex.noConfusion

theorem k_palingref15_domains_L2 {a1 : Api_Net} : LoopOK Tryz.prog UU 0 120 (subC (codeOf Tryz.f62) [1, 1, 0, 1, 0, 0]) (ρ := Unit ⊕ Unit) (palingref15_domains_L2 a1)
    (fun v25 : Int => ([(1, .op 0 1 0 0), (2, .v (.bool false)), (5, .j v25)] : Fr DD)) (fun v25 : Int => ([.box 31 (c31 a1) false] : Heap DD)) (fun r => match r with | Sum.inl _ => .ret | Sum.inr _ => .exit 2) (fun r => match r with | Sum.inl _ => [(2, .v (.bool false))] | Sum.inr _ => [(2, .v (.bool false))]) (fun r => match r with | Sum.inl _ => [] | Sum.inr _ => []) := by
  refine loop_sound3 (fun s q h => ?_) (fun r => ?_)
  · replace h : palingref15_domains_L2 a1 s = some q := h; revert h; revert s; intro v25 h
    unfold palingref15_domains_L2 at h
    obtain ⟨h26, h⟩|⟨h26, h⟩ := ite_out h
    · obtain ⟨x27, h28, h⟩ := bo h
      obtain ⟨r43, h42, h⟩ := bo h
      rcases r43 with _ | _
      · injection h with h; subst h; exact rl [2] [] [.t, .row (c93 x27), .sum [1, 2, 5, 6, 7] [0, 2] .ret [(2, .v (.bool false))] []] (pc h26<|pc (ob93 h28)<|pc (k_palingref15_domains_L3 _ _ h42)<|pn)
      · injection h with h; subst h; exact rl [1, 2, 5] [0] [.t, .row (c93 x27), .sum [1, 2, 5, 6, 7] [0, 2] (.exit 4) [(1, .op 0 1 0 0), (2, .v (.bool false)), (5, .j v25)] [.box 31 (c31 a1) false]] (pc h26<|pc (ob93 h28)<|pc (k_palingref15_domains_L3 _ _ h42)<|pn)
    · injection h with h; subst h; exact rl [2] [] [.f] (pc h26<|pn)
  · rcases r with _ | _ <;> exact Ex.noConfusion

theorem k_palingref15_domains {a1 : Api_Net} {r : Bool} (h : palingref15_domains a1 = some r) :
    CallsOK Tryz.prog UU 62 [.agg (c31 a1)] [] (.v (.bool r)) [] := by
  unfold palingref15_domains at h
  obtain ⟨r24, h23, h⟩ := bo h
  rcases r24 with _ | _
  · injection h with h; subst h; exact rf Tryz.func62 none [.sum [1, 2, 3] [0] .ret [(2, .v (.bool false))] []] (pc (k_palingref15_domains_L1 _ _ h23)<|pn)
  · obtain ⟨r45, h44, h⟩ := bo h
    rcases r45 with _ | _
    · injection h with h; subst h; exact rf Tryz.func62 none [.sum [1, 2, 3] [0] (.exit 0) [(1, .op 0 1 0 0), (2, .v (.bool false))] [.box 31 (c31 a1) false], .sum [1, 2, 5] [0] .ret [(2, .v (.bool false))] []] (pc (k_palingref15_domains_L1 _ _ h23)<|pc (k_palingref15_domains_L2 _ _ h44)<|pn)
    · injection h with h; subst h; exact rf Tryz.func62 none [.sum [1, 2, 3] [0] (.exit 0) [(1, .op 0 1 0 0), (2, .v (.bool false))] [.box 31 (c31 a1) false], .sum [1, 2, 5] [0] (.exit 2) [(2, .v (.bool false))] []] (pc (k_palingref15_domains_L1 _ _ h23)<|pc (k_palingref15_domains_L2 _ _ h44)<|pn)

theorem k_palingref03_Rising_L1 {a1 : List Int} {a2 : Int} {a3 : Int} : LoopOK Tryz.prog UU 0 52 (subC (codeOf Tryz.f220) [1, 1, 0, 1, 0, 0]) (ρ := Unit ⊕ Unit) (palingref03_Rising_L1 a1 a2 a3)
    (fun v6 : Int => ([(0, .sl 3 a1), (1, .j a2), (2, .j a3), (6, .v (.bool false)), (7, .j v6)] : Fr DD)) (fun v6 : Int => ([] : Heap DD)) (fun r => match r with | Sum.inl _ => .ret | Sum.inr _ => .exit 0) (fun r => match r with | Sum.inl _ => [(6, .v (.bool false))] | Sum.inr _ => [(6, .v (.bool false))]) (fun r => match r with | Sum.inl _ => [] | Sum.inr _ => []) := by
  refine loop_sound3 (fun s q h => ?_) (fun r => ?_)
  · replace h : palingref03_Rising_L1 a1 a2 a3 s = some q := h; revert h; revert s; intro v6 h
    unfold palingref03_Rising_L1 at h
    obtain ⟨h7, h⟩|⟨h7, h⟩ := ite_out h
    · obtain ⟨x8, h9, h⟩ := bo h
      obtain ⟨h10, h⟩|⟨h10, h⟩ := ite_out h
      · injection h with h; subst h; exact rl [6] [] [.t, .row (c3 x8), .t] (pc h7<|pc (ob3 h9)<|pc h10<|pn)
      · obtain ⟨x11, h12, h⟩ := bo h
        obtain ⟨h13, h⟩|⟨h13, h⟩ := ite_out h
        · injection h with h; subst h; exact rl [6] [] [.t, .row (c3 x8), .f, .row (c3 x11), .t] (pc h7<|pc (ob3 h9)<|pc h10<|pc (ob3 h12)<|pc h13<|pn)
        · obtain ⟨h14, h⟩|⟨h14, h⟩ := ite_out h
          · obtain ⟨x15, h16, h⟩ := bo h
            obtain ⟨x17, h18, h⟩ := bo h
            obtain ⟨h19, h⟩|⟨h19, h⟩ := ite_out h
            · injection h with h; subst h; exact rl [6] [] [.t, .row (c3 x8), .f, .row (c3 x11), .f, .t, .row (c3 x15), .row (c3 x17), .t] (pc h7<|pc (ob3 h9)<|pc h10<|pc (ob3 h12)<|pc h13<|pc h14<|pc (ob3 h16)<|pc (ob3 h18)<|pc h19<|pn)
            · injection h with h; subst h; exact rl [0, 1, 2, 6, 7] [] [.t, .row (c3 x8), .f, .row (c3 x11), .f, .t, .row (c3 x15), .row (c3 x17), .f] (pc h7<|pc (ob3 h9)<|pc h10<|pc (ob3 h12)<|pc h13<|pc h14<|pc (ob3 h16)<|pc (ob3 h18)<|pc h19<|pn)
          · injection h with h; subst h; exact rl [0, 1, 2, 6, 7] [] [.t, .row (c3 x8), .f, .row (c3 x11), .f, .f] (pc h7<|pc (ob3 h9)<|pc h10<|pc (ob3 h12)<|pc h13<|pc h14<|pn)
    · injection h with h; subst h; exact rl [6] [] [.f] (pc h7<|pn)
  · rcases r with _ | _ <;> exact Ex.noConfusion

theorem k_palingref03_Rising {a1 : List Int} {a2 : Int} {a3 : Int} {r : Bool} (h : palingref03_Rising a1 a2 a3 = some r) :
    CallsOK Tryz.prog UU 220 [.sl 3 a1, .j a2, .j a3] [] (.v (.bool r)) [] := by
  unfold palingref03_Rising at h
  obtain ⟨h4, h⟩|⟨h4, h⟩ := ite_out h
  · injection h with h; subst h; exact rf Tryz.func220 none [.t] (pc h4<|pn)
  · obtain ⟨h5, h⟩|⟨h5, h⟩ := ite_out h
    · injection h with h; subst h; exact rf Tryz.func220 none [.f, .t] (pc h4<|pc h5<|pn)
    · obtain ⟨r21, h20, h⟩ := bo h
      rcases r21 with _ | _
      · injection h with h; subst h; exact rf Tryz.func220 none [.f, .f, .sum [0, 1, 2, 6, 7] [] .ret [(6, .v (.bool false))] []] (pc h4<|pc h5<|pc (k_palingref03_Rising_L1 _ _ h20)<|pn)
      · injection h with h; subst h; exact rf Tryz.func220 none [.f, .f, .sum [0, 1, 2, 6, 7] [] (.exit 0) [(6, .v (.bool false))] []] (pc h4<|pc h5<|pc (k_palingref03_Rising_L1 _ _ h20)<|pn)

theorem k_palingref15_rising {a1 : List Int} {a2 : Int} {r : Bool} (h : palingref15_rising a1 a2 = some r) :
    CallsOK Tryz.prog UU 159 [.sl 3 a1, .j a2] [] (.v (.bool r)) [] := by
  unfold palingref15_rising at h
  obtain ⟨h3, h⟩|⟨h3, h⟩ := ite_out h
  · injection h with h; subst h; exact rf Tryz.func159 none [.t] (pc h3<|pn)
  · obtain ⟨r4, h5, h⟩ := bo h
    injection h with h; subst h; exact rf Tryz.func159 none [.f, .b r4] (pc h3<|pc (k_palingref03_Rising h5)<|pn)

theorem k_palingref15_ports_J2 {a1 : Api_Net} {v2 : Int} {x4 : Api_Port} {r : Unit ⊕ Unit} (h : palingref15_ports_J2 a1 v2 x4 = some r) :
    ExecOK Tryz.prog UU 0 120 (subC (codeOf Tryz.f63) [1, 0, 1, 0, 0, 1, 0, 0, 1, 1, 0]) [(1, .op 0 1 0 0), (2, .v (.bool false)), (3, .j v2), (4, .op 1 1 0 0)] [.box 31 (c31 a1) false, .box 56 (c56 x4) false] ((fun r => match r with | Sum.inl _ => .ret | Sum.inr _ => .nor) r) ((fun r => match r with | Sum.inl _ => [(2, .v (.bool false))] | Sum.inr _ => [(1, .op 0 1 0 0), (2, .v (.bool false)), (3, .j v2), (4, .op 1 1 0 0)]) r) ((fun r => match r with | Sum.inl _ => [] | Sum.inr _ => [.box 31 (c31 a1) false, .box 56 (c56 x4) false]) r) := by
  unfold palingref15_ports_J2 at h
  obtain ⟨h17, h⟩|⟨h17, h⟩ := ite_out h
  · obtain ⟨h18, h⟩|⟨h18, h⟩ := ite_out h
    · injection h with h; subst h; exact rl [2] [] [.t, .t] (pc h17<|pc h18<|pn)
    · obtain ⟨h19, h⟩|⟨h19, h⟩ := ite_out h
      · obtain ⟨r20, h21, h⟩ := bo h
        obtain ⟨h22, h⟩|⟨h22, h⟩ := ite_out h
        · injection h with h; subst h; exact rl [2] [] [.t, .f, .t, .callv (.j r20), .t] (pc h17<|pc h18<|pc h19<|pc (k_palingref15_At h21)<|pc h22<|pn)
        · injection h with h; subst h; exact rl [1, 2, 3, 4] [0, 1] [.t, .f, .t, .callv (.j r20), .f] (pc h17<|pc h18<|pc h19<|pc (k_palingref15_At h21)<|pc h22<|pn)
      · injection h with h; subst h; exact rl [1, 2, 3, 4] [0, 1] [.t, .f, .f] (pc h17<|pc h18<|pc h19<|pn)
  · obtain ⟨h23, h⟩|⟨h23, h⟩ := ite_out h
    · obtain ⟨r24, h25, h⟩ := bo h
      obtain ⟨h26, h⟩|⟨h26, h⟩ := ite_out h
      · injection h with h; subst h; exact rl [2] [] [.f, .t, .callv (.j r24), .t] (pc h17<|pc h23<|pc (k_palingref15_At h25)<|pc h26<|pn)
      · injection h with h; subst h; exact rl [1, 2, 3, 4] [0, 1] [.f, .t, .callv (.j r24), .f] (pc h17<|pc h23<|pc (k_palingref15_At h25)<|pc h26<|pn)
    · injection h with h; subst h; exact rl [1, 2, 3, 4] [0, 1] [.f, .f] (pc h17<|pc h23<|pn)

theorem k_palingref15_ports_L3 {a1 : Api_Net} {v2 : Int} {x4 : Api_Port} : LoopOK Tryz.prog UU 0 120 (subC (codeOf Tryz.f63) [1, 0, 1, 0, 0, 1, 0, 0, 1, 1, 1, 0, 1, 0, 0]) (ρ := Unit ⊕ Unit) (palingref15_ports_L3 a1 v2 x4)
    (fun v29 : Int => ([(1, .op 0 1 0 0), (2, .v (.bool false)), (3, .j v2), (4, .op 1 1 0 0), (5, .j v29)] : Fr DD)) (fun v29 : Int => ([.box 31 (c31 a1) false, .box 56 (c56 x4) false] : Heap DD)) (fun r => match r with | Sum.inl _ => .ret | Sum.inr _ => .exit 2) (fun r => match r with | Sum.inl _ => [(2, .v (.bool false))] | Sum.inr _ => [(1, .op 0 1 0 0), (2, .v (.bool false)), (3, .j v2), (4, .op 1 1 0 0)]) (fun r => match r with | Sum.inl _ => [] | Sum.inr _ => [.box 31 (c31 a1) false, .box 56 (c56 x4) false]) := by
  refine loop_sound3 (fun s q h => ?_) (fun r => ?_)
  · replace h : palingref15_ports_L3 a1 v2 x4 s = some q := h; revert h; revert s; intro v29 h
    unfold palingref15_ports_L3 at h
    obtain ⟨h30, h⟩|⟨h30, h⟩ := ite_out h
    · obtain ⟨x31, h32, h⟩ := bo h
      obtain ⟨r33, h34, h⟩ := bo h
      obtain ⟨h35, h⟩|⟨h35, h⟩ := ite_out h
      · injection h with h; subst h; exact rl [2] [] [.t, .row (c3 x31), .callv (.j r33), .t] (pc h30<|pc (ob3 h32)<|pc (k_palingref15_At h34)<|pc h35<|pn)
      · injection h with h; subst h; exact rl [1, 2, 3, 4, 5] [0, 1] [.t, .row (c3 x31), .callv (.j r33), .f] (pc h30<|pc (ob3 h32)<|pc (k_palingref15_At h34)<|pc h35<|pn)
    · injection h with h; subst h; exact rl [1, 2, 3, 4] [0, 1] [.f] (pc h30<|pn)
  · rcases r with _ | _ <;> exact Ex.noConfusion

theorem k_palingref15_ports_L1 {a1 : Api_Net} : LoopOK Tryz.prog UU 0 120 (subC (codeOf Tryz.f63) [1, 0, 1, 0, 0]) (ρ := Unit ⊕ Unit) (palingref15_ports_L1 a1)
    (fun v2 : Int => ([(1, .op 0 1 0 0), (2, .v (.bool false)), (3, .j v2)] : Fr DD)) (fun v2 : Int => ([.box 31 (c31 a1) false] : Heap DD)) (fun r => match r with | Sum.inl _ => .ret | Sum.inr _ => .exit 0) (fun r => match r with | Sum.inl _ => [(2, .v (.bool false))] | Sum.inr _ => [(2, .v (.bool false))]) (fun r => match r with | Sum.inl _ => [] | Sum.inr _ => []) := by
  refine loop_sound3 (fun s q h => ?_) (fun r => ?_)
  · replace h : palingref15_ports_L1 a1 s = some q := h; revert h; revert s; intro v2 h
    unfold palingref15_ports_L1 at h
    obtain ⟨h3, h⟩|⟨h3, h⟩ := ite_out h
    · obtain ⟨x4, h5, h⟩ := bo h
      obtain ⟨r6, h7, h⟩ := bo h
      obtain ⟨h8, h⟩|⟨h8, h⟩ := ite_out h
      · injection h with h; subst h; exact rl [2] [] [.t, .row (c56 x4), .b r6, .t] (pc h3<|pc (ob56 h5)<|pc (k_palingref15_Place h7)<|pc h8<|pn)
      · obtain ⟨h9, h⟩|⟨h9, h⟩ := ite_out h
        · injection h with h; subst h; exact rl [2] [] [.t, .row (c56 x4), .b r6, .f, .t] (pc h3<|pc (ob56 h5)<|pc (k_palingref15_Place h7)<|pc h8<|pc h9<|pn)
        · obtain ⟨h10, h⟩|⟨h10, h⟩ := ite_out h
          · injection h with h; subst h; exact rl [2] [] [.t, .row (c56 x4), .b r6, .f, .f, .t] (pc h3<|pc (ob56 h5)<|pc (k_palingref15_Place h7)<|pc h8<|pc h9<|pc h10<|pn)
          · obtain ⟨r11, h12, h⟩ := bo h
            obtain ⟨h13, h⟩|⟨h13, h⟩ := ite_out h
            · injection h with h; subst h; exact rl [2] [] [.t, .row (c56 x4), .b r6, .f, .f, .f, .b r11, .t] (pc h3<|pc (ob56 h5)<|pc (k_palingref15_Place h7)<|pc h8<|pc h9<|pc h10<|pc (k_palingref15_rising h12)<|pc h13<|pn)
            · obtain ⟨r14, h15, h⟩ := bo h
              obtain ⟨h16, h⟩|⟨h16, h⟩ := ite_out h
              · injection h with h; subst h; exact rl [2] [] [.t, .row (c56 x4), .b r6, .f, .f, .f, .b r11, .f, .b r14, .t] (pc h3<|pc (ob56 h5)<|pc (k_palingref15_Place h7)<|pc h8<|pc h9<|pc h10<|pc (k_palingref15_rising h12)<|pc h13<|pc (k_palingref15_In h15)<|pc h16<|pn)
              · obtain ⟨r28, h27, h⟩ := bo h
                rcases r28 with _ | _
                · injection h with h; subst h; exact rl [2] [] [.t, .row (c56 x4), .b r6, .f, .f, .f, .b r11, .f, .b r14, .f, .cut [1, 2, 3, 4] [0, 2] .ret [(2, .v (.bool false))] []] (pc h3<|pc (ob56 h5)<|pc (k_palingref15_Place h7)<|pc h8<|pc h9<|pc h10<|pc (k_palingref15_rising h12)<|pc h13<|pc (k_palingref15_In h15)<|pc h16<|pc (k_palingref15_ports_J2 h27)<|pn)
                · obtain ⟨r37, h36, h⟩ := bo h
                  rcases r37 with _ | _
                  · injection h with h; subst h; exact rl [2] [] [.t, .row (c56 x4), .b r6, .f, .f, .f, .b r11, .f, .b r14, .f, .cut [1, 2, 3, 4] [0, 2] .nor [(1, .op 0 1 0 0), (2, .v (.bool false)), (3, .j v2), (4, .op 1 1 0 0)] [.box 31 (c31 a1) false, .box 56 (c56 x4) false], .sum [1, 2, 3, 4, 5] [0, 1] .ret [(2, .v (.bool false))] []] (pc h3<|pc (ob56 h5)<|pc (k_palingref15_Place h7)<|pc h8<|pc h9<|pc h10<|pc (k_palingref15_rising h12)<|pc h13<|pc (k_palingref15_In h15)<|pc h16<|pc (k_palingref15_ports_J2 h27)<|pc (k_palingref15_ports_L3 _ _ h36)<|pn)
                  · obtain ⟨h38, h⟩|⟨h38, h⟩ := ite_out h
                    · injection h with h; subst h; exact rl [1, 2, 3] [0] [.t, .row (c56 x4), .b r6, .f, .f, .f, .b r11, .f, .b r14, .f, .cut [1, 2, 3, 4] [0, 2] .nor [(1, .op 0 1 0 0), (2, .v (.bool false)), (3, .j v2), (4, .op 1 1 0 0)] [.box 31 (c31 a1) false, .box 56 (c56 x4) false], .sum [1, 2, 3, 4, 5] [0, 1] (.exit 2) [(1, .op 0 1 0 0), (2, .v (.bool false)), (3, .j v2), (4, .op 1 1 0 0)] [.box 31 (c31 a1) false, .box 56 (c56 x4) false], .t] (pc h3<|pc (ob56 h5)<|pc (k_palingref15_Place h7)<|pc h8<|pc h9<|pc h10<|pc (k_palingref15_rising h12)<|pc h13<|pc (k_palingref15_In h15)<|pc h16<|pc (k_palingref15_ports_J2 h27)<|pc (k_palingref15_ports_L3 _ _ h36)<|pc h38<|pn)
                    · obtain ⟨r39, h40, h⟩ := bo h
                      obtain ⟨h41, h⟩|⟨h41, h⟩ := ite_out h
                      · injection h with h; subst h; exact rl [2] [] [.t, .row (c56 x4), .b r6, .f, .f, .f, .b r11, .f, .b r14, .f, .cut [1, 2, 3, 4] [0, 2] .nor [(1, .op 0 1 0 0), (2, .v (.bool false)), (3, .j v2), (4, .op 1 1 0 0)] [.box 31 (c31 a1) false, .box 56 (c56 x4) false], .sum [1, 2, 3, 4, 5] [0, 1] (.exit 2) [(1, .op 0 1 0 0), (2, .v (.bool false)), (3, .j v2), (4, .op 1 1 0 0)] [.box 31 (c31 a1) false, .box 56 (c56 x4) false], .f, .b r39, .t] (pc h3<|pc (ob56 h5)<|pc (k_palingref15_Place h7)<|pc h8<|pc h9<|pc h10<|pc (k_palingref15_rising h12)<|pc h13<|pc (k_palingref15_In h15)<|pc h16<|pc (k_palingref15_ports_J2 h27)<|pc (k_palingref15_ports_L3 _ _ h36)<|pc h38<|pc (k_palingref15_Place h40)<|pc h41<|pn)
                      · obtain ⟨x42, h43, h⟩ := bo h
                        obtain ⟨h44, h⟩|⟨h44, h⟩ := ite_out h
                        · obtain ⟨x45, h46, h⟩ := bo h
                          obtain ⟨h47, h⟩|⟨h47, h⟩ := ite_out h
                          · injection h with h; subst h; exact rl [2] [] [.t, .row (c56 x4), .b r6, .f, .f, .f, .b r11, .f, .b r14, .f, .cut [1, 2, 3, 4] [0, 2] .nor [(1, .op 0 1 0 0), (2, .v (.bool false)), (3, .j v2), (4, .op 1 1 0 0)] [.box 31 (c31 a1) false, .box 56 (c56 x4) false], .sum [1, 2, 3, 4, 5] [0, 1] (.exit 2) [(1, .op 0 1 0 0), (2, .v (.bool false)), (3, .j v2), (4, .op 1 1 0 0)] [.box 31 (c31 a1) false, .box 56 (c56 x4) false], .f, .b r39, .f, .row (c112 x42), .t, .row (c112 x45), .t] (pc h3<|pc (ob56 h5)<|pc (k_palingref15_Place h7)<|pc h8<|pc h9<|pc h10<|pc (k_palingref15_rising h12)<|pc h13<|pc (k_palingref15_In h15)<|pc h16<|pc (k_palingref15_ports_J2 h27)<|pc (k_palingref15_ports_L3 _ _ h36)<|pc h38<|pc (k_palingref15_Place h40)<|pc h41<|pc (ob112 h43)<|pc h44<|pc (ob112 h46)<|pc h47<|pn)
                          · injection h with h; subst h; exact rl [1, 2, 3] [0] [.t, .row (c56 x4), .b r6, .f, .f, .f, .b r11, .f, .b r14, .f, .cut [1, 2, 3, 4] [0, 2] .nor [(1, .op 0 1 0 0), (2, .v (.bool false)), (3, .j v2), (4, .op 1 1 0 0)] [.box 31 (c31 a1) false, .box 56 (c56 x4) false], .sum [1, 2, 3, 4, 5] [0, 1] (.exit 2) [(1, .op 0 1 0 0), (2, .v (.bool false)), (3, .j v2), (4, .op 1 1 0 0)] [.box 31 (c31 a1) false, .box 56 (c56 x4) false], .f, .b r39, .f, .row (c112 x42), .t, .row (c112 x45), .f] (pc h3<|pc (ob56 h5)<|pc (k_palingref15_Place h7)<|pc h8<|pc h9<|pc h10<|pc (k_palingref15_rising h12)<|pc h13<|pc (k_palingref15_In h15)<|pc h16<|pc (k_palingref15_ports_J2 h27)<|pc (k_palingref15_ports_L3 _ _ h36)<|pc h38<|pc (k_palingref15_Place h40)<|pc h41<|pc (ob112 h43)<|pc h44<|pc (ob112 h46)<|pc h47<|pn)
                        · injection h with h; subst h; exact rl [1, 2, 3] [0] [.t, .row (c56 x4), .b r6, .f, .f, .f, .b r11, .f, .b r14, .f, .cut [1, 2, 3, 4] [0, 2] .nor [(1, .op 0 1 0 0), (2, .v (.bool false)), (3, .j v2), (4, .op 1 1 0 0)] [.box 31 (c31 a1) false, .box 56 (c56 x4) false], .sum [1, 2, 3, 4, 5] [0, 1] (.exit 2) [(1, .op 0 1 0 0), (2, .v (.bool false)), (3, .j v2), (4, .op 1 1 0 0)] [.box 31 (c31 a1) false, .box 56 (c56 x4) false], .f, .b r39, .f, .row (c112 x42), .f] (pc h3<|pc (ob56 h5)<|pc (k_palingref15_Place h7)<|pc h8<|pc h9<|pc h10<|pc (k_palingref15_rising h12)<|pc h13<|pc (k_palingref15_In h15)<|pc h16<|pc (k_palingref15_ports_J2 h27)<|pc (k_palingref15_ports_L3 _ _ h36)<|pc h38<|pc (k_palingref15_Place h40)<|pc h41<|pc (ob112 h43)<|pc h44<|pn)
    · injection h with h; subst h; exact rl [2] [] [.f] (pc h3<|pn)
  · rcases r with _ | _ <;> exact Ex.noConfusion

theorem k_palingref15_ports {a1 : Api_Net} {r : Bool} (h : palingref15_ports a1 = some r) :
    CallsOK Tryz.prog UU 63 [.agg (c31 a1)] [] (.v (.bool r)) [] := by
  unfold palingref15_ports at h
  obtain ⟨r49, h48, h⟩ := bo h
  rcases r49 with _ | _
  · injection h with h; subst h; exact rf Tryz.func63 none [.sum [1, 2, 3] [0] .ret [(2, .v (.bool false))] []] (pc (k_palingref15_ports_L1 _ _ h48)<|pn)
  · injection h with h; subst h; exact rf Tryz.func63 none [.sum [1, 2, 3] [0] (.exit 0) [(2, .v (.bool false))] []] (pc (k_palingref15_ports_L1 _ _ h48)<|pn)

theorem k_palingref15_links_L1 {a1 : Api_Net} : LoopOK Tryz.prog UU 0 70 (subC (codeOf Tryz.f64) [1, 0, 1, 0, 0]) (ρ := Unit ⊕ Unit) (palingref15_links_L1 a1)
    (fun v2 : Int => ([(1, .op 0 1 0 0), (2, .v (.bool false)), (3, .j v2)] : Fr DD)) (fun v2 : Int => ([.box 31 (c31 a1) false] : Heap DD)) (fun r => match r with | Sum.inl _ => .ret | Sum.inr _ => .exit 0) (fun r => match r with | Sum.inl _ => [(2, .v (.bool false))] | Sum.inr _ => [(2, .v (.bool false))]) (fun r => match r with | Sum.inl _ => [] | Sum.inr _ => []) := by
  refine loop_sound3 (fun s q h => ?_) (fun r => ?_)
  · replace h : palingref15_links_L1 a1 s = some q := h; revert h; revert s; intro v2 h
    unfold palingref15_links_L1 at h
    obtain ⟨h3, h⟩|⟨h3, h⟩ := ite_out h
    · obtain ⟨x4, h5, h⟩ := bo h
      obtain ⟨r6, h7, h⟩ := bo h
      obtain ⟨h8, h⟩|⟨h8, h⟩ := ite_out h
      · injection h with h; subst h; exact rl [2] [] [.t, .row (c112 x4), .b r6, .t] (pc h3<|pc (ob112 h5)<|pc (k_palingref15_Place h7)<|pc h8<|pn)
      · obtain ⟨r9, h10, h⟩ := bo h
        obtain ⟨h11, h⟩|⟨h11, h⟩ := ite_out h
        · injection h with h; subst h; exact rl [2] [] [.t, .row (c112 x4), .b r6, .f, .b r9, .t] (pc h3<|pc (ob112 h5)<|pc (k_palingref15_Place h7)<|pc h8<|pc (k_palingref15_Place h10)<|pc h11<|pn)
        · obtain ⟨x12, h13, h⟩ := bo h
          obtain ⟨x14, h15, h⟩ := bo h
          obtain ⟨h16, h⟩|⟨h16, h⟩ := ite_out h
          · injection h with h; subst h; exact rl [2] [] [.t, .row (c112 x4), .b r6, .f, .b r9, .f, .row (c56 x12), .row (c56 x14), .t] (pc h3<|pc (ob112 h5)<|pc (k_palingref15_Place h7)<|pc h8<|pc (k_palingref15_Place h10)<|pc h11<|pc (ob56 h13)<|pc (ob56 h15)<|pc h16<|pn)
          · obtain ⟨x17, h18, h⟩ := bo h
            obtain ⟨h19, h⟩|⟨h19, h⟩ := ite_out h
            · injection h with h; subst h; exact rl [2] [] [.t, .row (c112 x4), .b r6, .f, .b r9, .f, .row (c56 x12), .row (c56 x14), .f, .row (c56 x17), .t] (pc h3<|pc (ob112 h5)<|pc (k_palingref15_Place h7)<|pc h8<|pc (k_palingref15_Place h10)<|pc h11<|pc (ob56 h13)<|pc (ob56 h15)<|pc h16<|pc (ob56 h18)<|pc h19<|pn)
            · obtain ⟨x20, h21, h⟩ := bo h
              obtain ⟨h22, h⟩|⟨h22, h⟩ := ite_out h
              · injection h with h; subst h; exact rl [2] [] [.t, .row (c112 x4), .b r6, .f, .b r9, .f, .row (c56 x12), .row (c56 x14), .f, .row (c56 x17), .f, .row (c56 x20), .t] (pc h3<|pc (ob112 h5)<|pc (k_palingref15_Place h7)<|pc h8<|pc (k_palingref15_Place h10)<|pc h11<|pc (ob56 h13)<|pc (ob56 h15)<|pc h16<|pc (ob56 h18)<|pc h19<|pc (ob56 h21)<|pc h22<|pn)
              · injection h with h; subst h; exact rl [1, 2, 3] [0] [.t, .row (c112 x4), .b r6, .f, .b r9, .f, .row (c56 x12), .row (c56 x14), .f, .row (c56 x17), .f, .row (c56 x20), .f] (pc h3<|pc (ob112 h5)<|pc (k_palingref15_Place h7)<|pc h8<|pc (k_palingref15_Place h10)<|pc h11<|pc (ob56 h13)<|pc (ob56 h15)<|pc h16<|pc (ob56 h18)<|pc h19<|pc (ob56 h21)<|pc h22<|pn)
    · injection h with h; subst h; exact rl [2] [] [.f] (pc h3<|pn)
  · rcases r with _ | _ <;> exact Ex.noConfusion

theorem k_palingref15_links {a1 : Api_Net} {r : Bool} (h : palingref15_links a1 = some r) :
    CallsOK Tryz.prog UU 64 [.agg (c31 a1)] [] (.v (.bool r)) [] := by
  unfold palingref15_links at h
  obtain ⟨r24, h23, h⟩ := bo h
  rcases r24 with _ | _
  · injection h with h; subst h; exact rf Tryz.func64 none [.sum [1, 2, 3] [0] .ret [(2, .v (.bool false))] []] (pc (k_palingref15_links_L1 _ _ h23)<|pn)
  · injection h with h; subst h; exact rf Tryz.func64 none [.sum [1, 2, 3] [0] (.exit 0) [(2, .v (.bool false))] []] (pc (k_palingref15_links_L1 _ _ h23)<|pn)

theorem k_palingref15_Member {a1 : Api_Port} {a2 : Int} {r : Bool} (h : palingref15_Member a1 a2 = some r) :
    CallsOK Tryz.prog UU 54 [.agg (c56 a1), .j a2] [] (.v (.bool r)) [] := by
  unfold palingref15_Member at h
  obtain ⟨h3, h⟩|⟨h3, h⟩ := ite_out h
  · obtain ⟨h4, h⟩|⟨h4, h⟩ := ite_out h
    · injection h with h; subst h; exact rf Tryz.func54 none [.t, .t] (pc h3<|pc h4<|pn)
    · obtain ⟨r5, h6, h⟩ := bo h
      injection h with h; subst h; exact rf Tryz.func54 none [.t, .f, .b r5] (pc h3<|pc h4<|pc (k_palingref15_In h6)<|pn)
  · injection h with h; subst h; exact rf Tryz.func54 none [.f] (pc h3<|pn)

theorem k_palingref15_rest_L1 {a1 : Api_Net} : LoopOK Tryz.prog UU 0 192 (subC (codeOf Tryz.f65) [1, 0, 1, 0, 0]) (ρ := Unit ⊕ Unit) (palingref15_rest_L1 a1)
    (fun v2 : Int => ([(1, .op 0 1 0 0), (2, .v (.bool false)), (3, .j v2)] : Fr DD)) (fun v2 : Int => ([.box 31 (c31 a1) false] : Heap DD)) (fun r => match r with | Sum.inl _ => .ret | Sum.inr _ => .exit 0) (fun r => match r with | Sum.inl _ => [(2, .v (.bool false))] | Sum.inr _ => [(1, .op 0 1 0 0), (2, .v (.bool false))]) (fun r => match r with | Sum.inl _ => [] | Sum.inr _ => [.box 31 (c31 a1) false]) := by
  refine loop_sound3 (fun s q h => ?_) (fun r => ?_)
  · replace h : palingref15_rest_L1 a1 s = some q := h; revert h; revert s; intro v2 h
    unfold palingref15_rest_L1 at h
    obtain ⟨h3, h⟩|⟨h3, h⟩ := ite_out h
    · obtain ⟨x4, h5, h⟩ := bo h
      obtain ⟨r6, h7, h⟩ := bo h
      obtain ⟨h8, h⟩|⟨h8, h⟩ := ite_out h
      · injection h with h; subst h; exact rl [2] [] [.t, .row (c97 x4), .b r6, .t] (pc h3<|pc (ob97 h5)<|pc (k_palingref15_Place h7)<|pc h8<|pn)
      · obtain ⟨r9, h10, h⟩ := bo h
        obtain ⟨h11, h⟩|⟨h11, h⟩ := ite_out h
        · injection h with h; subst h; exact rl [2] [] [.t, .row (c97 x4), .b r6, .f, .b r9, .t] (pc h3<|pc (ob97 h5)<|pc (k_palingref15_Place h7)<|pc h8<|pc (k_palingref15_Place h10)<|pc h11<|pn)
        · obtain ⟨x12, h13, h⟩ := bo h
          obtain ⟨x14, h15, h⟩ := bo h
          obtain ⟨h16, h⟩|⟨h16, h⟩ := ite_out h
          · injection h with h; subst h; exact rl [2] [] [.t, .row (c97 x4), .b r6, .f, .b r9, .f, .row (c93 x12), .row (c56 x14), .t] (pc h3<|pc (ob97 h5)<|pc (k_palingref15_Place h7)<|pc h8<|pc (k_palingref15_Place h10)<|pc h11<|pc (ob93 h13)<|pc (ob56 h15)<|pc h16<|pn)
          · obtain ⟨x17, h18, h⟩ := bo h
            obtain ⟨r19, h20, h⟩ := bo h
            obtain ⟨h21, h⟩|⟨h21, h⟩ := ite_out h
            · injection h with h; subst h; exact rl [2] [] [.t, .row (c97 x4), .b r6, .f, .b r9, .f, .row (c93 x12), .row (c56 x14), .f, .row (c56 x17), .b r19, .t] (pc h3<|pc (ob97 h5)<|pc (k_palingref15_Place h7)<|pc h8<|pc (k_palingref15_Place h10)<|pc h11<|pc (ob93 h13)<|pc (ob56 h15)<|pc h16<|pc (ob56 h18)<|pc (k_palingref15_Member h20)<|pc h21<|pn)
            · injection h with h; subst h; exact rl [1, 2, 3] [0] [.t, .row (c97 x4), .b r6, .f, .b r9, .f, .row (c93 x12), .row (c56 x14), .f, .row (c56 x17), .b r19, .f] (pc h3<|pc (ob97 h5)<|pc (k_palingref15_Place h7)<|pc h8<|pc (k_palingref15_Place h10)<|pc h11<|pc (ob93 h13)<|pc (ob56 h15)<|pc h16<|pc (ob56 h18)<|pc (k_palingref15_Member h20)<|pc h21<|pn)
    · injection h with h; subst h; exact rl [1, 2] [0] [.f] (pc h3<|pn)
  · rcases r with _ | _ <;> exact Ex.noConfusion

theorem k_palingref15_rest_L2 {a1 : Api_Net} : LoopOK Tryz.prog UU 0 192 (subC (codeOf Tryz.f65) [1, 1, 0, 1, 0, 0]) (ρ := Unit ⊕ Unit) (palingref15_rest_L2 a1)
    (fun v24 : Int => ([(1, .op 0 1 0 0), (2, .v (.bool false)), (6, .j v24)] : Fr DD)) (fun v24 : Int => ([.box 31 (c31 a1) false] : Heap DD)) (fun r => match r with | Sum.inl _ => .ret | Sum.inr _ => .exit 2) (fun r => match r with | Sum.inl _ => [(2, .v (.bool false))] | Sum.inr _ => [(1, .op 0 1 0 0), (2, .v (.bool false))]) (fun r => match r with | Sum.inl _ => [] | Sum.inr _ => [.box 31 (c31 a1) false]) := by
  refine loop_sound3 (fun s q h => ?_) (fun r => ?_)
  · replace h : palingref15_rest_L2 a1 s = some q := h; revert h; revert s; intro v24 h
    unfold palingref15_rest_L2 at h
    obtain ⟨h25, h⟩|⟨h25, h⟩ := ite_out h
    · obtain ⟨x26, h27, h⟩ := bo h
      obtain ⟨r28, h29, h⟩ := bo h
      obtain ⟨h30, h⟩|⟨h30, h⟩ := ite_out h
      · injection h with h; subst h; exact rl [2] [] [.t, .row (c100 x26), .b r28, .t] (pc h25<|pc (ob100 h27)<|pc (k_palingref15_Place h29)<|pc h30<|pn)
      · obtain ⟨x31, h32, h⟩ := bo h
        obtain ⟨h33, h⟩|⟨h33, h⟩ := ite_out h
        · injection h with h; subst h; exact rl [2] [] [.t, .row (c100 x26), .b r28, .f, .row (c100 x31), .t] (pc h25<|pc (ob100 h27)<|pc (k_palingref15_Place h29)<|pc h30<|pc (ob100 h32)<|pc h33<|pn)
        · injection h with h; subst h; exact rl [1, 2, 6] [0] [.t, .row (c100 x26), .b r28, .f, .row (c100 x31), .f] (pc h25<|pc (ob100 h27)<|pc (k_palingref15_Place h29)<|pc h30<|pc (ob100 h32)<|pc h33<|pn)
    · injection h with h; subst h; exact rl [1, 2] [0] [.f] (pc h25<|pn)
  · rcases r with _ | _ <;> exact Ex.noConfusion

theorem k_palingref15_rest_L3 {a1 : Api_Net} : LoopOK Tryz.prog UU 0 192 (subC (codeOf Tryz.f65) [1, 1, 1, 0, 1, 0, 0]) (ρ := Unit ⊕ Unit) (palingref15_rest_L3 a1)
    (fun v36 : Int => ([(1, .op 0 1 0 0), (2, .v (.bool false)), (7, .j v36)] : Fr DD)) (fun v36 : Int => ([.box 31 (c31 a1) false] : Heap DD)) (fun r => match r with | Sum.inl _ => .ret | Sum.inr _ => .exit 4) (fun r => match r with | Sum.inl _ => [(2, .v (.bool false))] | Sum.inr _ => [(1, .op 0 1 0 0), (2, .v (.bool false))]) (fun r => match r with | Sum.inl _ => [] | Sum.inr _ => [.box 31 (c31 a1) false]) := by
  refine loop_sound3 (fun s q h => ?_) (fun r => ?_)
  · replace h : palingref15_rest_L3 a1 s = some q := h; revert h; revert s; intro v36 h
    unfold palingref15_rest_L3 at h
    obtain ⟨h37, h⟩|⟨h37, h⟩ := ite_out h
    · obtain ⟨x38, h39, h⟩ := bo h
      obtain ⟨r40, h41, h⟩ := bo h
      obtain ⟨h42, h⟩|⟨h42, h⟩ := ite_out h
      · injection h with h; subst h; exact rl [2] [] [.t, .row (c103 x38), .b r40, .t] (pc h37<|pc (ob103 h39)<|pc (k_palingref15_Place h41)<|pc h42<|pn)
      · obtain ⟨r43, h44, h⟩ := bo h
        obtain ⟨h45, h⟩|⟨h45, h⟩ := ite_out h
        · injection h with h; subst h; exact rl [2] [] [.t, .row (c103 x38), .b r40, .f, .b r43, .t] (pc h37<|pc (ob103 h39)<|pc (k_palingref15_Place h41)<|pc h42<|pc (k_palingref15_rising h44)<|pc h45<|pn)
        · obtain ⟨r46, h47, h⟩ := bo h
          obtain ⟨h48, h⟩|⟨h48, h⟩ := ite_out h
          · injection h with h; subst h; exact rl [2] [] [.t, .row (c103 x38), .b r40, .f, .b r43, .f, .b r46, .t] (pc h37<|pc (ob103 h39)<|pc (k_palingref15_Place h41)<|pc h42<|pc (k_palingref15_rising h44)<|pc h45<|pc (k_palingref15_rising h47)<|pc h48<|pn)
          · injection h with h; subst h; exact rl [1, 2, 7] [0] [.t, .row (c103 x38), .b r40, .f, .b r43, .f, .b r46, .f] (pc h37<|pc (ob103 h39)<|pc (k_palingref15_Place h41)<|pc h42<|pc (k_palingref15_rising h44)<|pc h45<|pc (k_palingref15_rising h47)<|pc h48<|pn)
    · injection h with h; subst h; exact rl [1, 2] [0] [.f] (pc h37<|pn)
  · rcases r with _ | _ <;> exact Ex.noConfusion

theorem k_palingref15_rest_L4 {a1 : Api_Net} : LoopOK Tryz.prog UU 0 192 (subC (codeOf Tryz.f65) [1, 1, 1, 1, 0, 1, 0, 0]) (ρ := Unit ⊕ Unit) (palingref15_rest_L4 a1)
    (fun v51 : Int => ([(1, .op 0 1 0 0), (2, .v (.bool false)), (9, .j v51)] : Fr DD)) (fun v51 : Int => ([.box 31 (c31 a1) false] : Heap DD)) (fun r => match r with | Sum.inl _ => .ret | Sum.inr _ => .exit 6) (fun r => match r with | Sum.inl _ => [(2, .v (.bool false))] | Sum.inr _ => [(2, .v (.bool false))]) (fun r => match r with | Sum.inl _ => [] | Sum.inr _ => []) := by
  refine loop_sound3 (fun s q h => ?_) (fun r => ?_)
  · replace h : palingref15_rest_L4 a1 s = some q := h; revert h; revert s; intro v51 h
    unfold palingref15_rest_L4 at h
    obtain ⟨h52, h⟩|⟨h52, h⟩ := ite_out h
    · obtain ⟨x53, h54, h⟩ := bo h
      obtain ⟨r55, h56, h⟩ := bo h
      obtain ⟨h57, h⟩|⟨h57, h⟩ := ite_out h
      · injection h with h; subst h; exact rl [2] [] [.t, .row (c118 x53), .b r55, .t] (pc h52<|pc (ob118 h54)<|pc (k_palingref15_Place h56)<|pc h57<|pn)
      · obtain ⟨r58, h59, h⟩ := bo h
        obtain ⟨h60, h⟩|⟨h60, h⟩ := ite_out h
        · injection h with h; subst h; exact rl [2] [] [.t, .row (c118 x53), .b r55, .f, .b r58, .t] (pc h52<|pc (ob118 h54)<|pc (k_palingref15_Place h56)<|pc h57<|pc (k_palingref15_Place h59)<|pc h60<|pn)
        · obtain ⟨h61, h⟩|⟨h61, h⟩ := ite_out h
          · injection h with h; subst h; exact rl [2] [] [.t, .row (c118 x53), .b r55, .f, .b r58, .f, .t] (pc h52<|pc (ob118 h54)<|pc (k_palingref15_Place h56)<|pc h57<|pc (k_palingref15_Place h59)<|pc h60<|pc h61<|pn)
          · obtain ⟨h62, h⟩|⟨h62, h⟩ := ite_out h
            · injection h with h; subst h; exact rl [2] [] [.t, .row (c118 x53), .b r55, .f, .b r58, .f, .f, .t] (pc h52<|pc (ob118 h54)<|pc (k_palingref15_Place h56)<|pc h57<|pc (k_palingref15_Place h59)<|pc h60<|pc h61<|pc h62<|pn)
            · obtain ⟨x63, h64, h⟩ := bo h
              obtain ⟨x65, h66, h⟩ := bo h
              obtain ⟨h67, h⟩|⟨h67, h⟩ := ite_out h
              · injection h with h; subst h; exact rl [2] [] [.t, .row (c118 x53), .b r55, .f, .b r58, .f, .f, .f, .row (c93 x63), .row (c103 x65), .t] (pc h52<|pc (ob118 h54)<|pc (k_palingref15_Place h56)<|pc h57<|pc (k_palingref15_Place h59)<|pc h60<|pc h61<|pc h62<|pc (ob93 h64)<|pc (ob103 h66)<|pc h67<|pn)
              · obtain ⟨x68, h69, h⟩ := bo h
                obtain ⟨h70, h⟩|⟨h70, h⟩ := ite_out h
                · injection h with h; subst h; exact rl [2] [] [.t, .row (c118 x53), .b r55, .f, .b r58, .f, .f, .f, .row (c93 x63), .row (c103 x65), .f, .row (c93 x68), .t] (pc h52<|pc (ob118 h54)<|pc (k_palingref15_Place h56)<|pc h57<|pc (k_palingref15_Place h59)<|pc h60<|pc h61<|pc h62<|pc (ob93 h64)<|pc (ob103 h66)<|pc h67<|pc (ob93 h69)<|pc h70<|pn)
                · injection h with h; subst h; exact rl [1, 2, 9] [0] [.t, .row (c118 x53), .b r55, .f, .b r58, .f, .f, .f, .row (c93 x63), .row (c103 x65), .f, .row (c93 x68), .f] (pc h52<|pc (ob118 h54)<|pc (k_palingref15_Place h56)<|pc h57<|pc (k_palingref15_Place h59)<|pc h60<|pc h61<|pc h62<|pc (ob93 h64)<|pc (ob103 h66)<|pc h67<|pc (ob93 h69)<|pc h70<|pn)
    · injection h with h; subst h; exact rl [2] [] [.f] (pc h52<|pn)
  · rcases r with _ | _ <;> exact Ex.noConfusion

theorem k_palingref15_rest {a1 : Api_Net} {r : Bool} (h : palingref15_rest a1 = some r) :
    CallsOK Tryz.prog UU 65 [.agg (c31 a1)] [] (.v (.bool r)) [] := by
  unfold palingref15_rest at h
  obtain ⟨r23, h22, h⟩ := bo h
  rcases r23 with _ | _
  · injection h with h; subst h; exact rf Tryz.func65 none [.sum [1, 2, 3] [0] .ret [(2, .v (.bool false))] []] (pc (k_palingref15_rest_L1 _ _ h22)<|pn)
  · obtain ⟨r35, h34, h⟩ := bo h
    rcases r35 with _ | _
    · injection h with h; subst h; exact rf Tryz.func65 none [.sum [1, 2, 3] [0] (.exit 0) [(1, .op 0 1 0 0), (2, .v (.bool false))] [.box 31 (c31 a1) false], .sum [1, 2, 6] [0] .ret [(2, .v (.bool false))] []] (pc (k_palingref15_rest_L1 _ _ h22)<|pc (k_palingref15_rest_L2 _ _ h34)<|pn)
    · obtain ⟨r50, h49, h⟩ := bo h
      rcases r50 with _ | _
      · injection h with h; subst h; exact rf Tryz.func65 none [.sum [1, 2, 3] [0] (.exit 0) [(1, .op 0 1 0 0), (2, .v (.bool false))] [.box 31 (c31 a1) false], .sum [1, 2, 6] [0] (.exit 2) [(1, .op 0 1 0 0), (2, .v (.bool false))] [.box 31 (c31 a1) false], .sum [1, 2, 7] [0] .ret [(2, .v (.bool false))] []] (pc (k_palingref15_rest_L1 _ _ h22)<|pc (k_palingref15_rest_L2 _ _ h34)<|pc (k_palingref15_rest_L3 _ _ h49)<|pn)
      · obtain ⟨r72, h71, h⟩ := bo h
        rcases r72 with _ | _
        · injection h with h; subst h; exact rf Tryz.func65 none [.sum [1, 2, 3] [0] (.exit 0) [(1, .op 0 1 0 0), (2, .v (.bool false))] [.box 31 (c31 a1) false], .sum [1, 2, 6] [0] (.exit 2) [(1, .op 0 1 0 0), (2, .v (.bool false))] [.box 31 (c31 a1) false], .sum [1, 2, 7] [0] (.exit 4) [(1, .op 0 1 0 0), (2, .v (.bool false))] [.box 31 (c31 a1) false], .sum [1, 2, 9] [0] .ret [(2, .v (.bool false))] []] (pc (k_palingref15_rest_L1 _ _ h22)<|pc (k_palingref15_rest_L2 _ _ h34)<|pc (k_palingref15_rest_L3 _ _ h49)<|pc (k_palingref15_rest_L4 _ _ h71)<|pn)
        · injection h with h; subst h; exact rf Tryz.func65 none [.sum [1, 2, 3] [0] (.exit 0) [(1, .op 0 1 0 0), (2, .v (.bool false))] [.box 31 (c31 a1) false], .sum [1, 2, 6] [0] (.exit 2) [(1, .op 0 1 0 0), (2, .v (.bool false))] [.box 31 (c31 a1) false], .sum [1, 2, 7] [0] (.exit 4) [(1, .op 0 1 0 0), (2, .v (.bool false))] [.box 31 (c31 a1) false], .sum [1, 2, 9] [0] (.exit 6) [(2, .v (.bool false))] []] (pc (k_palingref15_rest_L1 _ _ h22)<|pc (k_palingref15_rest_L2 _ _ h34)<|pc (k_palingref15_rest_L3 _ _ h49)<|pc (k_palingref15_rest_L4 _ _ h71)<|pn)

theorem k_palingref15_Right {a1 : Api_Net} {r : Bool} (h : palingref15_Right a1 = some r) :
    CallsOK Tryz.prog UU 19 [.agg (c31 a1)] [] (.v (.bool r)) [] := by
  unfold palingref15_Right at h
  obtain ⟨h2, h⟩|⟨h2, h⟩ := ite_out h
  · injection h with h; subst h; exact rf Tryz.func19 none [.t] (pc h2<|pn)
  · obtain ⟨h3, h⟩|⟨h3, h⟩ := ite_out h
    · injection h with h; subst h; exact rf Tryz.func19 none [.f, .t] (pc h2<|pc h3<|pn)
    · obtain ⟨h4, h⟩|⟨h4, h⟩ := ite_out h
      · injection h with h; subst h; exact rf Tryz.func19 none [.f, .f, .t] (pc h2<|pc h3<|pc h4<|pn)
      · obtain ⟨h5, h⟩|⟨h5, h⟩ := ite_out h
        · injection h with h; subst h; exact rf Tryz.func19 none [.f, .f, .f, .t] (pc h2<|pc h3<|pc h4<|pc h5<|pn)
        · obtain ⟨h6, h⟩|⟨h6, h⟩ := ite_out h
          · injection h with h; subst h; exact rf Tryz.func19 none [.f, .f, .f, .f, .t] (pc h2<|pc h3<|pc h4<|pc h5<|pc h6<|pn)
          · obtain ⟨h7, h⟩|⟨h7, h⟩ := ite_out h
            · injection h with h; subst h; exact rf Tryz.func19 none [.f, .f, .f, .f, .f, .t] (pc h2<|pc h3<|pc h4<|pc h5<|pc h6<|pc h7<|pn)
            · obtain ⟨h8, h⟩|⟨h8, h⟩ := ite_out h
              · injection h with h; subst h; exact rf Tryz.func19 none [.f, .f, .f, .f, .f, .f, .t] (pc h2<|pc h3<|pc h4<|pc h5<|pc h6<|pc h7<|pc h8<|pn)
              · obtain ⟨h9, h⟩|⟨h9, h⟩ := ite_out h
                · injection h with h; subst h; exact rf Tryz.func19 none [.f, .f, .f, .f, .f, .f, .f, .t] (pc h2<|pc h3<|pc h4<|pc h5<|pc h6<|pc h7<|pc h8<|pc h9<|pn)
                · obtain ⟨r10, h11, h⟩ := bo h
                  obtain ⟨h12, h⟩|⟨h12, h⟩ := ite_out h
                  · obtain ⟨r13, h14, h⟩ := bo h
                    obtain ⟨h15, h⟩|⟨h15, h⟩ := ite_out h
                    · obtain ⟨r16, h17, h⟩ := bo h
                      obtain ⟨h18, h⟩|⟨h18, h⟩ := ite_out h
                      · obtain ⟨r19, h20, h⟩ := bo h
                        injection h with h; subst h; exact rf Tryz.func19 none [.f, .f, .f, .f, .f, .f, .f, .f, .b r10, .t, .b r13, .t, .b r16, .t, .b r19] (pc h2<|pc h3<|pc h4<|pc h5<|pc h6<|pc h7<|pc h8<|pc h9<|pc (k_palingref15_domains h11)<|pc h12<|pc (k_palingref15_ports h14)<|pc h15<|pc (k_palingref15_links h17)<|pc h18<|pc (k_palingref15_rest h20)<|pn)
                      · injection h with h; subst h; exact rf Tryz.func19 none [.f, .f, .f, .f, .f, .f, .f, .f, .b r10, .t, .b r13, .t, .b r16, .f] (pc h2<|pc h3<|pc h4<|pc h5<|pc h6<|pc h7<|pc h8<|pc h9<|pc (k_palingref15_domains h11)<|pc h12<|pc (k_palingref15_ports h14)<|pc h15<|pc (k_palingref15_links h17)<|pc h18<|pn)
                    · injection h with h; subst h; exact rf Tryz.func19 none [.f, .f, .f, .f, .f, .f, .f, .f, .b r10, .t, .b r13, .f] (pc h2<|pc h3<|pc h4<|pc h5<|pc h6<|pc h7<|pc h8<|pc h9<|pc (k_palingref15_domains h11)<|pc h12<|pc (k_palingref15_ports h14)<|pc h15<|pn)
                  · injection h with h; subst h; exact rf Tryz.func19 none [.f, .f, .f, .f, .f, .f, .f, .f, .b r10, .f] (pc h2<|pc h3<|pc h4<|pc h5<|pc h6<|pc h7<|pc h8<|pc h9<|pc (k_palingref15_domains h11)<|pc h12<|pn)

theorem k_palingref18_Lookup_L1 {a1 : Api_Net} {a2 : Int} {a3 : Int} : LoopOK Tryz.prog UU 0 39 (subC (codeOf Tryz.f20) [1, 0, 1, 0, 0]) (ρ := Int ⊕ Unit) (palingref18_Lookup_L1 a1 a2 a3)
    (fun v4 : Int => ([(1, .j a2), (2, .v (.int .u64 a3)), (3, .op 0 1 0 0), (6, .z), (7, .j v4)] : Fr DD)) (fun v4 : Int => ([.box 31 (c31 a1) false] : Heap DD)) (fun r => match r with | Sum.inl v15 => .ret | Sum.inr _ => .exit 0) (fun r => match r with | Sum.inl v15 => [(6, .j v15)] | Sum.inr _ => [(6, .z)]) (fun r => match r with | Sum.inl v15 => [] | Sum.inr _ => []) := by
  refine loop_sound3 (fun s q h => ?_) (fun r => ?_)
  · replace h : palingref18_Lookup_L1 a1 a2 a3 s = some q := h; revert h; revert s; intro v4 h
    unfold palingref18_Lookup_L1 at h
    obtain ⟨h5, h⟩|⟨h5, h⟩ := ite_out h
    · obtain ⟨x6, h7, h⟩ := bo h
      obtain ⟨h8, h⟩|⟨h8, h⟩ := ite_out h
      · obtain ⟨x9, h10, h⟩ := bo h
        obtain ⟨h11, h⟩|⟨h11, h⟩ := ite_out h
        · obtain ⟨x12, h13, h⟩ := bo h
          injection h with h; subst h; exact rl [6] [] [.t, .row (c97 x6), .t, .row (c97 x9), .t, .row (c97 x12)] (pc h5<|pc (ob97 h7)<|pc h8<|pc (ob97 h10)<|pc h11<|pc (ob97 h13)<|pn)
        · injection h with h; subst h; exact rl [1, 2, 3, 6, 7] [0] [.t, .row (c97 x6), .t, .row (c97 x9), .f] (pc h5<|pc (ob97 h7)<|pc h8<|pc (ob97 h10)<|pc h11<|pn)
      · injection h with h; subst h; exact rl [1, 2, 3, 6, 7] [0] [.t, .row (c97 x6), .f] (pc h5<|pc (ob97 h7)<|pc h8<|pn)
    · injection h with h; subst h; exact rl [6] [] [.f] (pc h5<|pn)
  · rcases r with _ | _ <;> exact Ex.noConfusion

theorem k_palingref18_Lookup {a1 : Api_Net} {a2 : Int} {a3 : Int} {r : Int} (h : palingref18_Lookup a1 a2 a3 = some r) :
    CallsOK Tryz.prog UU 20 [.agg (c31 a1), .j a2, .v (.int .u64 a3)] [] (.j r) [] := by
  unfold palingref18_Lookup at h
  obtain ⟨r17, h16, h⟩ := bo h
  rcases r17 with v15 | _
  · injection h with h; subst h; exact rf Tryz.func20 none [.sum [1, 2, 3, 6, 7] [0] .ret [(6, .j v15)] []] (pc (k_palingref18_Lookup_L1 _ _ h16)<|pn)
  · injection h with h; subst h; exact rf Tryz.func20 none [.sum [1, 2, 3, 6, 7] [0] (.exit 0) [(6, .z)] []] (pc (k_palingref18_Lookup_L1 _ _ h16)<|pn)

theorem k_palingref15_Members_L1 {a1 : Api_Net} {x6 : Api_Domain} : LoopOK Tryz.prog UU 0 50 (subC (codeOf Tryz.f66) [1, 1, 1, 1, 0, 1, 0, 0]) (fun s : (List Int) × Int => match s with | (l8, v9) => palingref15_Members_L1 a1 x6 l8 v9)
    (fun s : (List Int) × Int => (match s with | (l8, v9) => [(2, .op 0 1 0 0), (4, .os 1 0), (5, .os 2 l8.length), (6, .op 3 1 0 0), (7, .j v9)] : Fr DD)) (fun s : (List Int) × Int => (match s with | (l8, v9) => [.box 31 (c31 a1) false, .n 3, .arr 3 l8 l8.length false, .box 93 (c93 x6) false] : Heap DD)) (fun r => match r with | l22 => .exit 0) (fun r => match r with | l22 => [(4, .os 0 0), (5, .os 1 l22.length)]) (fun r => match r with | l22 => [.n 3, .arr 3 l22 l22.length false]) := by
  refine loop_sound3 (fun s q h => ?_) (fun r => ?_)
  · obtain ⟨l8, v9⟩ := s; replace h : palingref15_Members_L1 a1 x6 l8 v9 = some q := h
    unfold palingref15_Members_L1 at h
    obtain ⟨h10, h⟩|⟨h10, h⟩ := ite_out h
    · obtain ⟨x11, h12, h⟩ := bo h
      obtain ⟨h13, h⟩|⟨h13, h⟩ := ite_out h
      · obtain ⟨x14, h15, h⟩ := bo h
        obtain ⟨r16, h17, h⟩ := bo h
        obtain ⟨h18, h⟩|⟨h18, h⟩ := ite_out h
        · obtain ⟨h19, h⟩|⟨h19, h⟩ := ite_out h
          · injection h with h; subst h; exact rl [2, 4, 5, 6, 7] [0, 1, 2, 3] [.t, .row (c56 x11), .t, .row (c56 x14), .b r16, .t, .obj [] (.arr 3 [v9] (List.length [v9]) false), .obj [] (.arr 3 (l8 ++ [v9]) (List.length (l8 ++ [v9])) false)] (pc h10<|pc (ob56 h12)<|pc h13<|pc (ob56 h15)<|pc (k_palingref15_Member h17)<|pc h18<|pc (bs_ob 3 [v9])<|pc (app_ob 3 (n := l8.length) (l := l8) (xs := [v9]) h19)<|pc ((rn (List.length [v9])))<|pn)
          · cases h
        · injection h with h; subst h; exact rl [2, 4, 5, 6, 7] [0, 1, 2, 3] [.t, .row (c56 x11), .t, .row (c56 x14), .b r16, .f] (pc h10<|pc (ob56 h12)<|pc h13<|pc (ob56 h15)<|pc (k_palingref15_Member h17)<|pc h18<|pn)
      · injection h with h; subst h; exact rl [2, 4, 5, 6, 7] [0, 1, 2, 3] [.t, .row (c56 x11), .f] (pc h10<|pc (ob56 h12)<|pc h13<|pn)
    · injection h with h; subst h; exact rl [4, 5] [1, 2] [.f] (pc h10<|pn)
  · exact Ex.noConfusion

theorem k_palingref15_Members {a1 : Api_Net} {a2 : Int} {r : ((List Int))} (h : palingref15_Members a1 a2 = some r) :
    CallsOK Tryz.prog UU 66 [.agg (c31 a1), .j a2] [] ((fun r => match r with | l25 => .os 0 l25.length) r) ((fun r => match r with | l25 => [.arr 3 l25 l25.length false]) r) := by
  unfold palingref15_Members at h
  obtain ⟨r3, h4, h⟩ := bo h
  obtain ⟨h5, h⟩|⟨h5, h⟩ := ite_out h
  · injection h with h; subst h; exact rf Tryz.func66 (some [3]) [.b r3, .t] (pc (k_palingref15_Place h4)<|pc h5<|pn)
  · obtain ⟨x6, h7, h⟩ := bo h
    obtain ⟨l22, h23, h⟩ := bo h
    injection h with h; subst h; exact rf Tryz.func66 (some [1]) [.b r3, .f, .row (c93 x6), .sum [2, 4, 5, 6, 7] [0, 1, 2, 4] (.exit 0) [(4, .os 0 0), (5, .os 1 l22.length)] [.n 3, .arr 3 l22 l22.length false]] (pc (k_palingref15_Place h4)<|pc h5<|pc (ob93 h7)<|pc (k_palingref15_Members_L1 _ _ h23)<|pn)

theorem k_palingref18_Hosts_L1 {a1 : Api_Net} {l5 : List Int} : LoopOK Tryz.prog UU 0 35 (subC (codeOf Tryz.f22) [1, 1, 1, 0, 1, 0, 0]) (fun s : (List Int) × Int => match s with | (l6, v7) => palingref18_Hosts_L1 a1 l5 l6 v7)
    (fun s : (List Int) × Int => (match s with | (l6, v7) => [(2, .op 0 1 0 0), (4, .os 1 0), (5, .os 2 l6.length), (6, .os 3 l5.length), (7, .j v7)] : Fr DD)) (fun s : (List Int) × Int => (match s with | (l6, v7) => [.box 31 (c31 a1) false, .n 3, .arr 3 l6 l6.length false, .arr 3 l5 l5.length false] : Heap DD)) (fun r => match r with | l20 => .exit 0) (fun r => match r with | l20 => [(4, .os 0 0), (5, .os 1 l20.length)]) (fun r => match r with | l20 => [.n 3, .arr 3 l20 l20.length false]) := by
  refine loop_sound3 (fun s q h => ?_) (fun r => ?_)
  · obtain ⟨l6, v7⟩ := s; replace h : palingref18_Hosts_L1 a1 l5 l6 v7 = some q := h
    unfold palingref18_Hosts_L1 at h
    obtain ⟨h8, h⟩|⟨h8, h⟩ := ite_out h
    · obtain ⟨h9, h⟩|⟨h9, h⟩ := ite_out h
      · obtain ⟨x10, h11, h⟩ := bo h
        obtain ⟨x12, h13, h⟩ := bo h
        obtain ⟨h14, h⟩|⟨h14, h⟩ := ite_out h
        · obtain ⟨x15, h16, h⟩ := bo h
          obtain ⟨h17, h⟩|⟨h17, h⟩ := ite_out h
          · injection h with h; subst h; exact rl [2, 4, 5, 6, 7] [0, 1, 2, 3] [.t, .row (c3 x10), .row (c56 x12), .t, .row (c3 x15), .obj [] (.arr 3 [x15] (List.length [x15]) false), .obj [] (.arr 3 (l6 ++ [x15]) (List.length (l6 ++ [x15])) false)] (pc (rn l5.length)<|pc h8<|pc (an l5.length (lin_ob h9))<|pc (an l5.length (obn3 h11))<|pc (ob56 h13)<|pc h14<|pc (an l5.length (lin_ob h9))<|pc (an l5.length (obn3 h16))<|pc (bs_ob 3 [x15])<|pc (app_ob 3 (n := l6.length) (l := l6) (xs := [x15]) h17)<|pc ((rn (List.length [x15])))<|pn)
          · cases h
        · injection h with h; subst h; exact rl [2, 4, 5, 6, 7] [0, 1, 2, 3] [.t, .row (c3 x10), .row (c56 x12), .f] (pc (rn l5.length)<|pc h8<|pc (an l5.length (lin_ob h9))<|pc (an l5.length (obn3 h11))<|pc (ob56 h13)<|pc h14<|pn)
      · cases h
    · injection h with h; subst h; exact rl [4, 5] [1, 2] [.f] (pc (rn l5.length)<|pc h8<|pn)
  · exact Ex.noConfusion

theorem k_palingref18_Hosts {a1 : Api_Net} {a2 : Int} {r : ((List Int))} (h : palingref18_Hosts a1 a2 = some r) :
    CallsOK Tryz.prog UU 22 [.agg (c31 a1), .j a2] [] ((fun r => match r with | l23 => .os 0 l23.length) r) ((fun r => match r with | l23 => [.arr 3 l23 l23.length false]) r) := by
  unfold palingref18_Hosts at h
  obtain ⟨l5, h4, h⟩ := bo h
  obtain ⟨l20, h21, h⟩ := bo h
  injection h with h; subst h; exact rf Tryz.func22 (some [1]) [.callo (.os 0 l5.length) [.arr 3 l5 l5.length false], .sum [2, 4, 5, 6, 7] [0, 1, 2, 3] (.exit 0) [(4, .os 0 0), (5, .os 1 l20.length)] [.n 3, .arr 3 l20 l20.length false]] (pc (k_palingref15_Members h4)<|pc (im3 l5)<|pc (k_palingref18_Hosts_L1 _ _ h21)<|pn)

theorem k_palingref03_Ints_L1 {a1 : List Int} {a2 : List Int} : LoopOK Tryz.prog UU 0 26 (subC (codeOf Tryz.f21) [1, 1, 0, 1, 0, 0]) (ρ := Unit ⊕ Unit) (palingref03_Ints_L1 a1 a2)
    (fun v4 : Int => ([(0, .sl 3 a1), (1, .sl 3 a2), (4, .v (.bool false)), (5, .j v4)] : Fr DD)) (fun v4 : Int => ([] : Heap DD)) (fun r => match r with | Sum.inl _ => .ret | Sum.inr _ => .exit 0) (fun r => match r with | Sum.inl _ => [(4, .v (.bool false))] | Sum.inr _ => [(4, .v (.bool false))]) (fun r => match r with | Sum.inl _ => [] | Sum.inr _ => []) := by
  refine loop_sound3 (fun s q h => ?_) (fun r => ?_)
  · replace h : palingref03_Ints_L1 a1 a2 s = some q := h; revert h; revert s; intro v4 h
    unfold palingref03_Ints_L1 at h
    obtain ⟨h5, h⟩|⟨h5, h⟩ := ite_out h
    · obtain ⟨x6, h7, h⟩ := bo h
      obtain ⟨x8, h9, h⟩ := bo h
      obtain ⟨h10, h⟩|⟨h10, h⟩ := ite_out h
      · injection h with h; subst h; exact rl [4] [] [.t, .row (c3 x6), .row (c3 x8), .t] (pc h5<|pc (ob3 h7)<|pc (ob3 h9)<|pc h10<|pn)
      · injection h with h; subst h; exact rl [0, 1, 4, 5] [] [.t, .row (c3 x6), .row (c3 x8), .f] (pc h5<|pc (ob3 h7)<|pc (ob3 h9)<|pc h10<|pn)
    · injection h with h; subst h; exact rl [4] [] [.f] (pc h5<|pn)
  · rcases r with _ | _ <;> exact Ex.noConfusion

theorem k_palingref03_Ints {a1 : List Int} {a2 : List Int} {r : Bool} (h : palingref03_Ints a1 a2 = some r) :
    CallsOK Tryz.prog UU 21 [.sl 3 a1, .sl 3 a2] [] (.v (.bool r)) [] := by
  unfold palingref03_Ints at h
  obtain ⟨h3, h⟩|⟨h3, h⟩ := ite_out h
  · injection h with h; subst h; exact rf Tryz.func21 none [.t] (pc h3<|pn)
  · obtain ⟨r12, h11, h⟩ := bo h
    rcases r12 with _ | _
    · injection h with h; subst h; exact rf Tryz.func21 none [.f, .sum [0, 1, 4, 5] [] .ret [(4, .v (.bool false))] []] (pc h3<|pc (k_palingref03_Ints_L1 _ _ h11)<|pn)
    · injection h with h; subst h; exact rf Tryz.func21 none [.f, .sum [0, 1, 4, 5] [] (.exit 0) [(4, .v (.bool false))] []] (pc h3<|pc (k_palingref03_Ints_L1 _ _ h11)<|pn)

theorem k_palingref03_digits_L1 : LoopOK Tryz.prog UU 0 23 (subC (codeOf Tryz.f160) [1, 1, 0, 0, 0]) (fun s : Int × ByteArray => match s with | (v2, v3) => palingref03_digits_L1 v2 v3)
    (fun s : Int × ByteArray => (match s with | (v2, v3) => [(0, .v (.int .u64 v2)), (2, .e), (3, .v (.string v3))] : Fr DD)) (fun s : Int × ByteArray => (match s with | (v2, v3) => [] : Heap DD)) (fun r => match r with | (v8, v9) => .exit 0) (fun r => match r with | (v8, v9) => [(0, .v (.int .u64 v8)), (2, .e), (3, .v (.string v9))]) (fun r => match r with | (v8, v9) => []) := by
  refine loop_sound3 (fun s q h => ?_) (fun r => ?_)
  · obtain ⟨v2, v3⟩ := s; replace h : palingref03_digits_L1 v2 v3 = some q := h
    unfold palingref03_digits_L1 at h
    obtain ⟨h4, h⟩|⟨h4, h⟩ := ite_out h
    · obtain ⟨h5, h⟩|⟨h5, h⟩ := ite_out h
      · injection h with h; subst h; exact rl [0, 2, 3] [] [.t, .obj [] (.arr 5 [(wr_u8 (wr_u64 (48 + (Int.tmod v2 10))) : Int)] (List.length [(wr_u8 (wr_u64 (48 + (Int.tmod v2 10))) : Int)]) false), .callv (.v (.string (bstr [(wr_u8 (wr_u64 (48 + (Int.tmod v2 10))) : Int)])))] (pc h4<|pc ((show (10 : Int) ≠ 0 from by decide))<|pc (bs_ob 5 [(wr_u8 (wr_u64 (48 + (Int.tmod v2 10))) : Int)])<|pc (cvb5 [(wr_u8 (wr_u64 (48 + (Int.tmod v2 10))) : Int)])<|pc ((rn (List.length [(wr_u8 (wr_u64 (48 + (Int.tmod v2 10))) : Int)])))<|pc (of_decide_eq_true h5)<|pc ((show (10 : Int) ≠ 0 from by decide))<|pn)
      · cases h
    · injection h with h; subst h; exact rl [0, 2, 3] [] [.f] (pc h4<|pn)
  · exact Ex.noConfusion

theorem k_palingref03_digits {a1 : Int} {r : ByteArray} (h : palingref03_digits a1 = some r) :
    CallsOK Tryz.prog UU 160 [.v (.int .u64 a1)] [] (.v (.string r)) [] := by
  unfold palingref03_digits at h
  obtain ⟨r11, h10, h⟩ := bo h
  obtain ⟨v8, v9⟩ := r11
  obtain ⟨h12, h⟩|⟨h12, h⟩ := ite_out h
  · injection h with h; subst h; exact rf Tryz.func160 none [.sum [0, 2, 3] [] (.exit 0) [(0, .v (.int .u64 v8)), (2, .e), (3, .v (.string v9))] [], .obj [] (.arr 5 [(wr_u8 (wr_u64 (48 + v8)) : Int)] (List.length [(wr_u8 (wr_u64 (48 + v8)) : Int)]) false), .callv (.v (.string (bstr [(wr_u8 (wr_u64 (48 + v8)) : Int)])))] (pc (k_palingref03_digits_L1 _ _ h10)<|pc (bs_ob 5 [(wr_u8 (wr_u64 (48 + v8)) : Int)])<|pc (cvb5 [(wr_u8 (wr_u64 (48 + v8)) : Int)])<|pc ((rn (List.length [(wr_u8 (wr_u64 (48 + v8)) : Int)])))<|pc (of_decide_eq_true h12)<|pn)
  · cases h

theorem k_palingref03_Text {a1 : Int} {r : ByteArray} (h : palingref03_Text a1 = some r) :
    CallsOK Tryz.prog UU 68 [.j a1] [] (.v (.string r)) [] := by
  unfold palingref03_Text at h
  obtain ⟨h2, h⟩|⟨h2, h⟩ := ite_out h
  · obtain ⟨r3, h4, h⟩ := bo h
    obtain ⟨h5, h⟩|⟨h5, h⟩ := ite_out h
    · injection h with h; subst h; exact rf Tryz.func68 none [.t, .callv (.v (.string r3))] (pc h2<|pc (k_palingref03_digits h4)<|pc (of_decide_eq_true h5)<|pn)
    · cases h
  · obtain ⟨r6, h7, h⟩ := bo h
    injection h with h; subst h; exact rf Tryz.func68 none [.f, .callv (.v (.string r6))] (pc h2<|pc (k_palingref03_digits h7)<|pn)

theorem k_palingref18_Text {a1 : Api_Net} {a2 : Int} {r : ByteArray} (h : palingref18_Text a1 a2 = some r) :
    CallsOK Tryz.prog UU 23 [.agg (c31 a1), .j a2] [] (.v (.string r)) [] := by
  unfold palingref18_Text at h
  obtain ⟨r3, h4, h⟩ := bo h
  obtain ⟨h5, h⟩|⟨h5, h⟩ := ite_out h
  · injection h with h; subst h; exact rf Tryz.func23 none [.b r3, .t] (pc (k_palingref15_Place h4)<|pc h5<|pn)
  · obtain ⟨x6, h7, h⟩ := bo h
    obtain ⟨x8, h9, h⟩ := bo h
    obtain ⟨h10, h⟩|⟨h10, h⟩ := ite_out h
    · obtain ⟨r11, h12, h⟩ := bo h
      obtain ⟨h13, h⟩|⟨h13, h⟩ := ite_out h
      · injection h with h; subst h; exact rf Tryz.func23 none [.b r3, .f, .row (c93 x6), .row (c91 x8), .callv (.v (.string r11))] (pc (k_palingref15_Place h4)<|pc h5<|pc (ob93 h7)<|pc (ob91 h9)<|pc (of_decide_eq_true h10)<|pc (k_palingref03_Text h12)<|pc (of_decide_eq_true h13)<|pn)
      · cases h
    · cases h

end Go.Eng
