/- Part of the proof of AuditTells: printed mirrors of the functions, or their contracts. No conditions. -/
import Derived.Test.YtdlaaoajcoogbaaGreatDoorMAK5
set_option linter.unusedVariables false
set_option maxRecDepth 100000
namespace Go.Eng
open Go Go.Proofs
theorem k_palingref47_Text_J1 {a1 : Api_Net} {a2 : Palingref47_Note} {r : ByteArray} (h : palingref47_Text_J1 a1 a2 = some r) :
  ExecOK Tryz.prog UU 0 94 (subC (codeOf Tryz.f11) [1, 1, 1, 1, 0]) [(2, .o 0), (3, .o 1), (4, .e), (5, .os 2 (List.length [(⟨#[115, 104, 105, 102, 116, 101, 100]⟩ : ByteArray), (⟨#[108, 111, 112, 115, 105, 100, 101, 100]⟩ : ByteArray), (⟨#[108, 111, 110, 101, 108, 121]⟩ : ByteArray), (⟨#[115, 105, 108, 101, 110, 116]⟩ : ByteArray), (⟨#[117, 110, 117, 115, 101, 100]⟩ : ByteArray), (⟨#[112, 105, 110, 110, 101, 100]⟩ : ByteArray), (⟨#[98, 97, 114, 101]⟩ : ByteArray), (⟨#[108, 101, 97, 100, 105, 110, 103]⟩ : ByteArray), (⟨#[116, 114, 117, 110, 107]⟩ : ByteArray)])), (6, .e)] [.box 31 (c31 a1) false, .box 43 (c43 a2) false, .w 9 [(⟨#[115, 104, 105, 102, 116, 101, 100]⟩ : ByteArray), (⟨#[108, 111, 112, 115, 105, 100, 101, 100]⟩ : ByteArray), (⟨#[108, 111, 110, 101, 108, 121]⟩ : ByteArray), (⟨#[115, 105, 108, 101, 110, 116]⟩ : ByteArray), (⟨#[117, 110, 117, 115, 101, 100]⟩ : ByteArray), (⟨#[112, 105, 110, 110, 101, 100]⟩ : ByteArray), (⟨#[98, 97, 114, 101]⟩ : ByteArray), (⟨#[108, 101, 97, 100, 105, 110, 103]⟩ : ByteArray), (⟨#[116, 114, 117, 110, 107]⟩ : ByteArray)]] ((fun r => match r with | v15 => .nor) r) ((fun r => match r with | v15 => [(2, .o 0), (3, .o 1), (4, .e), (5, .os 2 (List.length [(⟨#[115, 104, 105, 102, 116, 101, 100]⟩ : ByteArray), (⟨#[108, 111, 112, 115, 105, 100, 101, 100]⟩ : ByteArray), (⟨#[108, 111, 110, 101, 108, 121]⟩ : ByteArray), (⟨#[115, 105, 108, 101, 110, 116]⟩ : ByteArray), (⟨#[117, 110, 117, 115, 101, 100]⟩ : ByteArray), (⟨#[112, 105, 110, 110, 101, 100]⟩ : ByteArray), (⟨#[98, 97, 114, 101]⟩ : ByteArray), (⟨#[108, 101, 97, 100, 105, 110, 103]⟩ : ByteArray), (⟨#[116, 114, 117, 110, 107]⟩ : ByteArray)])), (6, .x v15)]) r) ((fun r => match r with | v15 => [.box 31 (c31 a1) false, .box 43 (c43 a2) false, .w 9 [(⟨#[115, 104, 105, 102, 116, 101, 100]⟩ : ByteArray), (⟨#[108, 111, 112, 115, 105, 100, 101, 100]⟩ : ByteArray), (⟨#[108, 111, 110, 101, 108, 121]⟩ : ByteArray), (⟨#[115, 105, 108, 101, 110, 116]⟩ : ByteArray), (⟨#[117, 110, 117, 115, 101, 100]⟩ : ByteArray), (⟨#[112, 105, 110, 110, 101, 100]⟩ : ByteArray), (⟨#[98, 97, 114, 101]⟩ : ByteArray), (⟨#[108, 101, 97, 100, 105, 110, 103]⟩ : ByteArray), (⟨#[116, 114, 117, 110, 107]⟩ : ByteArray)]]) r) := by
 unfold palingref47_Text_J1 at h
 obtain ⟨r5, h6, h⟩ := bo h
 obtain ⟨h7, h⟩|⟨h7, h⟩ := ite_out h
 ·obtain ⟨h8, h⟩|⟨h8, h⟩ := ite_out h
  ·obtain ⟨r9, h10, h⟩ := bo h
   obtain rfl := oi h; exact rl [2, 3, 4, 5, 6] [0, 1, 2] [.b r5, .t, .t, .callv (.x r9)] (pc (k_palingref15_Right h6)<|pc h7<|pc h8<|pc (k_palingref44_Port h10)<|pn)
  ·obtain ⟨h11, h⟩|⟨h11, h⟩ := ite_out h
   ·obtain ⟨r12, h13, h⟩ := bo h
    obtain rfl := oi h; exact rl [2, 3, 4, 5, 6] [0, 1, 2] [.b r5, .t, .f, .t, .callv (.x r12)] (pc (k_palingref15_Right h6)<|pc h7<|pc h8<|pc h11<|pc (k_palingref44_Port h13)<|pn)
   ·obtain rfl := oi h; exact rl [2, 3, 4, 5, 6] [0, 1, 2] [.b r5, .t, .f, .f] (pc (k_palingref15_Right h6)<|pc h7<|pc h8<|pc h11<|pn)
 ·obtain rfl := oi h; exact rl [2, 3, 4, 5, 6] [0, 1, 2] [.b r5, .f] (pc (k_palingref15_Right h6)<|pc h7<|pn)

theorem k_palingref47_Text_J2 {a1 : Api_Net} {a2 : Palingref47_Note} {v15 : ByteArray} {r : ByteArray} (h : palingref47_Text_J2 a1 a2 v15 = some r) :
  ExecOK Tryz.prog UU 0 94 (subC (codeOf Tryz.f11) [1, 1, 1, 1, 1, 0]) [(2, .o 0), (3, .o 1), (4, .e), (5, .os 2 (List.length [(⟨#[115, 104, 105, 102, 116, 101, 100]⟩ : ByteArray), (⟨#[108, 111, 112, 115, 105, 100, 101, 100]⟩ : ByteArray), (⟨#[108, 111, 110, 101, 108, 121]⟩ : ByteArray), (⟨#[115, 105, 108, 101, 110, 116]⟩ : ByteArray), (⟨#[117, 110, 117, 115, 101, 100]⟩ : ByteArray), (⟨#[112, 105, 110, 110, 101, 100]⟩ : ByteArray), (⟨#[98, 97, 114, 101]⟩ : ByteArray), (⟨#[108, 101, 97, 100, 105, 110, 103]⟩ : ByteArray), (⟨#[116, 114, 117, 110, 107]⟩ : ByteArray)])), (6, .x v15)] [.box 31 (c31 a1) false, .box 43 (c43 a2) false, .w 9 [(⟨#[115, 104, 105, 102, 116, 101, 100]⟩ : ByteArray), (⟨#[108, 111, 112, 115, 105, 100, 101, 100]⟩ : ByteArray), (⟨#[108, 111, 110, 101, 108, 121]⟩ : ByteArray), (⟨#[115, 105, 108, 101, 110, 116]⟩ : ByteArray), (⟨#[117, 110, 117, 115, 101, 100]⟩ : ByteArray), (⟨#[112, 105, 110, 110, 101, 100]⟩ : ByteArray), (⟨#[98, 97, 114, 101]⟩ : ByteArray), (⟨#[108, 101, 97, 100, 105, 110, 103]⟩ : ByteArray), (⟨#[116, 114, 117, 110, 107]⟩ : ByteArray)]] ((fun r => match r with | v28 => .nor) r) ((fun r => match r with | v28 => [(2, .o 0), (3, .o 1), (4, .e), (5, .os 2 (List.length [(⟨#[115, 104, 105, 102, 116, 101, 100]⟩ : ByteArray), (⟨#[108, 111, 112, 115, 105, 100, 101, 100]⟩ : ByteArray), (⟨#[108, 111, 110, 101, 108, 121]⟩ : ByteArray), (⟨#[115, 105, 108, 101, 110, 116]⟩ : ByteArray), (⟨#[117, 110, 117, 115, 101, 100]⟩ : ByteArray), (⟨#[112, 105, 110, 110, 101, 100]⟩ : ByteArray), (⟨#[98, 97, 114, 101]⟩ : ByteArray), (⟨#[108, 101, 97, 100, 105, 110, 103]⟩ : ByteArray), (⟨#[116, 114, 117, 110, 107]⟩ : ByteArray)])), (6, .x v28)]) r) ((fun r => match r with | v28 => [.box 31 (c31 a1) false, .box 43 (c43 a2) false, .w 9 [(⟨#[115, 104, 105, 102, 116, 101, 100]⟩ : ByteArray), (⟨#[108, 111, 112, 115, 105, 100, 101, 100]⟩ : ByteArray), (⟨#[108, 111, 110, 101, 108, 121]⟩ : ByteArray), (⟨#[115, 105, 108, 101, 110, 116]⟩ : ByteArray), (⟨#[117, 110, 117, 115, 101, 100]⟩ : ByteArray), (⟨#[112, 105, 110, 110, 101, 100]⟩ : ByteArray), (⟨#[98, 97, 114, 101]⟩ : ByteArray), (⟨#[108, 101, 97, 100, 105, 110, 103]⟩ : ByteArray), (⟨#[116, 114, 117, 110, 107]⟩ : ByteArray)]]) r) := by
 unfold palingref47_Text_J2 at h
 obtain ⟨r18, h19, h⟩ := bo h
 obtain ⟨h20, h⟩|⟨h20, h⟩ := ite_out h
 ·obtain ⟨h21, h⟩|⟨h21, h⟩ := ite_out h
  ·obtain ⟨r22, h23, h⟩ := bo h
   obtain rfl := oi h; exact rl [2, 3, 4, 5, 6] [0, 1, 2] [.b r18, .t, .t, .callv (.x r22)] (pc (k_palingref15_Right h19)<|pc h20<|pc h21<|pc (k_palingref18_Text h23)<|pn)
  ·obtain ⟨h24, h⟩|⟨h24, h⟩ := ite_out h
   ·obtain ⟨r25, h26, h⟩ := bo h
    obtain rfl := oi h; exact rl [2, 3, 4, 5, 6] [0, 1, 2] [.b r18, .t, .f, .t, .callv (.x r25)] (pc (k_palingref15_Right h19)<|pc h20<|pc h21<|pc h24<|pc (k_palingref18_Text h26)<|pn)
   ·obtain rfl := oi h; exact rl [2, 3, 4, 5, 6] [0, 1, 2] [.b r18, .t, .f, .f] (pc (k_palingref15_Right h19)<|pc h20<|pc h21<|pc h24<|pn)
 ·obtain rfl := oi h; exact rl [2, 3, 4, 5, 6] [0, 1, 2] [.b r18, .f] (pc (k_palingref15_Right h19)<|pc h20<|pn)

theorem k_palingref47_Text_J3 {a1 : Api_Net} {a2 : Palingref47_Note} {v28 : ByteArray} {r : ByteArray} (h : palingref47_Text_J3 a1 a2 v28 = some r) :
  ExecOK Tryz.prog UU 0 94 (subC (codeOf Tryz.f11) [1, 1, 1, 1, 1, 1, 0]) [(2, .o 0), (3, .o 1), (4, .e), (5, .os 2 (List.length [(⟨#[115, 104, 105, 102, 116, 101, 100]⟩ : ByteArray), (⟨#[108, 111, 112, 115, 105, 100, 101, 100]⟩ : ByteArray), (⟨#[108, 111, 110, 101, 108, 121]⟩ : ByteArray), (⟨#[115, 105, 108, 101, 110, 116]⟩ : ByteArray), (⟨#[117, 110, 117, 115, 101, 100]⟩ : ByteArray), (⟨#[112, 105, 110, 110, 101, 100]⟩ : ByteArray), (⟨#[98, 97, 114, 101]⟩ : ByteArray), (⟨#[108, 101, 97, 100, 105, 110, 103]⟩ : ByteArray), (⟨#[116, 114, 117, 110, 107]⟩ : ByteArray)])), (6, .x v28)] [.box 31 (c31 a1) false, .box 43 (c43 a2) false, .w 9 [(⟨#[115, 104, 105, 102, 116, 101, 100]⟩ : ByteArray), (⟨#[108, 111, 112, 115, 105, 100, 101, 100]⟩ : ByteArray), (⟨#[108, 111, 110, 101, 108, 121]⟩ : ByteArray), (⟨#[115, 105, 108, 101, 110, 116]⟩ : ByteArray), (⟨#[117, 110, 117, 115, 101, 100]⟩ : ByteArray), (⟨#[112, 105, 110, 110, 101, 100]⟩ : ByteArray), (⟨#[98, 97, 114, 101]⟩ : ByteArray), (⟨#[108, 101, 97, 100, 105, 110, 103]⟩ : ByteArray), (⟨#[116, 114, 117, 110, 107]⟩ : ByteArray)]] ((fun r => match r with | v35 => .nor) r) ((fun r => match r with | v35 => [(2, .o 0), (3, .o 1), (4, .e), (5, .os 2 (List.length [(⟨#[115, 104, 105, 102, 116, 101, 100]⟩ : ByteArray), (⟨#[108, 111, 112, 115, 105, 100, 101, 100]⟩ : ByteArray), (⟨#[108, 111, 110, 101, 108, 121]⟩ : ByteArray), (⟨#[115, 105, 108, 101, 110, 116]⟩ : ByteArray), (⟨#[117, 110, 117, 115, 101, 100]⟩ : ByteArray), (⟨#[112, 105, 110, 110, 101, 100]⟩ : ByteArray), (⟨#[98, 97, 114, 101]⟩ : ByteArray), (⟨#[108, 101, 97, 100, 105, 110, 103]⟩ : ByteArray), (⟨#[116, 114, 117, 110, 107]⟩ : ByteArray)])), (6, .x v35)]) r) ((fun r => match r with | v35 => [.box 31 (c31 a1) false, .box 43 (c43 a2) false, .w 9 [(⟨#[115, 104, 105, 102, 116, 101, 100]⟩ : ByteArray), (⟨#[108, 111, 112, 115, 105, 100, 101, 100]⟩ : ByteArray), (⟨#[108, 111, 110, 101, 108, 121]⟩ : ByteArray), (⟨#[115, 105, 108, 101, 110, 116]⟩ : ByteArray), (⟨#[117, 110, 117, 115, 101, 100]⟩ : ByteArray), (⟨#[112, 105, 110, 110, 101, 100]⟩ : ByteArray), (⟨#[98, 97, 114, 101]⟩ : ByteArray), (⟨#[108, 101, 97, 100, 105, 110, 103]⟩ : ByteArray), (⟨#[116, 114, 117, 110, 107]⟩ : ByteArray)]]) r) := by
 unfold palingref47_Text_J3 at h
 obtain ⟨h31, h⟩|⟨h31, h⟩ := ite_out h
 ·obtain ⟨r32, h33, h⟩ := bo h
  obtain rfl := oi h; exact rl [2, 3, 4, 5, 6] [0, 1, 2] [.t, .callv (.x r32)] (pc h31<|pc (k_palingref03_Text h33)<|pn)
 ·obtain rfl := oi h; exact rl [2, 3, 4, 5, 6] [0, 1, 2] [.f] (pc h31<|pn)

theorem k_palingref47_Text_J4 {a1 : Api_Net} {a2 : Palingref47_Note} {v35 : ByteArray} {r : ByteArray} (h : palingref47_Text_J4 a1 a2 v35 = some r) :
  ExecOK Tryz.prog UU 0 94 (subC (codeOf Tryz.f11) [1, 1, 1, 1, 1, 1, 1, 0]) [(2, .o 0), (3, .o 1), (4, .e), (5, .os 2 (List.length [(⟨#[115, 104, 105, 102, 116, 101, 100]⟩ : ByteArray), (⟨#[108, 111, 112, 115, 105, 100, 101, 100]⟩ : ByteArray), (⟨#[108, 111, 110, 101, 108, 121]⟩ : ByteArray), (⟨#[115, 105, 108, 101, 110, 116]⟩ : ByteArray), (⟨#[117, 110, 117, 115, 101, 100]⟩ : ByteArray), (⟨#[112, 105, 110, 110, 101, 100]⟩ : ByteArray), (⟨#[98, 97, 114, 101]⟩ : ByteArray), (⟨#[108, 101, 97, 100, 105, 110, 103]⟩ : ByteArray), (⟨#[116, 114, 117, 110, 107]⟩ : ByteArray)])), (6, .x v35)] [.box 31 (c31 a1) false, .box 43 (c43 a2) false, .w 9 [(⟨#[115, 104, 105, 102, 116, 101, 100]⟩ : ByteArray), (⟨#[108, 111, 112, 115, 105, 100, 101, 100]⟩ : ByteArray), (⟨#[108, 111, 110, 101, 108, 121]⟩ : ByteArray), (⟨#[115, 105, 108, 101, 110, 116]⟩ : ByteArray), (⟨#[117, 110, 117, 115, 101, 100]⟩ : ByteArray), (⟨#[112, 105, 110, 110, 101, 100]⟩ : ByteArray), (⟨#[98, 97, 114, 101]⟩ : ByteArray), (⟨#[108, 101, 97, 100, 105, 110, 103]⟩ : ByteArray), (⟨#[116, 114, 117, 110, 107]⟩ : ByteArray)]] ((fun r => match r with | v48 => .nor) r) ((fun r => match r with | v48 => [(3, .o 0), (4, .e), (5, .os 1 (List.length [(⟨#[115, 104, 105, 102, 116, 101, 100]⟩ : ByteArray), (⟨#[108, 111, 112, 115, 105, 100, 101, 100]⟩ : ByteArray), (⟨#[108, 111, 110, 101, 108, 121]⟩ : ByteArray), (⟨#[115, 105, 108, 101, 110, 116]⟩ : ByteArray), (⟨#[117, 110, 117, 115, 101, 100]⟩ : ByteArray), (⟨#[112, 105, 110, 110, 101, 100]⟩ : ByteArray), (⟨#[98, 97, 114, 101]⟩ : ByteArray), (⟨#[108, 101, 97, 100, 105, 110, 103]⟩ : ByteArray), (⟨#[116, 114, 117, 110, 107]⟩ : ByteArray)])), (6, .x v48)]) r) ((fun r => match r with | v48 => [.box 43 (c43 a2) false, .w 9 [(⟨#[115, 104, 105, 102, 116, 101, 100]⟩ : ByteArray), (⟨#[108, 111, 112, 115, 105, 100, 101, 100]⟩ : ByteArray), (⟨#[108, 111, 110, 101, 108, 121]⟩ : ByteArray), (⟨#[115, 105, 108, 101, 110, 116]⟩ : ByteArray), (⟨#[117, 110, 117, 115, 101, 100]⟩ : ByteArray), (⟨#[112, 105, 110, 110, 101, 100]⟩ : ByteArray), (⟨#[98, 97, 114, 101]⟩ : ByteArray), (⟨#[108, 101, 97, 100, 105, 110, 103]⟩ : ByteArray), (⟨#[116, 114, 117, 110, 107]⟩ : ByteArray)]]) r) := by
 unfold palingref47_Text_J4 at h
 obtain ⟨r38, h39, h⟩ := bo h
 obtain ⟨h40, h⟩|⟨h40, h⟩ := ite_out h
 ·obtain ⟨h41, h⟩|⟨h41, h⟩ := ite_out h
  ·obtain ⟨r42, h43, h⟩ := bo h
   obtain ⟨h44, h⟩|⟨h44, h⟩ := ite_out h
   ·obtain ⟨x45, h46, h⟩ := bo h
    obtain rfl := oi h; exact rl [3, 4, 5, 6] [1, 2] [.b r38, .t, .t, .b r42, .t, .row (c61 x45)] (pc (k_palingref15_Right h39)<|pc h40<|pc h41<|pc (k_palingref15_Place h43)<|pc h44<|pc (ob61 h46)<|pn)
   ·obtain rfl := oi h; exact rl [3, 4, 5, 6] [1, 2] [.b r38, .t, .t, .b r42, .f] (pc (k_palingref15_Right h39)<|pc h40<|pc h41<|pc (k_palingref15_Place h43)<|pc h44<|pn)
  ·obtain rfl := oi h; exact rl [3, 4, 5, 6] [1, 2] [.b r38, .t, .f] (pc (k_palingref15_Right h39)<|pc h40<|pc h41<|pn)
 ·obtain rfl := oi h; exact rl [3, 4, 5, 6] [1, 2] [.b r38, .f] (pc (k_palingref15_Right h39)<|pc h40<|pn)

def b0_k_palingref47_Text (a1 : Api_Net) (a2 : Palingref47_Note) : List (AObj DD) := [.box 31 (c31 a1) false, .box 43 (c43 a2) false, .w 9 [(⟨#[115, 104, 105, 102, 116, 101, 100]⟩ : ByteArray), (⟨#[108, 111, 112, 115, 105, 100, 101, 100]⟩ : ByteArray), (⟨#[108, 111, 110, 101, 108, 121]⟩ : ByteArray), (⟨#[115, 105, 108, 101, 110, 116]⟩ : ByteArray), (⟨#[117, 110, 117, 115, 101, 100]⟩ : ByteArray), (⟨#[112, 105, 110, 110, 101, 100]⟩ : ByteArray), (⟨#[98, 97, 114, 101]⟩ : ByteArray), (⟨#[108, 101, 97, 100, 105, 110, 103]⟩ : ByteArray), (⟨#[116, 114, 117, 110, 107]⟩ : ByteArray)]]
theorem k_palingref47_Text {a1 : Api_Net} {a2 : Palingref47_Note} {r : ByteArray} (h : palingref47_Text a1 a2 = some r) :
  CallsOK Tryz.prog UU 11 [.agg (c31 a1), .agg (c43 a2)] [] (.x r) [] := by
 unfold palingref47_Text at h
 obtain ⟨h3, h⟩|⟨h3, h⟩ := ite_out h
 ·obtain rfl := oi h; exact rf Tryz.func11 none [.obj [] (.w 9 [(⟨#[115, 104, 105, 102, 116, 101, 100]⟩ : ByteArray), (⟨#[108, 111, 112, 115, 105, 100, 101, 100]⟩ : ByteArray), (⟨#[108, 111, 110, 101, 108, 121]⟩ : ByteArray), (⟨#[115, 105, 108, 101, 110, 116]⟩ : ByteArray), (⟨#[117, 110, 117, 115, 101, 100]⟩ : ByteArray), (⟨#[112, 105, 110, 110, 101, 100]⟩ : ByteArray), (⟨#[98, 97, 114, 101]⟩ : ByteArray), (⟨#[108, 101, 97, 100, 105, 110, 103]⟩ : ByteArray), (⟨#[116, 114, 117, 110, 107]⟩ : ByteArray)]), .t] (pc (bs_ob 9 [(⟨#[115, 104, 105, 102, 116, 101, 100]⟩ : ByteArray), (⟨#[108, 111, 112, 115, 105, 100, 101, 100]⟩ : ByteArray), (⟨#[108, 111, 110, 101, 108, 121]⟩ : ByteArray), (⟨#[115, 105, 108, 101, 110, 116]⟩ : ByteArray), (⟨#[117, 110, 117, 115, 101, 100]⟩ : ByteArray), (⟨#[112, 105, 110, 110, 101, 100]⟩ : ByteArray), (⟨#[98, 97, 114, 101]⟩ : ByteArray), (⟨#[108, 101, 97, 100, 105, 110, 103]⟩ : ByteArray), (⟨#[116, 114, 117, 110, 107]⟩ : ByteArray)])<|pc h3<|pn)
 ·obtain ⟨h4, h⟩|⟨h4, h⟩ := ite_out h
  ·obtain rfl := oi h; exact rf Tryz.func11 none [.obj [] (.w 9 [(⟨#[115, 104, 105, 102, 116, 101, 100]⟩ : ByteArray), (⟨#[108, 111, 112, 115, 105, 100, 101, 100]⟩ : ByteArray), (⟨#[108, 111, 110, 101, 108, 121]⟩ : ByteArray), (⟨#[115, 105, 108, 101, 110, 116]⟩ : ByteArray), (⟨#[117, 110, 117, 115, 101, 100]⟩ : ByteArray), (⟨#[112, 105, 110, 110, 101, 100]⟩ : ByteArray), (⟨#[98, 97, 114, 101]⟩ : ByteArray), (⟨#[108, 101, 97, 100, 105, 110, 103]⟩ : ByteArray), (⟨#[116, 114, 117, 110, 107]⟩ : ByteArray)]), .f, .t] (pc (bs_ob 9 [(⟨#[115, 104, 105, 102, 116, 101, 100]⟩ : ByteArray), (⟨#[108, 111, 112, 115, 105, 100, 101, 100]⟩ : ByteArray), (⟨#[108, 111, 110, 101, 108, 121]⟩ : ByteArray), (⟨#[115, 105, 108, 101, 110, 116]⟩ : ByteArray), (⟨#[117, 110, 117, 115, 101, 100]⟩ : ByteArray), (⟨#[112, 105, 110, 110, 101, 100]⟩ : ByteArray), (⟨#[98, 97, 114, 101]⟩ : ByteArray), (⟨#[108, 101, 97, 100, 105, 110, 103]⟩ : ByteArray), (⟨#[116, 114, 117, 110, 107]⟩ : ByteArray)])<|pc h3<|pc h4<|pn)
  ·obtain ⟨v15, h16, h⟩ := bo h
   obtain ⟨v28, h29, h⟩ := bo h
   obtain ⟨v35, h36, h⟩ := bo h
   obtain ⟨v48, h49, h⟩ := bo h
   obtain ⟨r51, h52, h⟩ := bo h
   obtain ⟨h53, h⟩|⟨h53, h⟩ := ite_out h
   ·obtain ⟨h54, h⟩|⟨h54, h⟩ := ite_out h
    ·obtain ⟨x55, h56, h⟩ := bo h
     obtain ⟨h57, h⟩|⟨h57, h⟩ := ite_out h
     ·obtain ⟨h58, h⟩|⟨h58, h⟩ := ite_out h
      ·obtain ⟨h59, h⟩|⟨h59, h⟩ := ite_out h
       ·obtain ⟨h60, h⟩|⟨h60, h⟩ := ite_out h
        ·obtain ⟨r61, h62, h⟩ := bo h
         obtain ⟨h63, h⟩|⟨h63, h⟩ := ite_out h
         ·obtain rfl := oi h; exact rf Tryz.func11 none [.obj [] (.w 9 [(⟨#[115, 104, 105, 102, 116, 101, 100]⟩ : ByteArray), (⟨#[108, 111, 112, 115, 105, 100, 101, 100]⟩ : ByteArray), (⟨#[108, 111, 110, 101, 108, 121]⟩ : ByteArray), (⟨#[115, 105, 108, 101, 110, 116]⟩ : ByteArray), (⟨#[117, 110, 117, 115, 101, 100]⟩ : ByteArray), (⟨#[112, 105, 110, 110, 101, 100]⟩ : ByteArray), (⟨#[98, 97, 114, 101]⟩ : ByteArray), (⟨#[108, 101, 97, 100, 105, 110, 103]⟩ : ByteArray), (⟨#[116, 114, 117, 110, 107]⟩ : ByteArray)]), .f, .f, .skp, .cut [2, 3, 4, 5, 6] [0, 1, 2] .nor [(2, .o 0), (3, .o 1), (4, .e), (5, .os 2 (List.length [(⟨#[115, 104, 105, 102, 116, 101, 100]⟩ : ByteArray), (⟨#[108, 111, 112, 115, 105, 100, 101, 100]⟩ : ByteArray), (⟨#[108, 111, 110, 101, 108, 121]⟩ : ByteArray), (⟨#[115, 105, 108, 101, 110, 116]⟩ : ByteArray), (⟨#[117, 110, 117, 115, 101, 100]⟩ : ByteArray), (⟨#[112, 105, 110, 110, 101, 100]⟩ : ByteArray), (⟨#[98, 97, 114, 101]⟩ : ByteArray), (⟨#[108, 101, 97, 100, 105, 110, 103]⟩ : ByteArray), (⟨#[116, 114, 117, 110, 107]⟩ : ByteArray)])), (6, .x v15)] (b0_k_palingref47_Text a1 a2), .cut [2, 3, 4, 5, 6] [0, 1, 2] .nor [(2, .o 0), (3, .o 1), (4, .e), (5, .os 2 (List.length [(⟨#[115, 104, 105, 102, 116, 101, 100]⟩ : ByteArray), (⟨#[108, 111, 112, 115, 105, 100, 101, 100]⟩ : ByteArray), (⟨#[108, 111, 110, 101, 108, 121]⟩ : ByteArray), (⟨#[115, 105, 108, 101, 110, 116]⟩ : ByteArray), (⟨#[117, 110, 117, 115, 101, 100]⟩ : ByteArray), (⟨#[112, 105, 110, 110, 101, 100]⟩ : ByteArray), (⟨#[98, 97, 114, 101]⟩ : ByteArray), (⟨#[108, 101, 97, 100, 105, 110, 103]⟩ : ByteArray), (⟨#[116, 114, 117, 110, 107]⟩ : ByteArray)])), (6, .x v28)] (b0_k_palingref47_Text a1 a2), .cut [2, 3, 4, 5, 6] [0, 1, 2] .nor [(2, .o 0), (3, .o 1), (4, .e), (5, .os 2 (List.length [(⟨#[115, 104, 105, 102, 116, 101, 100]⟩ : ByteArray), (⟨#[108, 111, 112, 115, 105, 100, 101, 100]⟩ : ByteArray), (⟨#[108, 111, 110, 101, 108, 121]⟩ : ByteArray), (⟨#[115, 105, 108, 101, 110, 116]⟩ : ByteArray), (⟨#[117, 110, 117, 115, 101, 100]⟩ : ByteArray), (⟨#[112, 105, 110, 110, 101, 100]⟩ : ByteArray), (⟨#[98, 97, 114, 101]⟩ : ByteArray), (⟨#[108, 101, 97, 100, 105, 110, 103]⟩ : ByteArray), (⟨#[116, 114, 117, 110, 107]⟩ : ByteArray)])), (6, .x v35)] (b0_k_palingref47_Text a1 a2), .cut [2, 3, 4, 5, 6] [0, 1, 2] .nor [(3, .o 0), (4, .e), (5, .os 1 (List.length [(⟨#[115, 104, 105, 102, 116, 101, 100]⟩ : ByteArray), (⟨#[108, 111, 112, 115, 105, 100, 101, 100]⟩ : ByteArray), (⟨#[108, 111, 110, 101, 108, 121]⟩ : ByteArray), (⟨#[115, 105, 108, 101, 110, 116]⟩ : ByteArray), (⟨#[117, 110, 117, 115, 101, 100]⟩ : ByteArray), (⟨#[112, 105, 110, 110, 101, 100]⟩ : ByteArray), (⟨#[98, 97, 114, 101]⟩ : ByteArray), (⟨#[108, 101, 97, 100, 105, 110, 103]⟩ : ByteArray), (⟨#[116, 114, 117, 110, 107]⟩ : ByteArray)])), (6, .x v48)] [.box 43 (c43 a2) false, .w 9 [(⟨#[115, 104, 105, 102, 116, 101, 100]⟩ : ByteArray), (⟨#[108, 111, 112, 115, 105, 100, 101, 100]⟩ : ByteArray), (⟨#[108, 111, 110, 101, 108, 121]⟩ : ByteArray), (⟨#[115, 105, 108, 101, 110, 116]⟩ : ByteArray), (⟨#[117, 110, 117, 115, 101, 100]⟩ : ByteArray), (⟨#[112, 105, 110, 110, 101, 100]⟩ : ByteArray), (⟨#[98, 97, 114, 101]⟩ : ByteArray), (⟨#[108, 101, 97, 100, 105, 110, 103]⟩ : ByteArray), (⟨#[116, 114, 117, 110, 107]⟩ : ByteArray)]], .callv (.x r51), .row (c9 x55), .callv (.x r61)] (pc (bs_ob 9 [(⟨#[115, 104, 105, 102, 116, 101, 100]⟩ : ByteArray), (⟨#[108, 111, 112, 115, 105, 100, 101, 100]⟩ : ByteArray), (⟨#[108, 111, 110, 101, 108, 121]⟩ : ByteArray), (⟨#[115, 105, 108, 101, 110, 116]⟩ : ByteArray), (⟨#[117, 110, 117, 115, 101, 100]⟩ : ByteArray), (⟨#[112, 105, 110, 110, 101, 100]⟩ : ByteArray), (⟨#[98, 97, 114, 101]⟩ : ByteArray), (⟨#[108, 101, 97, 100, 105, 110, 103]⟩ : ByteArray), (⟨#[116, 114, 117, 110, 107]⟩ : ByteArray)])<|pc h3<|pc h4<|pc (k_palingref47_Text_J1 h16)<|pc (k_palingref47_Text_J2 h29)<|pc (k_palingref47_Text_J3 h36)<|pc (k_palingref47_Text_J4 h49)<|pc (k_palingref03_Text h52)<|pc (of_decide_eq_true h53)<|pc (an (List.length [(⟨#[115, 104, 105, 102, 116, 101, 100]⟩ : ByteArray), (⟨#[108, 111, 112, 115, 105, 100, 101, 100]⟩ : ByteArray), (⟨#[108, 111, 110, 101, 108, 121]⟩ : ByteArray), (⟨#[115, 105, 108, 101, 110, 116]⟩ : ByteArray), (⟨#[117, 110, 117, 115, 101, 100]⟩ : ByteArray), (⟨#[112, 105, 110, 110, 101, 100]⟩ : ByteArray), (⟨#[98, 97, 114, 101]⟩ : ByteArray), (⟨#[108, 101, 97, 100, 105, 110, 103]⟩ : ByteArray), (⟨#[116, 114, 117, 110, 107]⟩ : ByteArray)]) (lin_ob h54))<|pc (an (List.length [(⟨#[115, 104, 105, 102, 116, 101, 100]⟩ : ByteArray), (⟨#[108, 111, 112, 115, 105, 100, 101, 100]⟩ : ByteArray), (⟨#[108, 111, 110, 101, 108, 121]⟩ : ByteArray), (⟨#[115, 105, 108, 101, 110, 116]⟩ : ByteArray), (⟨#[117, 110, 117, 115, 101, 100]⟩ : ByteArray), (⟨#[112, 105, 110, 110, 101, 100]⟩ : ByteArray), (⟨#[98, 97, 114, 101]⟩ : ByteArray), (⟨#[108, 101, 97, 100, 105, 110, 103]⟩ : ByteArray), (⟨#[116, 114, 117, 110, 107]⟩ : ByteArray)]) (obn9 h56))<|pc (of_decide_eq_true h57)<|pc (of_decide_eq_true h58)<|pc (of_decide_eq_true h59)<|pc (of_decide_eq_true h60)<|pc (k_palingref03_Text h62)<|pc (of_decide_eq_true h63)<|pn)
         ·cases h
        ·cases h
       ·cases h
      ·cases h
     ·cases h
    ·cases h
   ·cases h

theorem k_palinglaw47_AuditTells_L1 {a1 : Api_Net} {a2 : Audit_Note} {l10 : List Audit_Note} {l14 : List Palingref47_Note} : LoopOK Tryz.prog UU 0 73 (subC (codeOf Tryz.f3) [1, 1, 1, 1, 1, 0, 1, 0, 0]) (ρ := Unit ⊕ Unit) (palinglaw47_AuditTells_L1 a1 a2 l10 l14)
  (fun v18 : Int => ([(2, .o 0), (3, .o 1), (4, .y false), (5, .os 2 l10.length), (7, .os 3 l14.length), (34, .j (l10.length : Int)), (35, .j v18)] : Fr DD)) (fun v18 : Int => ([.box 31 (c31 a1) false, .box 33 (c33 a2) false, .w 33 l10, .w 43 l14] : Heap DD)) (fun r => match r with | Sum.inl _ => .ret | Sum.inr _ => .exit 0) (fun r => match r with | Sum.inl _ => [(4, .y false)] | Sum.inr _ => [(2, .o 0), (3, .o 1), (4, .y false)]) (fun r => match r with | Sum.inl _ => [] | Sum.inr _ => [.box 31 (c31 a1) false, .box 33 (c33 a2) false]) := by
 refine loop_sound3 (fun s q h => ?_) (fun r => ?_)
 ·replace h : palinglaw47_AuditTells_L1 a1 a2 l10 l14 s = some q := h; revert h; revert s; intro v18 h
  unfold palinglaw47_AuditTells_L1 at h
  obtain ⟨h19, h⟩|⟨h19, h⟩ := ite_out h
  ·obtain ⟨h20, h⟩|⟨h20, h⟩ := ite_out h
   ·obtain ⟨x21, h22, h⟩ := bo h
    obtain ⟨h23, h⟩|⟨h23, h⟩ := ite_out h
    ·obtain ⟨x24, h25, h⟩ := bo h
     obtain ⟨h26, h⟩|⟨h26, h⟩ := ite_out h
     ·obtain rfl := oi h; exact rl [4] [] [.t, .row (c33 x21), .row (c43 x24), .t] (pc h19<|pc (an l10.length (lin_ob h20))<|pc (an l10.length (obn33 h22))<|pc (an l14.length (lin_ob h23))<|pc (an l14.length (obn43 h25))<|pc h26<|pn)
     ·obtain ⟨x27, h28, h⟩ := bo h
      obtain ⟨r29, h30, h⟩ := bo h
      obtain ⟨x31, h32, h⟩ := bo h
      obtain ⟨r33, h34, h⟩ := bo h
      obtain ⟨h35, h⟩|⟨h35, h⟩ := ite_out h
      ·obtain rfl := oi h; exact rl [4] [] [.t, .row (c33 x21), .row (c43 x24), .f, .row (c33 x27), .callv (.x r29), .row (c43 x31), .callv (.x r33), .t] (pc h19<|pc (an l10.length (lin_ob h20))<|pc (an l10.length (obn33 h22))<|pc (an l14.length (lin_ob h23))<|pc (an l14.length (obn43 h25))<|pc h26<|pc (an l10.length (lin_ob h20))<|pc (an l10.length (obn33 h28))<|pc (k_audit_Text h30)<|pc (an l14.length (lin_ob h23))<|pc (an l14.length (obn43 h32))<|pc (k_palingref47_Text h34)<|pc h35<|pn)
      ·obtain rfl := oi h; exact rl [2, 3, 4, 5, 7, 34, 35] [0, 1, 2, 3] [.t, .row (c33 x21), .row (c43 x24), .f, .row (c33 x27), .callv (.x r29), .row (c43 x31), .callv (.x r33), .f] (pc h19<|pc (an l10.length (lin_ob h20))<|pc (an l10.length (obn33 h22))<|pc (an l14.length (lin_ob h23))<|pc (an l14.length (obn43 h25))<|pc h26<|pc (an l10.length (lin_ob h20))<|pc (an l10.length (obn33 h28))<|pc (k_audit_Text h30)<|pc (an l14.length (lin_ob h23))<|pc (an l14.length (obn43 h32))<|pc (k_palingref47_Text h34)<|pc h35<|pn)
    ·cases h
   ·cases h
  ·obtain rfl := oi h; exact rl [2, 3, 4] [0, 1] [.f] (pc h19<|pn)
 ·rcases r with _ | _ <;> exact Ex.noConfusion

theorem k_palinglaw47_AuditTells {a1 : Api_Net} {a2 : Audit_Note} {r : Bool} (h : palinglaw47_AuditTells a1 a2 = some r) :
  CallsOK Tryz.prog UU 3 [.agg (c31 a1), .agg (c33 a2)] [] (.y r) [] := by
 unfold palinglaw47_AuditTells at h
 obtain ⟨r3, h4, h⟩ := bo h
 obtain ⟨h5, h⟩|⟨h5, h⟩ := ite_out h
 ·obtain ⟨r6, h7, h⟩ := bo h
  obtain rfl := oi h; exact rf Tryz.func3 none [.b r3, .t, .b r6] (pc (k_palinglaw44_Great h4)<|pc h5<|pc (k_palinglaw47_works h7)<|pn)
 ·obtain ⟨r8, h9, h⟩ := bo h
  obtain ⟨l10, v11⟩ := r8
  obtain ⟨r12, h13, h⟩ := bo h
  obtain ⟨l14, v15⟩ := r12
  obtain ⟨h16, h⟩|⟨h16, h⟩ := ite_out h
  ·obtain rfl := oi h; exact rf Tryz.func3 none [.b r3, .f, .callo (.tup [.os 0 l10.length, .j v11]) [.w 33 l10], .callo (.tup [.os 0 l14.length, .j v15]) [.w 43 l14], .t] (pc (k_palinglaw44_Great h4)<|pc h5<|pc (k_audit_All h9)<|pc (im33 l10)<|pc (k_palingref47_All h13)<|pc (im43 l14)<|pc (rn l10.length)<|pc (rn l14.length)<|pc h16<|pn)
  ·obtain ⟨h17, h⟩|⟨h17, h⟩ := ite_out h
   ·obtain rfl := oi h; exact rf Tryz.func3 none [.b r3, .f, .callo (.tup [.os 0 l10.length, .j v11]) [.w 33 l10], .callo (.tup [.os 0 l14.length, .j v15]) [.w 43 l14], .f, .t] (pc (k_palinglaw44_Great h4)<|pc h5<|pc (k_audit_All h9)<|pc (im33 l10)<|pc (k_palingref47_All h13)<|pc (im43 l14)<|pc (rn l10.length)<|pc (rn l14.length)<|pc h16<|pc h17<|pn)
   ·obtain ⟨r37, h36, h⟩ := bo h
    rcases r37 with _ | _
    ·obtain rfl := oi h; exact rf Tryz.func3 none [.b r3, .f, .callo (.tup [.os 0 l10.length, .j v11]) [.w 33 l10], .callo (.tup [.os 0 l14.length, .j v15]) [.w 43 l14], .f, .f, .sum [2, 3, 4, 5, 7, 34, 35] [0, 1, 2, 3] .ret [(4, .y false)] []] (pc (k_palinglaw44_Great h4)<|pc h5<|pc (k_audit_All h9)<|pc (im33 l10)<|pc (k_palingref47_All h13)<|pc (im43 l14)<|pc (rn l10.length)<|pc (rn l14.length)<|pc h16<|pc h17<|pc (rn l10.length)<|pc (k_palinglaw47_AuditTells_L1 _ _ h36)<|pn)
    ·obtain ⟨r38, h39, h⟩ := bo h
     obtain ⟨r40, h41, h⟩ := bo h
     obtain ⟨h42, h⟩|⟨h42, h⟩ := ite_out h
     ·obtain ⟨r43, h44, h⟩ := bo h
      obtain rfl := oi h; exact rf Tryz.func3 none [.b r3, .f, .callo (.tup [.os 0 l10.length, .j v11]) [.w 33 l10], .callo (.tup [.os 0 l14.length, .j v15]) [.w 43 l14], .f, .f, .sum [2, 3, 4, 5, 7, 34, 35] [0, 1, 2, 3] (.exit 0) [(2, .o 0), (3, .o 1), (4, .y false)] [.box 31 (c31 a1) false, .box 33 (c33 a2) false], .callv (.x r38), .callv (.x r40), .t, .b r43] (pc (k_palinglaw44_Great h4)<|pc h5<|pc (k_audit_All h9)<|pc (im33 l10)<|pc (k_palingref47_All h13)<|pc (im43 l14)<|pc (rn l10.length)<|pc (rn l14.length)<|pc h16<|pc h17<|pc (rn l10.length)<|pc (k_palinglaw47_AuditTells_L1 _ _ h36)<|pc (k_audit_Text h39)<|pc (k_palingref47_Text h41)<|pc h42<|pc (k_palinglaw47_works h44)<|pn)
     ·obtain rfl := oi h; exact rf Tryz.func3 none [.b r3, .f, .callo (.tup [.os 0 l10.length, .j v11]) [.w 33 l10], .callo (.tup [.os 0 l14.length, .j v15]) [.w 43 l14], .f, .f, .sum [2, 3, 4, 5, 7, 34, 35] [0, 1, 2, 3] (.exit 0) [(2, .o 0), (3, .o 1), (4, .y false)] [.box 31 (c31 a1) false, .box 33 (c33 a2) false], .callv (.x r38), .callv (.x r40), .f] (pc (k_palinglaw44_Great h4)<|pc h5<|pc (k_audit_All h9)<|pc (im33 l10)<|pc (k_palingref47_All h13)<|pc (im43 l14)<|pc (rn l10.length)<|pc (rn l14.length)<|pc h16<|pc h17<|pc (rn l10.length)<|pc (k_palinglaw47_AuditTells_L1 _ _ h36)<|pc (k_audit_Text h39)<|pc (k_palingref47_Text h41)<|pc h42<|pn)

end Go.Eng
